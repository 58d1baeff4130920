/- The walks of the reference: Number. -/
import Derived.Test.YtojppincaalibaaGreatDoorRfA
import Derived.Test.YtojppincaalibaaGreatDoorEqS
set_option linter.unusedVariables false
set_option linter.unusedSimpArgs false
set_option maxRecDepth 100000
namespace Go.Proofs.YtojppincaalibaaGreatDoor
open Go.Shelf Go.RowKit

set_option maxHeartbeats 4000000 in
theorem rnumber_calls (s : ByteArray) (hs : s.size ≤ 1000000) (w : World) :
    Calls Tryz.prog 12 #[.string s] w fun e w' => e = .returned (.tuple #[.int .i64 (refNumR (bl s)).1, .int .i64 (refNumR (bl s)).2]) ∧ Below w.heap.size w w' := by
  by_cases h0 : 0 < s.size
  · have hb0 : bl s = s[0] :: (bl s).drop 1 := by have := drop_at s 0 h0; rwa [List.drop_zero] at this
    obtain ⟨c0, hc0⟩ : ∃ c, s[0] = c := ⟨_, rfl⟩
    rw [hc0] at hb0
    have hz : decide (0 < (s.size : Int)) = true := by simp; omega
    by_cases h45 : c0 = 45
    · have t0 := beq_t c0 45 45 rfl h45
      by_cases h1 : s.size = 1
      · have HE : Hid (refNumR (bl s) = (0, 250)) := Lib.hid (by
          rw [hb0, h45, drop_end s 1 (by omega)]; rfl)
        have he : ((1 : Int) == (s.size : Int)) = true := by simp; omega
        clear hb0 h45 h1
        go_enter Tryz.func12, Tryz.ntmps12
        go_wp2
        go_ret2
        rw [HE.out]
        exact ⟨rfl, Below.refl _ _⟩
      · have h2 : 1 < s.size := by omega
        have hne : (bl s).drop 1 ≠ [] := by rw [drop_at s 1 h2]; simp
        have HBAD : Hid (((bl s).drop 1).all isDig = false → refNumR (bl s) = (0, 250)) := Lib.hid (fun h => by
          unfold refNumR
          rw [hb0, h45]
          simp only [List.head?_cons, decide_true, if_true, List.tail_cons]
          rw [if_neg hne, if_pos h])
        have HOK : Hid (((bl s).drop 1).all isDig = true → refNumR (bl s) = if -(((bl s).drop 1).foldl rnStep 0) < -2147483648 ∨ 2147483647 < -(((bl s).drop 1).foldl rnStep 0) then (0, 250) else (-(((bl s).drop 1).foldl rnStep 0), 0)) := Lib.hid (fun h => by
          unfold refNumR
          rw [hb0, h45]
          simp only [List.head?_cons, decide_true, if_true, List.tail_cons]
          rw [← h45, ← hb0, if_neg hne, if_neg (by rw [h]; simp)])
        have he : ((1 : Int) == (s.size : Int)) = false := by simp; omega
        clear hb0 h45 h1 hne
        go_enter Tryz.func12, Tryz.ntmps12
        go_wp2
        go_loopw [6, 7] (fun v i wr => ∃ (k : Nat) (x : Int), 1 ≤ k ∧ k ≤ s.size ∧ i = .int .i64 k ∧ v = .int .i64 x ∧ 0 ≤ x ∧ x ≤ 2147483649 ∧ wr = w ∧ Hid (((bl s).drop 1).foldl rnStep 0 = ((bl s).drop k).foldl rnStep x) ∧ Hid (((bl s).drop 1).all isDig = ((bl s).drop k).all isDig)) (fun _ i _ => (s.size - intOf i).toNat)
        case atStart => exact ⟨1, 0, by omega, by omega, rfl, rfl, by omega, by omega, rfl, Lib.hid rfl, Lib.hid rfl⟩
        case round =>
          obtain ⟨k, x, hk0, hk, rfl, rfl, hx0, hx1, rfl, HV, HD⟩ := hrel
          by_cases hlt : k < s.size
          · have hlz : decide ((k : Int) < (s.size : Int)) = true := by simp; omega
            obtain ⟨c, hcc⟩ : ∃ c, s[k] = c := ⟨_, rfl⟩
            have hdr : (bl s).drop k = c :: (bl s).drop (k + 1) := by rw [drop_at s k hlt, hcc]
            have HV2 := HV.out
            have HD2 := HD.out
            rw [hdr] at HV2 HD2
            rw [List.foldl_cons] at HV2
            rw [List.all_cons] at HD2
            have HVV := Lib.hid HV2
            have HDD := Lib.hid HD2
            clear HV2 HD2 HV HD hdr
            by_cases h48 : c.toNat < 48
            · have t1 : decide ((c.toNat : Int) < 48) = true := by simp; omega
              have HE : Hid (refNumR (bl s) = (0, 250)) := Lib.hid (HBAD.out (by rw [HDD.out]; unfold isDig; simp; omega))
              go_wp2
              go_ret2
              rw [HE.out]
              exact ⟨rfl, Below.refl _ _⟩
            · have t1 : decide ((c.toNat : Int) < 48) = false := by simp; omega
              by_cases h57 : 57 < c.toNat
              · have t2 : decide (57 < (c.toNat : Int)) = true := by simp; omega
                have HE : Hid (refNumR (bl s) = (0, 250)) := Lib.hid (HBAD.out (by rw [HDD.out]; unfold isDig; simp; omega))
                go_wp2
                go_ret2
                rw [HE.out]
                exact ⟨rfl, Below.refl _ _⟩
              · have t2 : decide (57 < (c.toNat : Int)) = false := by simp; omega
                have h48' : (48 : Int) ≤ (c.toNat : Int) := by omega
                have h57' : (c.toNat : Int) ≤ 57 := by omega
                have HDI : Hid (isDig c = true) := Lib.hid (by unfold isDig; simp; omega)
                have HD3 : Hid (((bl s).drop 1).all isDig = ((bl s).drop (k + 1)).all isDig) := Lib.hid (by rw [HDD.out, HDI.out]; rfl)
                by_cases hbig : 2147483648 < x * 10 + ((c.toNat : Int) - 48)
                · have hb2 : decide (2147483648 < x * 10 + ((c.toNat : Int) - 48)) = true := by simpa using hbig
                  have HV3 : Hid (((bl s).drop 1).foldl rnStep 0 = ((bl s).drop (k + 1)).foldl rnStep 2147483649) := Lib.hid (by rw [HVV.out]; unfold rnStep; rw [if_pos hbig])
                  go_wp2
                  go_roundw
                  case rel => exact ⟨k + 1, 2147483649, by omega, by omega, by go_num, by first | rfl | trivial, by omega, by omega, by first | rfl | trivial, HV3, HD3⟩
                  case measure => simp [intOf]; omega
                · have hb2 : decide (2147483648 < x * 10 + ((c.toNat : Int) - 48)) = false := by simpa using hbig
                  have HV3 : Hid (((bl s).drop 1).foldl rnStep 0 = ((bl s).drop (k + 1)).foldl rnStep (x * 10 + ((c.toNat : Int) - 48))) := Lib.hid (by rw [HVV.out]; unfold rnStep; rw [if_neg hbig])
                  go_wp2
                  go_roundw
                  case rel => exact ⟨k + 1, x * 10 + ((c.toNat : Int) - 48), by omega, by omega, by go_num, by first | rfl | trivial, by omega, by omega, by first | rfl | trivial, HV3, HD3⟩
                  case measure => simp [intOf]; omega
          · obtain rfl : k = s.size := by omega
            have HE : Hid (refNumR (bl s) = if -x < -2147483648 ∨ 2147483647 < -x then (0, 250) else (-x, 0)) := Lib.hid (by
              have hv := HV.out
              have hd := HD.out
              rw [drop_end s s.size (Nat.le_refl _)] at hv hd
              rw [HOK.out hd, hv]
              rfl)
            have hlz : ¬ s.size < s.size := by omega
            clear HV HD
            by_cases hx : x = 2147483649
            · subst hx
              have HE2 : Hid (refNumR (bl s) = (0, 250)) := Lib.hid (by rw [HE.out]; rfl)
              go_wp2
              go_ret2
              rw [HE2.out]
              exact ⟨rfl, Below.refl _ _⟩
            · have HE2 : Hid (refNumR (bl s) = (-x, 0)) := Lib.hid (by rw [HE.out, if_neg (by omega)])
              have hu1 : decide (-x < -2147483648) = false := by simp; omega
              have hu2 : decide (2147483647 < -x) = false := by simp; omega
              have hxl : x ≤ 2147483648 := by omega
              go_wp2
              go_ret2
              rw [HE2.out]
              exact ⟨rfl, Below.refl _ _⟩
    · have t0 := beq_f c0 45 45 rfl h45
      have hne : bl s ≠ [] := by rw [hb0]; simp
      have HBAD : Hid (((bl s).drop 0).all isDig = false → refNumR (bl s) = (0, 250)) := Lib.hid (fun h => by
        rw [List.drop_zero] at h
        unfold refNumR
        have hm : decide ((bl s).head? = some (45 : UInt8)) = false := by rw [hb0]; simp [h45]
        simp only [hm, Bool.false_eq_true, if_false]
        rw [if_neg hne, if_pos h])
      have HOK : Hid (((bl s).drop 0).all isDig = true → refNumR (bl s) = if ((bl s).drop 0).foldl rnStep 0 < -2147483648 ∨ 2147483647 < ((bl s).drop 0).foldl rnStep 0 then (0, 250) else (((bl s).drop 0).foldl rnStep 0, 0)) := Lib.hid (fun h => by
        rw [List.drop_zero] at h ⊢
        unfold refNumR
        have hm : decide ((bl s).head? = some (45 : UInt8)) = false := by rw [hb0]; simp [h45]
        simp only [hm, Bool.false_eq_true, if_false]
        rw [if_neg hne, if_neg (by rw [h]; simp)])
      have he : ((0 : Int) == (s.size : Int)) = false := by simp; omega
      clear hb0 h45 hne
      go_enter Tryz.func12, Tryz.ntmps12
      go_wp2
      go_loopw [6, 7] (fun v i wr => ∃ (k : Nat) (x : Int), 0 ≤ k ∧ k ≤ s.size ∧ i = .int .i64 k ∧ v = .int .i64 x ∧ 0 ≤ x ∧ x ≤ 2147483649 ∧ wr = w ∧ Hid (((bl s).drop 0).foldl rnStep 0 = ((bl s).drop k).foldl rnStep x) ∧ Hid (((bl s).drop 0).all isDig = ((bl s).drop k).all isDig)) (fun _ i _ => (s.size - intOf i).toNat)
      case atStart => exact ⟨0, 0, by omega, by omega, rfl, rfl, by omega, by omega, rfl, Lib.hid rfl, Lib.hid rfl⟩
      case round =>
        obtain ⟨k, x, hk0, hk, rfl, rfl, hx0, hx1, rfl, HV, HD⟩ := hrel
        by_cases hlt : k < s.size
        · have hlz : decide ((k : Int) < (s.size : Int)) = true := by simp; omega
          obtain ⟨c, hcc⟩ : ∃ c, s[k] = c := ⟨_, rfl⟩
          have hdr : (bl s).drop k = c :: (bl s).drop (k + 1) := by rw [drop_at s k hlt, hcc]
          have HV2 := HV.out
          have HD2 := HD.out
          rw [hdr] at HV2 HD2
          rw [List.foldl_cons] at HV2
          rw [List.all_cons] at HD2
          have HVV := Lib.hid HV2
          have HDD := Lib.hid HD2
          clear HV2 HD2 HV HD hdr
          by_cases h48 : c.toNat < 48
          · have t1 : decide ((c.toNat : Int) < 48) = true := by simp; omega
            have HE : Hid (refNumR (bl s) = (0, 250)) := Lib.hid (HBAD.out (by rw [HDD.out]; unfold isDig; simp; omega))
            go_wp2
            go_ret2
            rw [HE.out]
            exact ⟨rfl, Below.refl _ _⟩
          · have t1 : decide ((c.toNat : Int) < 48) = false := by simp; omega
            by_cases h57 : 57 < c.toNat
            · have t2 : decide (57 < (c.toNat : Int)) = true := by simp; omega
              have HE : Hid (refNumR (bl s) = (0, 250)) := Lib.hid (HBAD.out (by rw [HDD.out]; unfold isDig; simp; omega))
              go_wp2
              go_ret2
              rw [HE.out]
              exact ⟨rfl, Below.refl _ _⟩
            · have t2 : decide (57 < (c.toNat : Int)) = false := by simp; omega
              have h48' : (48 : Int) ≤ (c.toNat : Int) := by omega
              have h57' : (c.toNat : Int) ≤ 57 := by omega
              have HDI : Hid (isDig c = true) := Lib.hid (by unfold isDig; simp; omega)
              have HD3 : Hid (((bl s).drop 0).all isDig = ((bl s).drop (k + 1)).all isDig) := Lib.hid (by rw [HDD.out, HDI.out]; rfl)
              by_cases hbig : 2147483648 < x * 10 + ((c.toNat : Int) - 48)
              · have hb2 : decide (2147483648 < x * 10 + ((c.toNat : Int) - 48)) = true := by simpa using hbig
                have HV3 : Hid (((bl s).drop 0).foldl rnStep 0 = ((bl s).drop (k + 1)).foldl rnStep 2147483649) := Lib.hid (by rw [HVV.out]; unfold rnStep; rw [if_pos hbig])
                go_wp2
                go_roundw
                case rel => exact ⟨k + 1, 2147483649, by omega, by omega, by go_num, by first | rfl | trivial, by omega, by omega, by first | rfl | trivial, HV3, HD3⟩
                case measure => simp [intOf]; omega
              · have hb2 : decide (2147483648 < x * 10 + ((c.toNat : Int) - 48)) = false := by simpa using hbig
                have HV3 : Hid (((bl s).drop 0).foldl rnStep 0 = ((bl s).drop (k + 1)).foldl rnStep (x * 10 + ((c.toNat : Int) - 48))) := Lib.hid (by rw [HVV.out]; unfold rnStep; rw [if_neg hbig])
                go_wp2
                go_roundw
                case rel => exact ⟨k + 1, x * 10 + ((c.toNat : Int) - 48), by omega, by omega, by go_num, by first | rfl | trivial, by omega, by omega, by first | rfl | trivial, HV3, HD3⟩
                case measure => simp [intOf]; omega
        · obtain rfl : k = s.size := by omega
          have HE : Hid (refNumR (bl s) = if x < -2147483648 ∨ 2147483647 < x then (0, 250) else (x, 0)) := Lib.hid (by
            have hv := HV.out
            have hd := HD.out
            rw [drop_end s s.size (Nat.le_refl _)] at hv hd
            rw [HOK.out hd, hv]
            rfl)
          have hlz : ¬ s.size < s.size := by omega
          clear HV HD
          have hu1 : decide (x < -2147483648) = false := by simp; omega
          by_cases hx : 2147483647 < x
          · have hu2 : decide (2147483647 < x) = true := by simpa using hx
            have HE2 : Hid (refNumR (bl s) = (0, 250)) := Lib.hid (by rw [HE.out, if_pos (.inr hx)])
            go_wp2
            go_ret2
            rw [HE2.out]
            exact ⟨rfl, Below.refl _ _⟩
          · have hu2 : decide (2147483647 < x) = false := by simpa using hx
            have HE2 : Hid (refNumR (bl s) = (x, 0)) := Lib.hid (by rw [HE.out, if_neg (by omega)])
            go_wp2
            go_ret2
            rw [HE2.out]
            exact ⟨rfl, Below.refl _ _⟩
  · have hz : ¬ 0 < s.size := h0
    have HE : Hid (refNumR (bl s) = (0, 250)) := Lib.hid (by
      have : bl s = [] := by have := drop_end s 0 (by omega); rwa [List.drop_zero] at this
      rw [this]; rfl)
    have he : ((0 : Int) == (s.size : Int)) = true := by simp; omega
    clear h0
    go_enter Tryz.func12, Tryz.ntmps12
    go_wp2
    go_ret2
    rw [HE.out]
    exact ⟨rfl, Below.refl _ _⟩
end Go.Proofs.YtojppincaalibaaGreatDoor
