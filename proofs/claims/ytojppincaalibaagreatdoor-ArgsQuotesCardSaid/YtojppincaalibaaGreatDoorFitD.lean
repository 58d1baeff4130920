/- The walks of (*args.fitter).blank, free; args.readable. -/
import Derived.Test.YtojppincaalibaaGreatDoorFitB
set_option linter.unusedVariables false
set_option linter.unusedSimpArgs false
set_option maxRecDepth 100000
namespace Go.Proofs.YtojppincaalibaaGreatDoor
open Go.Shelf Go.RowKit

theorem skip_at (s : ByteArray) (k : Nat) (h : k < s.size) (e : s[k] ≠ 32) : (skipB ((bl s).drop k)).length = s.size - k := by
  rw [drop_at s k h, skipB_cons_ne e, ← drop_at s k h, drop_len]
theorem skip_end (s : ByteArray) (k : Nat) (h : s.size ≤ k) : (skipB ((bl s).drop k)).length = 0 := by
  rw [drop_end s k h]; rfl

set_option maxHeartbeats 1000000 in
theorem blank_calls (F : Nat) (line : ByteArray) (p : Nat) (hp : p ≤ line.size) (hl : line.size ≤ 1000000) (w : World) (hc : w.cell? ⟨F, 1, none⟩ = some (.string line)) :
    Calls Tryz.prog 42 #[.pointer (some ⟨F, 0, none⟩), .int .i64 p] w fun e w' => e = .returned (.int .i64 ((line.size : Int) - (skipB ((bl line).drop p)).length)) ∧ Below w.heap.size w w' := by
  have hFl : F < w.heap.size := World.block_lt_of_cell? w _ hc
  go_enter Tryz.func42, Tryz.ntmps42
  go_wp2
  go_loopw [1] (fun i wr => ∃ k : Nat, k ≤ line.size ∧ i = .int .i64 k ∧ Below w.heap.size w wr ∧ Hid (SInv line p k)) (fun i _ => (line.size - intOf i).toNat)
  case atStart => exact ⟨p, hp, rfl, Below.refl _ _, Lib.hid rfl⟩
  case round =>
    obtain ⟨k, hk, rfl, hB, HS⟩ := hrel
    have hc2 := (hB.cell (p := ⟨F, 1, none⟩) hFl).trans hc
    by_cases hlt : k < line.size
    · have hlz : decide ((k : Int) < (line.size : Int)) = true := by simp; omega
      obtain ⟨c, hcc⟩ : ∃ c, line[k] = c := ⟨_, rfl⟩
      by_cases h32 : c = 32
      · have t := beq_t c 32 32 rfl h32
        have HS2 : Hid (SInv line p (k + 1)) := Lib.hid (HS.out.step hlt (by rw [hcc, h32]))
        clear h32
        go_wp2
        go_roundw
        case rel => exact ⟨k + 1, by omega, by go_num, hB, HS2⟩
        case measure => simp [intOf]; omega
      · have t := beq_f c 32 32 rfl h32
        have HE : Hid (((line.size : Int) - (skipB ((bl line).drop p)).length) = k) := Lib.hid (by rw [show skipB ((bl line).drop p) = skipB ((bl line).drop k) from HS.out, skip_at line k hlt (by rw [hcc]; exact h32)]; omega)
        clear h32
        go_wp2
        go_ret
        rw [HE.out]
        exact ⟨rfl, hB⟩
    · have HE : Hid (((line.size : Int) - (skipB ((bl line).drop p)).length) = k) := Lib.hid (by rw [show skipB ((bl line).drop p) = skipB ((bl line).drop k) from HS.out, skip_end line k (by omega)]; omega)
      have hlz : decide ((k : Int) < (line.size : Int)) = false := by simp; omega
      go_wp2
      go_ret
      rw [HE.out]
      exact ⟨rfl, hB⟩

theorem any_take_next (p : UInt8 → Bool) (l : Bs) (k : Nat) (c : UInt8) (h : l[k]? = some c) : (l.take (k + 1)).any p = ((l.take k).any p || p c) := by
  rw [List.take_add_one, h]; simp

set_option maxHeartbeats 1000000 in
theorem readable_calls (s : ByteArray) (hl : s.size ≤ 1000000) (w : World) :
    Calls Tryz.prog 24 #[.string s] w fun e w' => e = .returned (.int .i64 (readableR (bl s))) ∧ Below w.heap.size w w' := by
  by_cases h1000 : 1000 < s.size
  · have hz : decide (1000 < (s.size : Int)) = true := by simp; omega
    have HR : Hid (readableR (bl s) = 2) := Lib.hid (by unfold readableR; rw [bl_len, if_pos h1000])
    go_enter Tryz.func24, Tryz.ntmps24
    go_wp2
    go_ret
    rw [HR.out]
    exact ⟨rfl, Below.refl _ _⟩
  · have hz : decide (1000 < (s.size : Int)) = false := by simp; omega
    have HR : Hid (readableR (bl s) = if (bl s).any badByte then 250 else 0) := Lib.hid (by unfold readableR; rw [bl_len, if_neg h1000])
    go_enter Tryz.func24, Tryz.ntmps24
    go_wp2
    go_loopw [9] (fun i wr => ∃ k : Nat, k ≤ s.size ∧ i = .int .i64 k ∧ wr = w ∧ Hid (((bl s).take k).any badByte = false)) (fun i _ => (s.size - intOf i).toNat)
    case atStart => exact ⟨0, by omega, rfl, rfl, Lib.hid rfl⟩
    case round =>
      obtain ⟨k, hk, rfl, rfl, HA⟩ := hrel
      by_cases hlt : k < s.size
      · have hlz : decide ((k : Int) < (s.size : Int)) = true := by simp; omega
        obtain ⟨c, hcc⟩ : ∃ c, s[k] = c := ⟨_, rfl⟩
        have hbk : (bl s)[k]? = some c := by
          rw [← hcc]; unfold bl; rw [Array.getElem?_toList]; exact Array.getElem?_eq_getElem hlt
        have hnx := any_take_next badByte (bl s) k c hbk
        by_cases hlo : c.toNat < 32
        · have t1 : decide ((c.toNat : Int) < 32) = true := by simp; omega
          have HE : Hid (readableR (bl s) = 250) := Lib.hid (by rw [HR.out, if_pos (List.any_eq_true.2 ⟨c, List.mem_of_getElem? hbk, by simp [badByte, hlo]⟩)])
          clear hnx hbk hlo
          go_wp2
          go_ret
          rw [HE.out]
          exact ⟨rfl, Below.refl _ _⟩
        · have t1 : decide ((c.toNat : Int) < 32) = false := by simp; omega
          by_cases hhi : 126 < c.toNat
          · have t2 : decide (126 < (c.toNat : Int)) = true := by simp; omega
            have HE : Hid (readableR (bl s) = 250) := Lib.hid (by rw [HR.out, if_pos (List.any_eq_true.2 ⟨c, List.mem_of_getElem? hbk, by simp [badByte, hhi]⟩)])
            clear hnx hbk hlo hhi
            go_wp2
            go_ret
            rw [HE.out]
            exact ⟨rfl, Below.refl _ _⟩
          · have t2 : decide (126 < (c.toNat : Int)) = false := by simp; omega
            have HA2 : Hid (((bl s).take (k + 1)).any badByte = false) := Lib.hid (by rw [hnx, HA.out]; simp [badByte]; omega)
            clear hnx hbk hlo hhi
            go_wp2
            go_roundw
            case rel => exact ⟨k + 1, by omega, by go_num, by first | rfl | trivial, HA2⟩
            case measure => simp [intOf]; omega
      · obtain rfl : k = s.size := by omega
        have hA := HA.out
        rw [show (bl s).take s.size = bl s by rw [← bl_len]; exact List.take_length] at hA
        have HE : Hid (readableR (bl s) = 0) := Lib.hid (by rw [HR.out, hA]; rfl)
        clear hA HA
        go_wp2
        go_ret
        rw [HE.out]
        exact ⟨rfl, Below.refl _ _⟩

theorem freeGo_step (xs : List It) (ag : List Ag) (k : Nat) (s : Int) (hx : k < xs.length) (ha : k < ag.length) :
    freeGo (xs.drop k) (ag.drop k) k s = if xs[k].plain then (if xs[k].m.testBit 4 then freeGo (xs.drop (k + 1)) (ag.drop (k + 1)) (k + 1) k else if ag[k].set then freeGo (xs.drop (k + 1)) (ag.drop (k + 1)) (k + 1) s else k) else freeGo (xs.drop (k + 1)) (ag.drop (k + 1)) (k + 1) s := by
  rw [List.drop_eq_getElem_cons hx, List.drop_eq_getElem_cons ha]
  rfl

/-- The memory of an argument, read out of the row. -/
theorem FS.a3 {w : World} {B D F : Nat} {iv : Value} {bs : List Nat} {xs : List It} {line : ByteArray} {st : FSt} {ov nv : Value} (h : FS w B D F iv bs xs line st ov nv) (i : Nat) (hi : i < xs.length) (hia : i < st.ag.length) :
    ∃ G cap vv, ov = .slice (some ⟨G, 0, none⟩) xs.length cap ∧ G < w.heap.size ∧ D ≤ G ∧ w.cell? ⟨G, i * 3, none⟩ = some (.string (mkS st.ag[i].name)) ∧ w.cell? ⟨G, i * 3 + 1, none⟩ = some vv ∧ w.cell? ⟨G, i * 3 + 2, none⟩ = some (.bool st.ag[i].set) ∧ w.frozen? ⟨G, i * 3 + 2, none⟩ = false := by
  rcases h.ar with ⟨h0, _⟩ | ⟨G, cap, C, vs, h1, h2⟩
  · rw [h0] at hia; exact absurd hia (Nat.not_lt_zero _)
  · have hiv : i < vs.length := by rw [h2.len]; exact hia
    exact ⟨G, cap, vs[i], by rw [h1, h.la], (Array.getElem?_eq_some_iff.1 h2.heap).1, h2.hB, (cellOf h2.heap).trans (h2.at0 i hia), (cellOf h2.heap).trans (h2.at1 i hia hiv), (cellOf h2.heap).trans (h2.at2 i hia), frozOf h2.heap⟩

set_option maxHeartbeats 4000000 in
theorem free_calls (B D F : Nat) (iv : Value) (bs : List Nat) (xs : List It) (line : ByteArray) (st : FSt) (ov nv : Value) (w : World) (hFS : FS w B D F iv bs xs line st ov nv) :
    Calls Tryz.prog 81 #[.pointer (some ⟨F, 0, none⟩)] w fun e w' => e = .returned (.int .i64 (freeR xs st.ag)) ∧ Below w.heap.size w w' := by
  obtain ⟨f0, f1, f2, f3, f4⟩ := hFS.f0
  have hFl := (Array.getElem?_eq_some_iff.1 hFS.fb).1
  have hxl := hFS.xl
  rcases hFS.it.form with ⟨rfl, rfl⟩ | ⟨g, icap, rfl, hBg, hgl⟩
  · go_enter Tryz.func81, Tryz.ntmps81
    go_wp2
    go_rounds 1
    go_ret
    exact ⟨rfl, Below.refl _ _⟩
  · have HFS := Lib.hid hFS
    clear hFS f1 f2 f4
    go_enter Tryz.func81, Tryz.ntmps81
    go_wp2
    go_loopw [3, 4, 11] (fun sv _ i wr => ∃ (k : Nat) (sk : Int), k ≤ xs.length ∧ i = .int .i64 k ∧ sv = .int .i64 sk ∧ Below w.heap.size w wr ∧ Hid (freeR xs st.ag = freeGo (xs.drop k) (st.ag.drop k) k sk)) (fun _ _ i _ => (xs.length - intOf i).toNat)
    case atStart => exact ⟨0, -1, by omega, rfl, rfl, Below.refl _ _, Lib.hid rfl⟩
    case round =>
      obtain ⟨k, sk, hk, rfl, rfl, hB, HA⟩ := hrel
      by_cases hlt : k < xs.length
      · have hlz : decide ((k : Int) < (xs.length : Int)) = true := by simp; omega
        have hka : k < st.ag.length := by rw [HFS.out.la]; exact hlt
        have HFr := Lib.hid (HFS.out.below hB)
        obtain ⟨b, c0, c1, c2, c3, c4, c5, -, -, -, -, ⟨e0, e1, e2, e3, e4, e5⟩, d0, d1, d2, d3, d4, d5, d6⟩ := HFr.out.it.c7 k hlt
        obtain ⟨G, cap, vv, rfl, hGl, hFG, a0, a1, a2, z2⟩ := HFr.out.a3 k hlt hka
        have f3' := HFr.out.f0.2.2.2.1
        have hst := freeGo_step xs st.ag k sk hlt hka
        have hpl : xs[k].plain = (!c2 && !c1) := by unfold It.plain; rw [e1, e2]
        obtain ⟨x, hx⟩ : ∃ x, xs[k] = x := ⟨_, rfl⟩
        obtain ⟨aset, has⟩ : ∃ c, st.ag[k].set = c := ⟨_, rfl⟩
        rw [hx] at d0
        rw [hpl, e4, has] at hst
        rw [has] at a2
        have HST := Lib.hid hst
        obtain ⟨wa, hwa⟩ : ∃ wa, wr.alloc (.cells #[.slice (some ⟨b, 0, none⟩) x.names.length x.names.length, .bool c0, .bool c1, .bool c2, .bool c3, .bool c4, .bool c5] 42) = wa := ⟨_, rfl⟩
        have hBa : Below wr.heap.size wr wa := by rw [← hwa]; exact (Below.refl _ wr).alloc (Nat.le_refl _) _
        have hza : wr.heap.size < wa.heap.size := by rw [← hwa]; simp
        have n5 : wa.cell? ⟨wr.heap.size, 5, none⟩ = some (.bool c4) := by rw [← hwa]; simp [go_sem]
        have hsz := hB.size
        have HPL := Lib.hid (plain_calls (.slice (some ⟨b, 0, none⟩) x.names.length x.names.length) rfl c0 c1 c2 c3 c4 c5 wa)
        have HWA := Lib.hid hwa
        clear hwa hst hpl e0 e1 e2 e3 e4 e5 has hx a0 a1
        cases hpc : (!c2 && !c1) with
        | false =>
          rw [hpc] at HPL HST
          go_wp2_with fail
          rw [HWA.out]
          refine HPL.out.mono ?_
          rintro e w2 ⟨rfl, b2⟩
          go_wp2
          go_roundw
          case rel => exact ⟨k + 1, sk, by omega, by go_num, rfl, (hB.trans (hBa.mono hsz)).trans (b2.mono (by omega)), Lib.hid (by rw [HA.out, HST.out]; rfl)⟩
          case measure => simp [intOf]; omega
        | true =>
          rw [hpc] at HPL HST
          cases c4 with
          | true =>
            go_wp2_with fail
            rw [HWA.out]
            refine HPL.out.mono ?_
            rintro e w2 ⟨rfl, b2⟩
            have n5' := (b2.cell (p := ⟨wr.heap.size, 5, none⟩) hza).trans n5
            go_wp2
            go_roundw
            case rel => exact ⟨k + 1, k, by omega, by go_num, rfl, (hB.trans (hBa.mono hsz)).trans (b2.mono (by omega)), Lib.hid (by rw [HA.out, HST.out]; rfl)⟩
            case measure => simp [intOf]; omega
          | false =>
            cases aset with
            | true =>
              go_wp2_with fail
              rw [HWA.out]
              refine HPL.out.mono ?_
              rintro e w2 ⟨rfl, b2⟩
              have n5' := (b2.cell (p := ⟨wr.heap.size, 5, none⟩) hza).trans n5
              have hB2 := (hB.trans (hBa.mono hsz)).trans (b2.mono (by omega))
              have hB3 := hBa.trans (b2.mono (by omega))
              have f3'' := (hB3.cell (p := ⟨F, 3, none⟩) (by show F < _; omega)).trans f3'
              have a2'' := (hB3.cell (p := ⟨G, k * 3 + 2, none⟩) hGl).trans a2
              go_wp2
              go_roundw
              case rel => exact ⟨k + 1, sk, by omega, by go_num, rfl, hB2, Lib.hid (by rw [HA.out, HST.out]; rfl)⟩
              case measure => simp [intOf]; omega
            | false =>
              go_wp2_with fail
              rw [HWA.out]
              refine HPL.out.mono ?_
              rintro e w2 ⟨rfl, b2⟩
              have n5' := (b2.cell (p := ⟨wr.heap.size, 5, none⟩) hza).trans n5
              have hB2 := (hB.trans (hBa.mono hsz)).trans (b2.mono (by omega))
              have hB3 := hBa.trans (b2.mono (by omega))
              have f3'' := (hB3.cell (p := ⟨F, 3, none⟩) (by show F < _; omega)).trans f3'
              have a2'' := (hB3.cell (p := ⟨G, k * 3 + 2, none⟩) hGl).trans a2
              go_wp2
              go_ret
              rw [HA.out, HST.out]
              exact ⟨rfl, hB2⟩
      · obtain rfl : k = xs.length := by omega
        have HE : Hid (freeR xs st.ag = sk) := Lib.hid (by rw [HA.out, List.drop_length]; rfl)
        go_wp2
        go_ret
        rw [HE.out]
        exact ⟨rfl, hB⟩
end Go.Proofs.YtojppincaalibaaGreatDoor
