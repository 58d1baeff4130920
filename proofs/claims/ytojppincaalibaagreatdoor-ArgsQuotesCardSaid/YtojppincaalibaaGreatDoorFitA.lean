/- The walks of args.Item.plain, args.word.isSign, args.find. -/
import Derived.Test.YtojppincaalibaaGreatDoorFitP
import Derived.Test.YtojppincaalibaaGreatDoorArgI
set_option linter.unusedVariables false
set_option linter.unusedSimpArgs false
set_option maxRecDepth 100000
namespace Go.Proofs.YtojppincaalibaaGreatDoor
open Go.Shelf Go.RowKit

set_option maxHeartbeats 1000000 in
theorem plain_calls (v : Value) (hv : v.oneCell' = true) (c0 c1 c2 c3 c4 c5 : Bool) (w : World) :
    Calls Tryz.prog 37 #[.agg #[v, .bool c0, .bool c1, .bool c2, .bool c3, .bool c4, .bool c5]] w fun e w' => e = .returned (.bool (!c2 && !c1)) ∧ Below w.heap.size w w' := by
  go_enter Tryz.func37, Tryz.ntmps37
  cases c2 <;> cases c1
  all_goals go_wp2
  all_goals go_ret
  all_goals exact ⟨rfl, (Below.refl _ _).alloc (Nat.le_refl _) _⟩

set_option maxHeartbeats 1000000 in
theorem isSign_calls (l : Bs) (a : Int) (q : Bool) (w : World) :
    Calls Tryz.prog 83 #[.agg #[.string (mkS l), .int .i64 a, .bool q]] w fun e w' => e = .returned (.bool (decide (l = [61] ∧ q = false))) ∧ Below w.heap.size w w' := by
  by_cases h : l = [61]
  · subst h
    show Calls _ _ #[.agg #[.string ⟨#[61]⟩, .int .i64 a, .bool q]] w _
    go_enter Tryz.func83, Tryz.ntmps83
    cases q
    all_goals go_wp2
    all_goals go_ret
    all_goals exact ⟨rfl, (Below.refl _ _).alloc (Nat.le_refl _) _⟩
  · have HE : Hid (decide (l = [61] ∧ q = false) = false) := Lib.hid (by simp [h])
    show Calls _ _ #[.agg #[.string ⟨l.toArray⟩, .int .i64 a, .bool q]] w _
    go_enter Tryz.func83, Tryz.ntmps83
    go_wp2
    go_ret
    rw [HE.out]
    exact ⟨rfl, (Below.refl _ _).alloc (Nat.le_refl _) _⟩

/-- The closure of find: the names of an item hold the name in the box. -/
theorem findc_calls (names : List Bs) (c0 c1 c2 c3 c4 c5 : Bool) (b q : Nat) (nm : Bs) (w : World) (hS : StrB w b names) (hb : b < w.heap.size) (hq : w.cell? ⟨q, 0, none⟩ = some (.string (mkS nm))) (hql : q < w.heap.size) (hn : names.length ≤ 2000000) :
    Calls Tryz.prog 72 #[.agg #[.slice (some ⟨b, 0, none⟩) names.length names.length, .bool c0, .bool c1, .bool c2, .bool c3, .bool c4, .bool c5], .pointer (some ⟨q, 0, none⟩)] w fun e w' => e = .returned (.bool (names.contains nm)) ∧ Below w.heap.size w w' := by
  obtain ⟨w1, hw1⟩ : ∃ w1, w.alloc (.cells #[.slice (some ⟨b, 0, none⟩) names.length names.length, .bool c0, .bool c1, .bool c2, .bool c3, .bool c4, .bool c5] 42) = w1 := ⟨_, rfl⟩
  have hB : Below w.heap.size w w1 := by rw [← hw1]; exact (Below.refl _ _).alloc (Nat.le_refl _) _
  have hst := (hS.below hB hb).strs
  have hCT := Tryz.slices_Contains_string b 0 names.length names.length (names.map mkS) (mkS nm) w1 (by rw [List.length_map]; exact Nat.le_refl _) (by omega) (fun j hj => by
    rw [List.length_map] at hj
    rw [hst j hj, List.getD_eq_getElem?_getD, List.getElem?_map, List.getElem?_eq_getElem hj]
    rfl)
  have hco : Lib.containsS ((names.map mkS).take names.length) (mkS nm) = names.contains nm := by
    rw [List.take_of_length_le (by rw [List.length_map]; exact Nat.le_refl _), Bool.eq_iff_iff, Lib.containsS_iff, List.contains_iff_mem, List.mem_map]
    constructor
    · rintro ⟨a, ha, e⟩
      have := congrArg bl e
      rw [bl_mkS, bl_mkS] at this
      exact this ▸ ha
    · intro h
      exact ⟨nm, h, rfl⟩
  rw [hco] at hCT
  have hqc := (hB.cell (p := ⟨q, 0, none⟩) hql).trans hq
  have HCT := Lib.hid hCT
  have HB := Lib.hid hB
  have HW := Lib.hid hw1
  have hqn : q ≠ w.heap.size := by omega
  obtain ⟨cc, hcc⟩ : ∃ cc, names.contains nm = cc := ⟨_, rfl⟩
  rw [hcc] at HCT ⊢
  have HCC := Lib.hid hcc
  clear hcc
  clear hCT hco hst hS hqc hw1 hB
  go_enter Tryz.func72, Tryz.ntmps72
  go_wp2_with fail
  rw [HW.out]
  refine HCT.out.mono ?_
  rintro e w2 ⟨rfl, rfl⟩
  go_wp2
  go_ret
  exact ⟨rfl, HB.out⟩

theorem ItemsR.cells {w : World} {B g n cap : Nat} {bs : List Nat} {xs : List It} (h : ItemsR w B (.slice (some ⟨g, 0, none⟩) n cap) bs xs) (i : Nat) (hi : i < xs.length) (hi' : i < bs.length) :
    ∀ j u, (itC bs[i] xs[i])[j]? = some u → w.cell? ⟨g, i * 7 + j, none⟩ = some u := by
  intro j u hj
  have hj7 : j < 7 := (List.getElem?_eq_some_iff.1 hj).1
  have hr := rowC_at bs xs h.1 i j hi hj7
  rcases h.2.1.2 with ⟨hv, _⟩ | ⟨g', cap', cur, hv, _, hh, _, _, hsz, htk⟩
  · cases hv
  · cases hv
    have h7 : (cur.toList.take (xs.length * 7))[i * 7 + j]? = cur.toList[i * 7 + j]? := by rw [List.getElem?_take_of_lt (by omega)]
    rw [cellOf hh, ← Array.getElem?_toList, ← h7, htk, hr, hj]
theorem ItemsR.form {w : World} {B : Nat} {v : Value} {bs : List Nat} {xs : List It} (h : ItemsR w B v bs xs) : (xs = [] ∧ v = .slice none 0 0) ∨ ∃ g cap, v = .slice (some ⟨g, 0, none⟩) xs.length cap ∧ B ≤ g ∧ g < w.heap.size := by
  rcases h.2.1.2 with ⟨hv, h0⟩ | ⟨g', cap', cur, hv, hg, hh, _⟩
  · exact .inl ⟨List.length_eq_zero_iff.1 h0, hv⟩
  · exact .inr ⟨g', cap', hv, hg, (Array.getElem?_eq_some_iff.1 hh).1⟩

theorem idxOf_ge (p : It → Bool) : ∀ xs, -1 ≤ idxOf p xs ∧ idxOf p xs < xs.length
  | [] => by simp [idxOf]
  | x :: xs => by
    have := idxOf_ge p xs
    unfold idxOf
    rw [List.length_cons]
    split
    · omega
    · split <;> omega
theorem idxOf_step (p : It → Bool) (xs : List It) (k : Nat) (hk : k < xs.length) (x : It) (hx : xs[k] = x) (h : idxOf p xs = if idxOf p (xs.drop k) < 0 then -1 else idxOf p (xs.drop k) + k) :
    (p x = true → idxOf p xs = k) ∧ (p x = false → idxOf p xs = if idxOf p (xs.drop (k + 1)) < 0 then -1 else idxOf p (xs.drop (k + 1)) + (k + 1 : Nat)) := by
  rw [List.drop_eq_getElem_cons hk, hx] at h
  have hd := idxOf_ge p (xs.drop (k + 1))
  constructor
  · intro hp
    rw [h]
    simp [idxOf, hp]
  · intro hp
    rw [h]
    simp only [idxOf, hp]
    simp only [Bool.false_eq_true, if_false]
    split
    · rfl
    · rename_i h1; rw [if_neg (by omega)]; omega

set_option maxHeartbeats 2000000 in
theorem fitix_calls (B q : Nat) (v : Value) (bs : List Nat) (xs : List It) (nm : Bs) (w : World) (hI : ItemsR w B v bs xs) (hq : w.cell? ⟨q, 0, none⟩ = some (.string (mkS nm))) (hql : q < w.heap.size) (hn : ∀ x, x ∈ xs → x.names.length ≤ 2000000) (hxl : xs.length ≤ 1000000) :
    Calls Tryz.prog 71 #[v, .func (.func 72) #[] #[.pointer (some ⟨q, 0, none⟩)]] w fun e w' => e = .returned (.int .i64 (idxOf (fun x => x.names.contains nm) xs)) ∧ Below w.heap.size w w' := by
  have eg := enters_of Tryz.func72 (by kernel_rfl) rfl
  rcases hI.form with ⟨rfl, rfl⟩ | ⟨g, cap, rfl, hBg, hgl⟩
  · go_enter Tryz.func71, Tryz.ntmps71
    go_wp2
    go_rounds 1
    go_ret
    exact ⟨rfl, Below.refl _ _⟩
  · have HI := Lib.hid hI
    clear hI
    go_enter Tryz.func71, Tryz.ntmps71
    go_wp2
    go_loopw [5, 8] (fun _ i wr => ∃ k : Nat, k ≤ xs.length ∧ i = .int .i64 k ∧ Below w.heap.size w wr ∧ Hid (idxOf (fun x => x.names.contains nm) xs = if idxOf (fun x => x.names.contains nm) (xs.drop k) < 0 then -1 else idxOf (fun x => x.names.contains nm) (xs.drop k) + k)) (fun _ i _ => (xs.length - intOf i).toNat)
    case atStart =>
      refine ⟨0, by omega, rfl, Below.refl _ _, Lib.hid ?_⟩
      have := idxOf_ge (fun x => x.names.contains nm) xs
      simp only [List.drop_zero]
      split <;> omega
    case round =>
      obtain ⟨k, hk, rfl, hB, HA⟩ := hrel
      by_cases hlt : k < xs.length
      · have hlz : decide ((k : Int) < (xs.length : Int)) = true := by simp; omega
        have hkb : k < bs.length := by rw [HI.out.1]; exact hlt
        obtain ⟨x, hx⟩ : ∃ x, xs[k] = x := ⟨_, rfl⟩
        obtain ⟨b, hb⟩ : ∃ b, bs[k] = b := ⟨_, rfl⟩
        have hcs := HI.out.cells k hlt hkb
        obtain ⟨hb1, hb2, hb3⟩ := HI.out.2.2 k hlt hkb
        rw [hx, hb] at hcs
        rw [hb] at hb1 hb2 hb3
        rw [hx] at hb3
        obtain ⟨c0, e0⟩ : ∃ c, x.m.testBit 0 = c := ⟨_, rfl⟩
        obtain ⟨c1, e1⟩ : ∃ c, x.m.testBit 1 = c := ⟨_, rfl⟩
        obtain ⟨c2, e2⟩ : ∃ c, x.m.testBit 2 = c := ⟨_, rfl⟩
        obtain ⟨c3, e3⟩ : ∃ c, x.m.testBit 3 = c := ⟨_, rfl⟩
        obtain ⟨c4, e4⟩ : ∃ c, x.m.testBit 4 = c := ⟨_, rfl⟩
        obtain ⟨c5, e5⟩ : ∃ c, x.m.testBit 5 = c := ⟨_, rfl⟩
        unfold itC at hcs
        rw [e0, e1, e2, e3, e4, e5] at hcs
        have d0 : wr.cell? ⟨g, k * 7, none⟩ = some (.slice (some ⟨b, 0, none⟩) x.names.length x.names.length) := (hB.cell (p := ⟨g, k * 7, none⟩) hgl).trans (hcs 0 _ rfl)
        have d1 : wr.cell? ⟨g, k * 7 + 1, none⟩ = some (.bool c0) := (hB.cell (p := ⟨g, k * 7 + 1, none⟩) hgl).trans (hcs 1 _ rfl)
        have d2 : wr.cell? ⟨g, k * 7 + 2, none⟩ = some (.bool c1) := (hB.cell (p := ⟨g, k * 7 + 2, none⟩) hgl).trans (hcs 2 _ rfl)
        have d3 : wr.cell? ⟨g, k * 7 + 3, none⟩ = some (.bool c2) := (hB.cell (p := ⟨g, k * 7 + 3, none⟩) hgl).trans (hcs 3 _ rfl)
        have d4 : wr.cell? ⟨g, k * 7 + 4, none⟩ = some (.bool c3) := (hB.cell (p := ⟨g, k * 7 + 4, none⟩) hgl).trans (hcs 4 _ rfl)
        have d5 : wr.cell? ⟨g, k * 7 + 5, none⟩ = some (.bool c4) := (hB.cell (p := ⟨g, k * 7 + 5, none⟩) hgl).trans (hcs 5 _ rfl)
        have d6 : wr.cell? ⟨g, k * 7 + 6, none⟩ = some (.bool c5) := (hB.cell (p := ⟨g, k * 7 + 6, none⟩) hgl).trans (hcs 6 _ rfl)
        have HF := Lib.hid (findc_calls x.names c0 c1 c2 c3 c4 c5 b q nm wr (hb3.below hB (by omega)) (by have := hB.size; omega) ((hB.cell (p := ⟨q, 0, none⟩) hql).trans hq) (by have := hB.size; omega) (hn x (by rw [← hx]; exact List.getElem_mem _)))
        obtain ⟨HS1, HS2⟩ := idxOf_step (fun x => x.names.contains nm) xs k hlt x hx HA.out
        have HS1 := Lib.hid HS1
        have HS2 := Lib.hid HS2
        clear hcs hb1 hb2 hb3 e0 e1 e2 e3 e4 e5 hx hb
        cases hct : x.names.contains nm with
        | true =>
          rw [hct] at HF
          go_wp2_with fail
          refine HF.out.mono ?_
          rintro e w' ⟨rfl, b1⟩
          go_wp2
          go_ret
          rw [HS1.out hct]
          exact ⟨rfl, hB.trans (b1.mono hB.size)⟩
        | false =>
          rw [hct] at HF
          go_wp2_with fail
          refine HF.out.mono ?_
          rintro e w' ⟨rfl, b1⟩
          go_wp2
          go_roundw
          case rel => exact ⟨k + 1, by omega, by go_num, hB.trans (b1.mono hB.size), Lib.hid (HS2.out hct)⟩
          case measure => simp [intOf]; omega
      · obtain rfl : k = xs.length := by omega
        have hA := HA.out
        rw [List.drop_length] at hA
        have HAA : Hid (idxOf (fun x => x.names.contains nm) xs = -1) := Lib.hid (by rw [hA]; simp [idxOf])
        clear hA HA
        go_wp2
        go_ret
        rw [HAA.out]
        exact ⟨rfl, hB⟩

theorem low_len (l : Bs) : (low l).length = l.length := by simp [low, Lib.toLowerA]

set_option maxHeartbeats 2000000 in
theorem find_calls (B : Nat) (v : Value) (bs : List Nat) (xs : List It) (s : ByteArray) (w : World) (hI : ItemsR w B v bs xs) (hn : ∀ x, x ∈ xs → x.names.length ≤ 2000000) (hxl : xs.length ≤ 1000000) (hs : s.size ≤ 1000000) :
    Calls Tryz.prog 38 #[v, .string s] w fun e w' => e = .returned (.int .i64 (findR xs (bl s))) ∧ Below w.heap.size w w' := by
  have HI := Lib.hid hI
  clear hI
  go_enter Tryz.func38, Tryz.ntmps38
  go_wp2
  go_loopw [5, 8] (fun _ i wr => ∃ k : Nat, k ≤ s.size ∧ i = .int .i64 k ∧ Hid (wr = w.alloc (.cells #[.string s] 9)) ∧ Hid (((bl s).take k).any (fun c => decide (128 ≤ c.toNat)) = false)) (fun _ i _ => (s.size - intOf i).toNat)
  case atStart => exact ⟨0, by omega, rfl, Lib.hid rfl, Lib.hid rfl⟩
  case round =>
    obtain ⟨k, hk, rfl, HW, HA⟩ := hrel
    have hc : wr.cell? ⟨w.heap.size, 0, none⟩ = some (.string s) := by rw [HW.out]; simp [go_sem]
    have hB : Hid (Below w.heap.size w wr) := Lib.hid (by rw [HW.out]; exact (Below.refl _ _).alloc (Nat.le_refl _) _)
    by_cases hlt : k < s.size
    · have hlz : decide ((k : Int) < (s.size : Int)) = true := by simp; omega
      obtain ⟨c, hcc⟩ : ∃ c, s[k] = c := ⟨_, rfl⟩
      have hbk : (bl s)[k]? = some c := by
        rw [← hcc]; unfold bl; rw [Array.getElem?_toList]; exact Array.getElem?_eq_getElem hlt
      by_cases h128 : 128 ≤ c.toNat
      · have hz : decide (128 ≤ (c.toNat : Int)) = true := by simp; omega
        have HR : Hid (findR xs (bl s) = -1) := Lib.hid (by
          unfold findR
          rw [if_pos]
          rw [List.any_eq_true]
          exact ⟨c, List.mem_of_getElem? hbk, by simpa using h128⟩)
        clear hbk
        go_wp2
        go_ret
        rw [HR.out]
        exact ⟨rfl, hB.out⟩
      · have hz : decide (128 ≤ (c.toNat : Int)) = false := by simp; omega
        have HA2 : Hid (((bl s).take (k + 1)).any (fun c => decide (128 ≤ c.toNat)) = false) := Lib.hid (by
          rw [List.take_add_one, hbk, List.any_append, HA.out]
          simp; omega)
        clear hbk
        go_wp2
        go_roundw
        case rel => exact ⟨k + 1, by omega, by go_num, HW, HA2⟩
        case measure => simp [intOf]; omega
    · obtain rfl : k = s.size := by omega
      have hA := HA.out
      rw [show (bl s).take s.size = bl s by rw [← bl_len]; exact List.take_length] at hA
      have hasc : ∀ (j : Nat) (b : UInt8), s.data.toList[j]? = some b → b.toNat < 128 := fun j b hb => by
        rw [List.any_eq_false] at hA
        have := hA b (List.mem_of_getElem? hb)
        simp at this; omega
      have HL := Lib.hid (Tryz.strings_ToLower_ascii s wr (by omega) hasc)
      have HR : Hid (findR xs (bl s) = idxOf (fun x => x.names.contains (low (bl s))) xs) := Lib.hid (by unfold findR; rw [hA]; rfl)
      have f0 : wr.frozen? ⟨w.heap.size, 0, none⟩ = false := by rw [HW.out]; simp [go_sem]
      have hwz : w.heap.size < wr.heap.size := by rw [HW.out]; simp
      have HWW := Lib.hid HW.out
      clear hA hasc HA HW
      go_wp2_with fail
      refine HL.out.mono ?_
      rintro e w2 ⟨rfl, b2⟩
      have c2 := (b2.cell (p := ⟨w.heap.size, 0, none⟩) hwz).trans hc
      have f2 := (b2.frozen (p := ⟨w.heap.size, 0, none⟩) hwz).trans f0
      have hz2 := b2.size
      have hB2 := hB.out.trans (b2.mono hB.out.size)
      have HI2 := Lib.hid (HI.out.below (hB2))
      obtain ⟨w3, hw3⟩ : ∃ w3, w2.setCell ⟨w.heap.size, 0, none⟩ (.string ⟨(Lib.toLowerA s.data.toList).toArray⟩) = w3 := ⟨_, rfl⟩
      have hB3 : Below w.heap.size w w3 := by rw [← hw3]; exact hB2.setCell (p := ⟨w.heap.size, 0, none⟩) (Nat.le_refl _) _
      have hz3 : w3.heap.size = w2.heap.size := by rw [← hw3]; simp
      have hc3 : w3.cell? ⟨w.heap.size, 0, none⟩ = some (.string (mkS (low (bl s)))) := by rw [← hw3]; simp [go_sem, c2]; rfl
      have hF := fitix_calls B w.heap.size v bs xs (low (bl s)) w3 (HI.out.below hB3) hc3 (by omega) hn hxl
      obtain ⟨ix, hix⟩ : ∃ ix, idxOf (fun x => x.names.contains (low (bl s))) xs = ix := ⟨_, rfl⟩
      rw [hix] at hF HR
      have HF := Lib.hid hF
      have HW3 := Lib.hid hw3
      have HB3 := Lib.hid hB3
      replace hz3 : w.heap.size < w3.heap.size := by omega
      clear hw3 hB3 hc3 hB2 b2 hF hix
      go_wp2_with fail
      rw [HW3.out]
      refine HF.out.mono ?_
      rintro e w4 ⟨rfl, b4⟩
      go_wp2
      go_ret
      rw [HR.out]
      exact ⟨rfl, HB3.out.trans (b4.mono HB3.out.size)⟩
end Go.Proofs.YtojppincaalibaaGreatDoor
