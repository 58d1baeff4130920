/- The walk of args.item. -/
import Derived.Test.YtojppincaalibaaGreatDoorArgV
set_option linter.unusedVariables false
set_option linter.unusedSimpArgs false
set_option maxRecDepth 100000
namespace Go.Proofs.YtojppincaalibaaGreatDoor
open Go.Shelf Go.RowKit

def itemVal (v : Value) (m : Nat) : Value := .agg #[v, .bool (m.testBit 0), .bool (m.testBit 1), .bool (m.testBit 2), .bool (m.testBit 3), .bool (m.testBit 4), .bool (m.testBit 5)]
def zeroItem : Value := .agg #[.slice none 0 0, .bool false, .bool false, .bool false, .bool false, .bool false, .bool false]
def itemPost (w : World) (r : Option It) (e : Ending) (w' : World) : Prop :=
  match r with
  | none => e = .returned (.tuple #[zeroItem, .bool false])
  | some x => ∃ b, e = .returned (.tuple #[itemVal (.slice (some ⟨b, 0, none⟩) x.names.length x.names.length) x.m, .bool true]) ∧ w.heap.size ≤ b ∧ b < w'.heap.size ∧ StrB w' b x.names

theorem spl_total (c : UInt8) : ∀ l : Bs, ((spl c l).map List.length).sum ≤ l.length
  | [] => by simp [spl]
  | b :: l => by
    have ih := spl_total c l
    unfold spl
    split
    · simp; omega
    · split
      · rename_i h; rw [h] at ih; simp at ih ⊢
      · rename_i h; rw [h] at ih; simp at ih ⊢; omega
theorem le_sum_of_mem : ∀ (l : List Nat) (x : Nat), x ∈ l → x ≤ l.sum
  | a :: l, x, h => by
    rw [List.sum_cons]
    rcases List.mem_cons.1 h with rfl | h
    · omega
    · have := le_sum_of_mem l x h; omega
theorem spl_mem_le (c : UInt8) (l x : Bs) (h : x ∈ spl c l) : x.length ≤ l.length :=
  Nat.le_trans (le_sum_of_mem _ _ (List.mem_map_of_mem h)) (spl_total c l)

theorem item_cells {w : World} {b : Nat} {t : TypeId} {a0 a1 a2 a3 a4 a5 a6 : Value} (h : w.heap[b]? = some (.cells #[a0, a1, a2, a3, a4, a5, a6] t (0, 0))) :
    (w.cell? ⟨b, 0, none⟩ = some a0 ∧ w.cell? ⟨b, 1, none⟩ = some a1 ∧ w.cell? ⟨b, 2, none⟩ = some a2 ∧ w.cell? ⟨b, 3, none⟩ = some a3 ∧ w.cell? ⟨b, 4, none⟩ = some a4 ∧ w.cell? ⟨b, 5, none⟩ = some a5 ∧ w.cell? ⟨b, 6, none⟩ = some a6) ∧
    (w.frozen? ⟨b, 0, none⟩ = false ∧ w.frozen? ⟨b, 1, none⟩ = false ∧ w.frozen? ⟨b, 2, none⟩ = false ∧ w.frozen? ⟨b, 3, none⟩ = false ∧ w.frozen? ⟨b, 4, none⟩ = false ∧ w.frozen? ⟨b, 5, none⟩ = false ∧ w.frozen? ⟨b, 6, none⟩ = false) :=
  ⟨⟨cellOf h, cellOf h, cellOf h, cellOf h, cellOf h, cellOf h, cellOf h⟩, frozOf h, frozOf h, frozOf h, frozOf h, frozOf h, frozOf h, frozOf h⟩

set_option maxHeartbeats 4000000 in
theorem item_calls (s : ByteArray) (w : World) (hs : s.size ≤ 900000) (hG : Glob w) :
    Calls Tryz.prog 35 #[.string s] w fun e w' => itemPost w (itemR (bl s)) e w' ∧ Below w.heap.size w w' := by
  obtain ⟨p0, ps, hsp⟩ : ∃ p0 ps, spl 47 (bl s) = p0 :: ps := by
    cases h : spl 47 (bl s) with
    | nil => exact absurd h (spl_ne _ _)
    | cons p ps => exact ⟨p, ps, rfl⟩
  have hSP := Lib.hid (split_calls s 47 (w.alloc (.cells #[.slice none 0 0, .bool false, .bool false, .bool false, .bool false, .bool false, .bool false] 42)) (by omega) (hG.below' ((Below.refl _ w).alloc (Nat.le_refl _) _)))
  rw [hsp] at hSP
  obtain ⟨w1, hw1⟩ : ∃ w1, (w.alloc (.cells #[.slice none 0 0, .bool false, .bool false, .bool false, .bool false, .bool false, .bool false] 42)).alloc (.cells ((p0 :: ps).map fun l => Value.string (mkS l)).toArray 9) = w1 := ⟨_, rfl⟩
  have hB1 : Below w.heap.size w w1 := by rw [← hw1]; exact ((Below.refl _ w).alloc (Nat.le_refl _) _).alloc (by simp) _
  have hS1 := strs_new (w.alloc (.cells #[.slice none 0 0, .bool false, .bool false, .bool false, .bool false, .bool false, .bool false] 42)) (p0 :: ps) 9
  have hz1 : w1.heap.size = w.heap.size + 2 := by rw [← hw1]; simp
  have hc1 : w1.heap[w.heap.size]? = some (.cells #[.slice none 0 0, .bool false, .bool false, .bool false, .bool false, .bool false, .bool false] 42) := by rw [← hw1]; exact Go.heap_alloc2_old w _ _
  rw [hw1] at hSP hS1
  rw [World.size_alloc] at hSP hS1
  have HS1 := Lib.hid hS1
  have HC1 := Lib.hid hc1
  have hlen : (p0 :: ps).length ≤ s.size + 1 := by
    rw [← hsp, spl_len, ← bl_len]
    have := List.count_le_length (l := bl s) (a := (47 : UInt8))
    omega
  have hpl : ps.length ≤ 900001 := by rw [List.length_cons] at hlen; omega
  have hp0 : p0.length ≤ s.size := by
    have := spl_total 47 (bl s)
    rw [hsp, List.map_cons, List.sum_cons] at this
    rw [← bl_len]; omega
  have hnsz : ∀ ns, spl 61 p0 = ns → (∀ l, l ∈ ns → l.length ≤ 1000000) ∧ ns.length ≤ 2000000 := fun ns h => by
    constructor
    · intro l hl
      have := spl_mem_le 61 p0 l (by rw [h]; exact hl)
      omega
    · rw [← h, spl_len]
      have := List.count_le_length (l := p0) (a := (61 : UInt8))
      omega
  clear hw1 hS1 hc1
  go_enter Tryz.func35, Tryz.ntmps35
  go_wp2_with fail
  refine hSP.out.mono ?_
  rintro e w1 ⟨rfl, rfl⟩
  go_wp2_with fail
  case inl =>
    obtain rfl : ps = [] := by assumption
    replace hz1 : w.heap.size + 1 < w1.heap.size := by omega
    have HMR : Hid (marksR ([] : List Bs) 0 = some 0) := Lib.hid rfl
    have CW : Hid (w1.heap[w.heap.size]? = some (.cells #[.slice none 0 0, .bool false, .bool false, .bool false, .bool false, .bool false, .bool false] 42)) := HC1
    have hcell0 : w1.cell? ⟨w.heap.size + 1, 0, none⟩ = some (.string (mkS p0)) := HS1.out 0 (by simp)
    have hSQ := split_calls (mkS p0) 61 w1 (by rw [mkS_size]; omega) (hG.below' hB1)
    rw [bl_mkS] at hSQ
    obtain ⟨ns, hns⟩ : ∃ ns, spl 61 p0 = ns := ⟨_, rfl⟩
    rw [hns] at hSQ
    have HNN : Hid (spl 61 p0 = ns) := Lib.hid hns
    have hNS := strB_new w1 ns
    obtain ⟨w2, hw2⟩ : ∃ w2, w1.alloc (.cells (ns.map fun l => Value.string (mkS l)).toArray 9) = w2 := ⟨_, rfl⟩
    have hz2 : w2.heap.size = w1.heap.size + 1 := by rw [← hw2]; simp
    have hB2 : Below w1.heap.size w1 w2 := by rw [← hw2]; exact (Below.refl _ w1).alloc (Nat.le_refl _) _
    rw [hw2] at hSQ hNS
    have hCT := ctf_calls ns w1.heap.size 0 ns.length w2 hNS.strs (by omega) (hnsz ns hns).1 (hnsz ns hns).2
    have HSQ := Lib.hid hSQ
    have HNS := Lib.hid hNS
    have HCT := Lib.hid hCT
    have t2 : (Go.bits .and .i64 0 4 != 0) = false := by decide
    have t4 : (Go.bits .and .i64 0 16 != 0) = false := by decide
    have t5 : (Go.bits .and .i64 0 32 != 0) = false := by decide
    clear hSQ hNS hCT hw2 hns
    go_loopw [5, 7, 8, 16] (fun mv _ _ i wr => i = .int .i64 0 ∧ mv = .int .i64 0 ∧ w1 = wr) (fun _ _ _ _ _ => 0)
    case atStart => exact ⟨rfl, rfl, rfl⟩
    case round =>
      obtain ⟨rfl, rfl, rfl⟩ := hrel
      cases hbad : ns.any badName with
      | true =>
        rw [hbad] at HCT
        go_wp2_with fail
        refine HSQ.out.mono ?_
        rintro e w3 ⟨rfl, rfl⟩
        go_wp2_with fail
        refine HCT.out.mono ?_
        rintro e w4 ⟨rfl, b4⟩
        have CW4 : w4.heap[w.heap.size]? = some (.cells #[.slice none 0 0, .bool false, .bool false, .bool false, .bool false, .bool false, .bool false] 42) := by rw [b4.block _ (by omega), hB2.block _ (by omega)]; exact CW.out
        obtain ⟨⟨c0, c1, c2, c3, c4, c5, c6⟩, f0, f1, f2, f3, f4, f5, f6⟩ := item_cells CW4
        have hBE : Below w.heap.size w w4 := (hB1.trans (hB2.mono (by omega))).trans (b4.mono (by omega))
        clear CW4
        go_wp2
        refine bodyPost_ret (v := .tuple #[zeroItem, .bool false]) (by simp [results, Tryz.results35, go_sem, zeroItem, c0, c1, c2, c3, c4, c5, c6]) rfl ⟨?_, ?_⟩
        · have : itemR (bl s) = none := by unfold itemR; rw [hsp]; show (if _ then _ else _) = none; rw [HNN.out, hbad]; rfl
          rw [this]; rfl
        · exact hBE.trans (((((((Below.refl w.heap.size _).setCell (p := ⟨w.heap.size, 0, none⟩) (Nat.le_refl _) _).setCell (p := ⟨w.heap.size, 1, none⟩) (Nat.le_refl _) _).setCell (p := ⟨w.heap.size, 2, none⟩) (Nat.le_refl _) _).setCell (p := ⟨w.heap.size, 3, none⟩) (Nat.le_refl _) _).setCell (p := ⟨w.heap.size, 4, none⟩) (Nat.le_refl _) _).setCell (p := ⟨w.heap.size, 5, none⟩) (Nat.le_refl _) _ |>.setCell (p := ⟨w.heap.size, 6, none⟩) (Nat.le_refl _) _)
      | false =>
        rw [hbad] at HCT
        go_wp2_with fail
        refine HSQ.out.mono ?_
        rintro e w3 ⟨rfl, rfl⟩
        go_wp2_with fail
        refine HCT.out.mono ?_
        rintro e w4 ⟨rfl, b4⟩
        have CW4 : w4.heap[w.heap.size]? = some (.cells #[.slice none 0 0, .bool false, .bool false, .bool false, .bool false, .bool false, .bool false] 42) := by rw [b4.block _ (by omega), hB2.block _ (by omega)]; exact CW.out
        obtain ⟨⟨c0, c1, c2, c3, c4, c5, c6⟩, f0, f1, f2, f3, f4, f5, f6⟩ := item_cells CW4
        have hBE : Below w.heap.size w w4 := (hB1.trans (hB2.mono (by omega))).trans (b4.mono (by omega))
        have HNB : Hid (w1.heap.size < w4.heap.size ∧ w.heap.size ≤ w1.heap.size ∧ StrB w4 w1.heap.size ns) := Lib.hid ⟨by have := b4.size; omega, hB1.size, HNS.out.below b4 (by omega)⟩
        have hne0 : w1.heap.size ≠ w.heap.size := by omega
        clear CW4
        go_wp2
        refine bodyPost_ret (v := .tuple #[itemVal (.slice (some ⟨w1.heap.size, 0, none⟩) ns.length ns.length) 0, .bool true]) (by simp [results, Tryz.results35, go_sem, itemVal, c0, c1, c2, c3, c4, c5, c6]; try decide) rfl ⟨?_, ?_⟩
        · have : itemR (bl s) = some ⟨ns, 0⟩ := by unfold itemR; rw [hsp]; show (if _ then _ else _) = some _; rw [HNN.out, hbad]; rfl
          rw [this]
          refine ⟨w1.heap.size, rfl, HNB.out.2.1, by simp [HNB.out.1], ?_⟩
          unfold StrB
          rw [Go.heap_setCell_other _ _ _ _ hne0, Go.heap_setCell_other _ _ _ _ hne0, Go.heap_setCell_other _ _ _ _ hne0, Go.heap_setCell_other _ _ _ _ hne0, Go.heap_setCell_other _ _ _ _ hne0, Go.heap_setCell_other _ _ _ _ hne0, Go.heap_setCell_other _ _ _ _ hne0]
          exact HNB.out.2.2
        · exact hBE.trans (((((((Below.refl w.heap.size _).setCell (p := ⟨w.heap.size, 0, none⟩) (Nat.le_refl _) _).setCell (p := ⟨w.heap.size, 1, none⟩) (Nat.le_refl _) _).setCell (p := ⟨w.heap.size, 2, none⟩) (Nat.le_refl _) _).setCell (p := ⟨w.heap.size, 3, none⟩) (Nat.le_refl _) _).setCell (p := ⟨w.heap.size, 4, none⟩) (Nat.le_refl _) _).setCell (p := ⟨w.heap.size, 5, none⟩) (Nat.le_refl _) _ |>.setCell (p := ⟨w.heap.size, 6, none⟩) (Nat.le_refl _) _)
  case inr =>
    have hSs : Strs w1 (w.heap.size + 1) 1 ps := HS1.out.drop
    go_loopw [5, 7, 8, 16] (fun mv _ _ i wr => ∃ k m : Nat, k ≤ ps.length ∧ i = .int .i64 k ∧ m < 64 ∧ mv = .int .i64 m ∧ Below w1.heap.size w1 wr ∧ Hid (marksR ps 0 = marksR (ps.drop k) m)) (fun _ _ _ i _ => (ps.length - intOf i).toNat)
    case atStart => exact ⟨0, 0, by omega, rfl, by omega, rfl, Below.refl _ _, Lib.hid rfl⟩
    case round =>
      obtain ⟨k, m, hk, rfl, hm, rfl, hB, HA⟩ := hrel
      have CW : Hid (wr.heap[w.heap.size]? = some (.cells #[.slice none 0 0, .bool false, .bool false, .bool false, .bool false, .bool false, .bool false] 42)) := Lib.hid (by rw [hB.block _ (by omega)]; exact HC1.out)
      by_cases hlt : k < ps.length
      · have hlz : decide ((k : Int) < (ps.length : Int)) = true := by simp; omega
        obtain ⟨p, hp⟩ : ∃ p, ps[k] = p := ⟨_, rfl⟩
        have hcell : wr.cell? ⟨w.heap.size + 1, 1 + k, none⟩ = some (.string (mkS p)) := by rw [← hp]; exact (hB.cell (p := ⟨w.heap.size + 1, 1 + k, none⟩) (by show w.heap.size + 1 < _; omega)).trans (hSs k hlt)
        have hMR : marksR ps 0 = match markIdx p with | none => none | some i => if m.testBit i then none else marksR (ps.drop (k + 1)) (m ||| 1 <<< i) := by
          rw [HA.out, List.drop_eq_getElem_cons hlt, hp]; rfl
        have HSs := Lib.hid hSs
        clear hSs
        cases hmi : markIdx p with
        | none =>
          rw [hmi] at hMR
          have HMR := Lib.hid hMR
          obtain ⟨⟨c0, c1, c2, c3, c4, c5, c6⟩, f0, f1, f2, f3, f4, f5, f6⟩ := item_cells CW.out
          obtain ⟨ml, hml⟩ := hG.ml
          have HML : Hid (wr.cell? ⟨2, 0, none⟩ = some (.int .i64 ml)) := Lib.hid (((hB1.trans (hB.mono (by omega))).cell (p := ⟨2, 0, none⟩) (by show 2 < w.heap.size; have := hG.big; omega)).trans hml)
          by_cases hp1 : p.length = 1
          · obtain ⟨c, rfl⟩ : ∃ c, p = [c] := by
              match p, hp1 with
              | [c], _ => exact ⟨c, rfl⟩
            have hIX := Tryz.strings_Index_one ⟨#[97, 107, 115, 110, 109, 102]⟩ c wr
            rw [show Lib.indexByte (⟨#[97, 107, 115, 110, 109, 102]⟩ : ByteArray).data.toList c = -1 from markIdx_none hmi] at hIX
            have HIX := Lib.hid hIX
            have hcell : wr.cell? ⟨w.heap.size + 1, 1 + k, none⟩ = some (.string ⟨#[c]⟩) := hcell
            clear hIX hmi hMR hml HML
            go_wp2_with fail
            refine HIX.out.mono ?_
            rintro e w' ⟨rfl, rfl⟩
            go_wp2
            refine bodyPost_ret (v := .tuple #[zeroItem, .bool false]) (by simp [results, Tryz.results35, go_sem, zeroItem, c0, c1, c2, c3, c4, c5, c6]) rfl ⟨?_, ?_⟩
            · have : itemR (bl s) = none := by unfold itemR; rw [hsp]; show (match marksR ps 0 with | none => none | some m => _) = none; rw [HMR.out]; try rfl
              rw [this]; rfl
            · exact (hB1.trans (hB.mono (by omega))).trans (((((((Below.refl w.heap.size _).setCell (p := ⟨w.heap.size, 0, none⟩) (Nat.le_refl _) _).setCell (p := ⟨w.heap.size, 1, none⟩) (Nat.le_refl _) _).setCell (p := ⟨w.heap.size, 2, none⟩) (Nat.le_refl _) _).setCell (p := ⟨w.heap.size, 3, none⟩) (Nat.le_refl _) _).setCell (p := ⟨w.heap.size, 4, none⟩) (Nat.le_refl _) _).setCell (p := ⟨w.heap.size, 5, none⟩) (Nat.le_refl _) _ |>.setCell (p := ⟨w.heap.size, 6, none⟩) (Nat.le_refl _) _)
          · have hIX := Tryz.strings_Index ⟨#[97, 107, 115, 110, 109, 102]⟩ ⟨p.toArray⟩ ml wr (by decide) HML.out
            obtain ⟨ix, hix⟩ : ∃ ix, Lib.index (⟨#[97, 107, 115, 110, 109, 102]⟩ : ByteArray).data.toList (⟨p.toArray⟩ : ByteArray).data.toList = ix := ⟨_, rfl⟩
            rw [hix] at hIX
            have HIX := Lib.hid hIX
            replace hcell : wr.cell? ⟨w.heap.size + 1, 1 + k, none⟩ = some (.string ⟨p.toArray⟩) := hcell
            have hpn : ((p.length : Int) != 1) = true := by simp; omega
            clear hIX hmi hMR hml HML hix
            go_wp2_with fail
            refine HIX.out.mono ?_
            rintro e w' ⟨rfl, rfl⟩
            go_wp2
            refine bodyPost_ret (v := .tuple #[zeroItem, .bool false]) (by simp [results, Tryz.results35, go_sem, zeroItem, c0, c1, c2, c3, c4, c5, c6]) rfl ⟨?_, ?_⟩
            · have : itemR (bl s) = none := by unfold itemR; rw [hsp]; show (match marksR ps 0 with | none => none | some m => _) = none; rw [HMR.out]; try rfl
              rw [this]; rfl
            · exact (hB1.trans (hB.mono (by omega))).trans (((((((Below.refl w.heap.size _).setCell (p := ⟨w.heap.size, 0, none⟩) (Nat.le_refl _) _).setCell (p := ⟨w.heap.size, 1, none⟩) (Nat.le_refl _) _).setCell (p := ⟨w.heap.size, 2, none⟩) (Nat.le_refl _) _).setCell (p := ⟨w.heap.size, 3, none⟩) (Nat.le_refl _) _).setCell (p := ⟨w.heap.size, 4, none⟩) (Nat.le_refl _) _).setCell (p := ⟨w.heap.size, 5, none⟩) (Nat.le_refl _) _ |>.setCell (p := ⟨w.heap.size, 6, none⟩) (Nat.le_refl _) _)
        | some i =>
          rw [hmi] at hMR
          have hi6 := markIdx_lt hmi
          obtain rfl := markIdx_some hmi
          have HMR := Lib.hid hMR
          have hIX := Tryz.strings_Index_one ⟨#[97, 107, 115, 110, 109, 102]⟩ (chOf i) wr
          rw [show Lib.indexByte (⟨#[97, 107, 115, 110, 109, 102]⟩ : ByteArray).data.toList (chOf i) = i from index_order i hi6] at hIX
          have ba := bitAnd m i hm hi6
          have bo := bitOr m i hm hi6
          have HIX := Lib.hid hIX
          clear hIX hmi hMR
          rcases (show i = 0 ∨ i = 1 ∨ i = 2 ∨ i = 3 ∨ i = 4 ∨ i = 5 by omega) with rfl | rfl | rfl | rfl | rfl | rfl
          · have HMR : Hid (marksR ps 0 = if m.testBit 0 then none else marksR (ps.drop (k + 1)) (m ||| 1)) := HMR
            have hcell : wr.cell? ⟨w.heap.size + 1, 1 + k, none⟩ = some (.string ⟨#[97]⟩) := hcell
            have HIX : Hid (Calls Tryz.prog 63 #[.string ⟨#[97, 107, 115, 110, 109, 102]⟩, .string ⟨#[97]⟩] wr fun e w' => e = .returned (.int .i64 0) ∧ w' = wr) := HIX
            have ba : (Go.bits .and .i64 (m : Int) 1 != 0) = m.testBit 0 := ba
            have bo : Go.bits .or .i64 (m : Int) 1 = ((m ||| 1 : Nat) : Int) := bo
            cases htb : m.testBit 0 with
            | true =>
              rw [htb] at ba HMR
              obtain ⟨⟨c0, c1, c2, c3, c4, c5, c6⟩, f0, f1, f2, f3, f4, f5, f6⟩ := item_cells CW.out
              go_wp2_with fail
              refine HIX.out.mono ?_
              rintro e w' ⟨rfl, rfl⟩
              go_wp2
              refine bodyPost_ret (v := .tuple #[zeroItem, .bool false]) (by simp [results, Tryz.results35, go_sem, zeroItem, c0, c1, c2, c3, c4, c5, c6]) rfl ⟨?_, ?_⟩
              · have : itemR (bl s) = none := by unfold itemR; rw [hsp]; show (match marksR ps 0 with | none => none | some m => _) = none; rw [HMR.out]; try rfl
                rw [this]; rfl
              · exact (hB1.trans (hB.mono (by omega))).trans (((((((Below.refl w.heap.size w').setCell (p := ⟨w.heap.size, 0, none⟩) (Nat.le_refl _) _).setCell (p := ⟨w.heap.size, 1, none⟩) (Nat.le_refl _) _).setCell (p := ⟨w.heap.size, 2, none⟩) (Nat.le_refl _) _).setCell (p := ⟨w.heap.size, 3, none⟩) (Nat.le_refl _) _).setCell (p := ⟨w.heap.size, 4, none⟩) (Nat.le_refl _) _).setCell (p := ⟨w.heap.size, 5, none⟩) (Nat.le_refl _) _ |>.setCell (p := ⟨w.heap.size, 6, none⟩) (Nat.le_refl _) _)
            | false =>
              rw [htb] at ba HMR
              go_wp2_with fail
              refine HIX.out.mono ?_
              rintro e w' ⟨rfl, rfl⟩
              go_wp2
              go_roundw
              case rel => exact ⟨k + 1, m ||| 1, by omega, by go_num, Nat.or_lt_two_pow (n := 6) hm (by decide), rfl, hB, Lib.hid HMR.out⟩
              case measure => simp [intOf]; omega
          · have HMR : Hid (marksR ps 0 = if m.testBit 1 then none else marksR (ps.drop (k + 1)) (m ||| 2)) := HMR
            have hcell : wr.cell? ⟨w.heap.size + 1, 1 + k, none⟩ = some (.string ⟨#[107]⟩) := hcell
            have HIX : Hid (Calls Tryz.prog 63 #[.string ⟨#[97, 107, 115, 110, 109, 102]⟩, .string ⟨#[107]⟩] wr fun e w' => e = .returned (.int .i64 1) ∧ w' = wr) := HIX
            have ba : (Go.bits .and .i64 (m : Int) 2 != 0) = m.testBit 1 := ba
            have bo : Go.bits .or .i64 (m : Int) 2 = ((m ||| 2 : Nat) : Int) := bo
            cases htb : m.testBit 1 with
            | true =>
              rw [htb] at ba HMR
              obtain ⟨⟨c0, c1, c2, c3, c4, c5, c6⟩, f0, f1, f2, f3, f4, f5, f6⟩ := item_cells CW.out
              go_wp2_with fail
              refine HIX.out.mono ?_
              rintro e w' ⟨rfl, rfl⟩
              go_wp2
              refine bodyPost_ret (v := .tuple #[zeroItem, .bool false]) (by simp [results, Tryz.results35, go_sem, zeroItem, c0, c1, c2, c3, c4, c5, c6]) rfl ⟨?_, ?_⟩
              · have : itemR (bl s) = none := by unfold itemR; rw [hsp]; show (match marksR ps 0 with | none => none | some m => _) = none; rw [HMR.out]; try rfl
                rw [this]; rfl
              · exact (hB1.trans (hB.mono (by omega))).trans (((((((Below.refl w.heap.size w').setCell (p := ⟨w.heap.size, 0, none⟩) (Nat.le_refl _) _).setCell (p := ⟨w.heap.size, 1, none⟩) (Nat.le_refl _) _).setCell (p := ⟨w.heap.size, 2, none⟩) (Nat.le_refl _) _).setCell (p := ⟨w.heap.size, 3, none⟩) (Nat.le_refl _) _).setCell (p := ⟨w.heap.size, 4, none⟩) (Nat.le_refl _) _).setCell (p := ⟨w.heap.size, 5, none⟩) (Nat.le_refl _) _ |>.setCell (p := ⟨w.heap.size, 6, none⟩) (Nat.le_refl _) _)
            | false =>
              rw [htb] at ba HMR
              go_wp2_with fail
              refine HIX.out.mono ?_
              rintro e w' ⟨rfl, rfl⟩
              go_wp2
              go_roundw
              case rel => exact ⟨k + 1, m ||| 2, by omega, by go_num, Nat.or_lt_two_pow (n := 6) hm (by decide), rfl, hB, Lib.hid HMR.out⟩
              case measure => simp [intOf]; omega
          · have HMR : Hid (marksR ps 0 = if m.testBit 2 then none else marksR (ps.drop (k + 1)) (m ||| 4)) := HMR
            have hcell : wr.cell? ⟨w.heap.size + 1, 1 + k, none⟩ = some (.string ⟨#[115]⟩) := hcell
            have HIX : Hid (Calls Tryz.prog 63 #[.string ⟨#[97, 107, 115, 110, 109, 102]⟩, .string ⟨#[115]⟩] wr fun e w' => e = .returned (.int .i64 2) ∧ w' = wr) := HIX
            have ba : (Go.bits .and .i64 (m : Int) 4 != 0) = m.testBit 2 := ba
            have bo : Go.bits .or .i64 (m : Int) 4 = ((m ||| 4 : Nat) : Int) := bo
            cases htb : m.testBit 2 with
            | true =>
              rw [htb] at ba HMR
              obtain ⟨⟨c0, c1, c2, c3, c4, c5, c6⟩, f0, f1, f2, f3, f4, f5, f6⟩ := item_cells CW.out
              go_wp2_with fail
              refine HIX.out.mono ?_
              rintro e w' ⟨rfl, rfl⟩
              go_wp2
              refine bodyPost_ret (v := .tuple #[zeroItem, .bool false]) (by simp [results, Tryz.results35, go_sem, zeroItem, c0, c1, c2, c3, c4, c5, c6]) rfl ⟨?_, ?_⟩
              · have : itemR (bl s) = none := by unfold itemR; rw [hsp]; show (match marksR ps 0 with | none => none | some m => _) = none; rw [HMR.out]; try rfl
                rw [this]; rfl
              · exact (hB1.trans (hB.mono (by omega))).trans (((((((Below.refl w.heap.size w').setCell (p := ⟨w.heap.size, 0, none⟩) (Nat.le_refl _) _).setCell (p := ⟨w.heap.size, 1, none⟩) (Nat.le_refl _) _).setCell (p := ⟨w.heap.size, 2, none⟩) (Nat.le_refl _) _).setCell (p := ⟨w.heap.size, 3, none⟩) (Nat.le_refl _) _).setCell (p := ⟨w.heap.size, 4, none⟩) (Nat.le_refl _) _).setCell (p := ⟨w.heap.size, 5, none⟩) (Nat.le_refl _) _ |>.setCell (p := ⟨w.heap.size, 6, none⟩) (Nat.le_refl _) _)
            | false =>
              rw [htb] at ba HMR
              go_wp2_with fail
              refine HIX.out.mono ?_
              rintro e w' ⟨rfl, rfl⟩
              go_wp2
              go_roundw
              case rel => exact ⟨k + 1, m ||| 4, by omega, by go_num, Nat.or_lt_two_pow (n := 6) hm (by decide), rfl, hB, Lib.hid HMR.out⟩
              case measure => simp [intOf]; omega
          · have HMR : Hid (marksR ps 0 = if m.testBit 3 then none else marksR (ps.drop (k + 1)) (m ||| 8)) := HMR
            have hcell : wr.cell? ⟨w.heap.size + 1, 1 + k, none⟩ = some (.string ⟨#[110]⟩) := hcell
            have HIX : Hid (Calls Tryz.prog 63 #[.string ⟨#[97, 107, 115, 110, 109, 102]⟩, .string ⟨#[110]⟩] wr fun e w' => e = .returned (.int .i64 3) ∧ w' = wr) := HIX
            have ba : (Go.bits .and .i64 (m : Int) 8 != 0) = m.testBit 3 := ba
            have bo : Go.bits .or .i64 (m : Int) 8 = ((m ||| 8 : Nat) : Int) := bo
            cases htb : m.testBit 3 with
            | true =>
              rw [htb] at ba HMR
              obtain ⟨⟨c0, c1, c2, c3, c4, c5, c6⟩, f0, f1, f2, f3, f4, f5, f6⟩ := item_cells CW.out
              go_wp2_with fail
              refine HIX.out.mono ?_
              rintro e w' ⟨rfl, rfl⟩
              go_wp2
              refine bodyPost_ret (v := .tuple #[zeroItem, .bool false]) (by simp [results, Tryz.results35, go_sem, zeroItem, c0, c1, c2, c3, c4, c5, c6]) rfl ⟨?_, ?_⟩
              · have : itemR (bl s) = none := by unfold itemR; rw [hsp]; show (match marksR ps 0 with | none => none | some m => _) = none; rw [HMR.out]; try rfl
                rw [this]; rfl
              · exact (hB1.trans (hB.mono (by omega))).trans (((((((Below.refl w.heap.size w').setCell (p := ⟨w.heap.size, 0, none⟩) (Nat.le_refl _) _).setCell (p := ⟨w.heap.size, 1, none⟩) (Nat.le_refl _) _).setCell (p := ⟨w.heap.size, 2, none⟩) (Nat.le_refl _) _).setCell (p := ⟨w.heap.size, 3, none⟩) (Nat.le_refl _) _).setCell (p := ⟨w.heap.size, 4, none⟩) (Nat.le_refl _) _).setCell (p := ⟨w.heap.size, 5, none⟩) (Nat.le_refl _) _ |>.setCell (p := ⟨w.heap.size, 6, none⟩) (Nat.le_refl _) _)
            | false =>
              rw [htb] at ba HMR
              go_wp2_with fail
              refine HIX.out.mono ?_
              rintro e w' ⟨rfl, rfl⟩
              go_wp2
              go_roundw
              case rel => exact ⟨k + 1, m ||| 8, by omega, by go_num, Nat.or_lt_two_pow (n := 6) hm (by decide), rfl, hB, Lib.hid HMR.out⟩
              case measure => simp [intOf]; omega
          · have HMR : Hid (marksR ps 0 = if m.testBit 4 then none else marksR (ps.drop (k + 1)) (m ||| 16)) := HMR
            have hcell : wr.cell? ⟨w.heap.size + 1, 1 + k, none⟩ = some (.string ⟨#[109]⟩) := hcell
            have HIX : Hid (Calls Tryz.prog 63 #[.string ⟨#[97, 107, 115, 110, 109, 102]⟩, .string ⟨#[109]⟩] wr fun e w' => e = .returned (.int .i64 4) ∧ w' = wr) := HIX
            have ba : (Go.bits .and .i64 (m : Int) 16 != 0) = m.testBit 4 := ba
            have bo : Go.bits .or .i64 (m : Int) 16 = ((m ||| 16 : Nat) : Int) := bo
            cases htb : m.testBit 4 with
            | true =>
              rw [htb] at ba HMR
              obtain ⟨⟨c0, c1, c2, c3, c4, c5, c6⟩, f0, f1, f2, f3, f4, f5, f6⟩ := item_cells CW.out
              go_wp2_with fail
              refine HIX.out.mono ?_
              rintro e w' ⟨rfl, rfl⟩
              go_wp2
              refine bodyPost_ret (v := .tuple #[zeroItem, .bool false]) (by simp [results, Tryz.results35, go_sem, zeroItem, c0, c1, c2, c3, c4, c5, c6]) rfl ⟨?_, ?_⟩
              · have : itemR (bl s) = none := by unfold itemR; rw [hsp]; show (match marksR ps 0 with | none => none | some m => _) = none; rw [HMR.out]; try rfl
                rw [this]; rfl
              · exact (hB1.trans (hB.mono (by omega))).trans (((((((Below.refl w.heap.size w').setCell (p := ⟨w.heap.size, 0, none⟩) (Nat.le_refl _) _).setCell (p := ⟨w.heap.size, 1, none⟩) (Nat.le_refl _) _).setCell (p := ⟨w.heap.size, 2, none⟩) (Nat.le_refl _) _).setCell (p := ⟨w.heap.size, 3, none⟩) (Nat.le_refl _) _).setCell (p := ⟨w.heap.size, 4, none⟩) (Nat.le_refl _) _).setCell (p := ⟨w.heap.size, 5, none⟩) (Nat.le_refl _) _ |>.setCell (p := ⟨w.heap.size, 6, none⟩) (Nat.le_refl _) _)
            | false =>
              rw [htb] at ba HMR
              go_wp2_with fail
              refine HIX.out.mono ?_
              rintro e w' ⟨rfl, rfl⟩
              go_wp2
              go_roundw
              case rel => exact ⟨k + 1, m ||| 16, by omega, by go_num, Nat.or_lt_two_pow (n := 6) hm (by decide), rfl, hB, Lib.hid HMR.out⟩
              case measure => simp [intOf]; omega
          · have HMR : Hid (marksR ps 0 = if m.testBit 5 then none else marksR (ps.drop (k + 1)) (m ||| 32)) := HMR
            have hcell : wr.cell? ⟨w.heap.size + 1, 1 + k, none⟩ = some (.string ⟨#[102]⟩) := hcell
            have HIX : Hid (Calls Tryz.prog 63 #[.string ⟨#[97, 107, 115, 110, 109, 102]⟩, .string ⟨#[102]⟩] wr fun e w' => e = .returned (.int .i64 5) ∧ w' = wr) := HIX
            have ba : (Go.bits .and .i64 (m : Int) 32 != 0) = m.testBit 5 := ba
            have bo : Go.bits .or .i64 (m : Int) 32 = ((m ||| 32 : Nat) : Int) := bo
            cases htb : m.testBit 5 with
            | true =>
              rw [htb] at ba HMR
              obtain ⟨⟨c0, c1, c2, c3, c4, c5, c6⟩, f0, f1, f2, f3, f4, f5, f6⟩ := item_cells CW.out
              go_wp2_with fail
              refine HIX.out.mono ?_
              rintro e w' ⟨rfl, rfl⟩
              go_wp2
              refine bodyPost_ret (v := .tuple #[zeroItem, .bool false]) (by simp [results, Tryz.results35, go_sem, zeroItem, c0, c1, c2, c3, c4, c5, c6]) rfl ⟨?_, ?_⟩
              · have : itemR (bl s) = none := by unfold itemR; rw [hsp]; show (match marksR ps 0 with | none => none | some m => _) = none; rw [HMR.out]; try rfl
                rw [this]; rfl
              · exact (hB1.trans (hB.mono (by omega))).trans (((((((Below.refl w.heap.size w').setCell (p := ⟨w.heap.size, 0, none⟩) (Nat.le_refl _) _).setCell (p := ⟨w.heap.size, 1, none⟩) (Nat.le_refl _) _).setCell (p := ⟨w.heap.size, 2, none⟩) (Nat.le_refl _) _).setCell (p := ⟨w.heap.size, 3, none⟩) (Nat.le_refl _) _).setCell (p := ⟨w.heap.size, 4, none⟩) (Nat.le_refl _) _).setCell (p := ⟨w.heap.size, 5, none⟩) (Nat.le_refl _) _ |>.setCell (p := ⟨w.heap.size, 6, none⟩) (Nat.le_refl _) _)
            | false =>
              rw [htb] at ba HMR
              go_wp2_with fail
              refine HIX.out.mono ?_
              rintro e w' ⟨rfl, rfl⟩
              go_wp2
              go_roundw
              case rel => exact ⟨k + 1, m ||| 32, by omega, by go_num, Nat.or_lt_two_pow (n := 6) hm (by decide), rfl, hB, Lib.hid HMR.out⟩
              case measure => simp [intOf]; omega
      · obtain rfl : k = ps.length := by omega
        rw [List.drop_length] at HA
        have HMR : Hid (marksR ps 0 = some m) := HA
        have hcell0 : wr.cell? ⟨w.heap.size + 1, 0, none⟩ = some (.string (mkS p0)) := (hB.cell (p := ⟨w.heap.size + 1, 0, none⟩) (by show w.heap.size + 1 < _; omega)).trans (HS1.out 0 (by simp))
        have hszr := hB.size
        have hBwr := hB1.trans (hB.mono (by omega))
        have hSQ := split_calls (mkS p0) 61 wr (by rw [mkS_size]; omega) (hG.below' hBwr)
        rw [bl_mkS] at hSQ
        obtain ⟨ns, hns⟩ : ∃ ns, spl 61 p0 = ns := ⟨_, rfl⟩
        rw [hns] at hSQ
        have HNN : Hid (spl 61 p0 = ns) := Lib.hid hns
        have hNS := strB_new wr ns
        obtain ⟨w2, hw2⟩ : ∃ w2, wr.alloc (.cells (ns.map fun l => Value.string (mkS l)).toArray 9) = w2 := ⟨_, rfl⟩
        have hz2 : w2.heap.size = wr.heap.size + 1 := by rw [← hw2]; simp
        have hB2 : Below wr.heap.size wr w2 := by rw [← hw2]; exact (Below.refl _ wr).alloc (Nat.le_refl _) _
        rw [hw2] at hSQ hNS
        have hCT := ctf_calls ns wr.heap.size 0 ns.length w2 hNS.strs (by omega) (hnsz ns hns).1 (hnsz ns hns).2
        have HSQ := Lib.hid hSQ
        have HNS := Lib.hid hNS
        have HCT := Lib.hid hCT
        have e0 : (Go.bits .and .i64 (m : Int) 1 != 0) = m.testBit 0 := bitAnd m 0 hm (by decide)
        have e1 : (Go.bits .and .i64 (m : Int) 2 != 0) = m.testBit 1 := bitAnd m 1 hm (by decide)
        have e2 : (Go.bits .and .i64 (m : Int) 4 != 0) = m.testBit 2 := bitAnd m 2 hm (by decide)
        have e3 : (Go.bits .and .i64 (m : Int) 8 != 0) = m.testBit 3 := bitAnd m 3 hm (by decide)
        have e4 : (Go.bits .and .i64 (m : Int) 16 != 0) = m.testBit 4 := bitAnd m 4 hm (by decide)
        have e5 : (Go.bits .and .i64 (m : Int) 32 != 0) = m.testBit 5 := bitAnd m 5 hm (by decide)
        have e6 := bitAndNot m hm
        have EE := Lib.hid (And.intro e0 (And.intro e1 (And.intro e2 (And.intro e3 (And.intro e4 (And.intro e5 e6))))))
        clear hSQ hNS hCT hSs hw2 hns e0 e1 e2 e3 e4 e5 e6
        cases hbad : ns.any badName with
        | true =>
          rw [hbad] at HCT
          go_wp2_with fail
          refine HSQ.out.mono ?_
          rintro e w3 ⟨rfl, rfl⟩
          go_wp2_with fail
          refine HCT.out.mono ?_
          rintro e w4 ⟨rfl, b4⟩
          have CW4 : w4.heap[w.heap.size]? = some (.cells #[.slice none 0 0, .bool false, .bool false, .bool false, .bool false, .bool false, .bool false] 42) := by rw [b4.block _ (by omega), hB2.block _ (by omega)]; exact CW.out
          obtain ⟨⟨c0, c1, c2, c3, c4, c5, c6⟩, f0, f1, f2, f3, f4, f5, f6⟩ := item_cells CW4
          have hBE : Below w.heap.size w w4 := (hBwr.trans (hB2.mono (by omega))).trans (b4.mono (by omega))
          clear CW4
          go_wp2
          refine bodyPost_ret (v := .tuple #[zeroItem, .bool false]) (by simp [results, Tryz.results35, go_sem, zeroItem, c0, c1, c2, c3, c4, c5, c6]) rfl ⟨?_, ?_⟩
          · have : itemR (bl s) = none := by unfold itemR; rw [hsp]; show (match marksR ps 0 with | none => none | some m => _) = none; rw [HMR.out]; show (if _ then _ else _) = none; rw [HNN.out, hbad]; rfl
            rw [this]; rfl
          · exact hBE.trans (((((((Below.refl w.heap.size _).setCell (p := ⟨w.heap.size, 0, none⟩) (Nat.le_refl _) _).setCell (p := ⟨w.heap.size, 1, none⟩) (Nat.le_refl _) _).setCell (p := ⟨w.heap.size, 2, none⟩) (Nat.le_refl _) _).setCell (p := ⟨w.heap.size, 3, none⟩) (Nat.le_refl _) _).setCell (p := ⟨w.heap.size, 4, none⟩) (Nat.le_refl _) _).setCell (p := ⟨w.heap.size, 5, none⟩) (Nat.le_refl _) _ |>.setCell (p := ⟨w.heap.size, 6, none⟩) (Nat.le_refl _) _)
        | false =>
          rw [hbad] at HCT
          go_wp2_with fail
          refine HSQ.out.mono ?_
          rintro e w3 ⟨rfl, rfl⟩
          go_wp2_with fail
          refine HCT.out.mono ?_
          rintro e w4 ⟨rfl, b4⟩
          have CW4 : w4.heap[w.heap.size]? = some (.cells #[.slice none 0 0, .bool false, .bool false, .bool false, .bool false, .bool false, .bool false] 42) := by rw [b4.block _ (by omega), hB2.block _ (by omega)]; exact CW.out
          obtain ⟨⟨c0, c1, c2, c3, c4, c5, c6⟩, f0, f1, f2, f3, f4, f5, f6⟩ := item_cells CW4
          have hBE : Below w.heap.size w w4 := (hBwr.trans (hB2.mono (by omega))).trans (b4.mono (by omega))
          clear CW4
          have BM : Hid (badMarks m = (((Go.bits .and .i64 (m : Int) 4 != 0) && ((m : Int) != 4)) || ((Go.bits .and .i64 (m : Int) 16 != 0) && (Go.bits .and .i64 (m : Int) 2 != 0)) || ((Go.bits .and .i64 (m : Int) 32 != 0) && (Go.bits .andNot .i64 (m : Int) 1 != 32)))) := Lib.hid (by
            obtain ⟨e0, e1, e2, e3, e4, e5, e6⟩ := EE.out
            have : ((m : Int) != 4) = (m != 4) := by
              rw [Bool.eq_iff_iff]; simp; omega
            rw [e2, e4, e1, e5, e6, this]; rfl)
          have IV : Hid (itemVal (.slice (some ⟨wr.heap.size, 0, none⟩) ns.length ns.length) m = .agg #[.slice (some ⟨wr.heap.size, 0, none⟩) ns.length ns.length, .bool (Go.bits .and .i64 (m : Int) 1 != 0), .bool (Go.bits .and .i64 (m : Int) 2 != 0), .bool (Go.bits .and .i64 (m : Int) 4 != 0), .bool (Go.bits .and .i64 (m : Int) 8 != 0), .bool (Go.bits .and .i64 (m : Int) 16 != 0), .bool (Go.bits .and .i64 (m : Int) 32 != 0)]) := Lib.hid (by
            obtain ⟨e0, e1, e2, e3, e4, e5, e6⟩ := EE.out
            rw [e0, e1, e2, e3, e4, e5]; rfl)
          have HNB : Hid (wr.heap.size < w4.heap.size ∧ w.heap.size ≤ wr.heap.size ∧ StrB w4 wr.heap.size ns) := Lib.hid ⟨by have := b4.size; omega, hBwr.size, HNS.out.below b4 (by omega)⟩
          have hne0 : wr.heap.size ≠ w.heap.size := by have := hB.size; omega
          clear EE HSQ HNS HCT HC1 HS1 hSP b4 hB2 hBwr hz2 hszr hp0 hcell0 CW hB
          rcases Bool.eq_false_or_eq_true (Go.bits .and .i64 (m : Int) 4 != 0) with t2 | t2
          · rcases Bool.eq_false_or_eq_true ((m : Int) != 4) with tm | tm
            · have hbm : badMarks m = true := by rw [BM.out]; simp [t2, tm]
              go_wp2
              refine bodyPost_ret (v := .tuple #[zeroItem, .bool false]) (by simp [results, Tryz.results35, go_sem, zeroItem, c0, c1, c2, c3, c4, c5, c6]) rfl ⟨?_, ?_⟩
              · have : itemR (bl s) = none := by unfold itemR; rw [hsp]; show (match marksR ps 0 with | none => none | some m => _) = none; rw [HMR.out]; show (if _ then _ else _) = none; rw [HNN.out, hbad, hbm]; rfl
                rw [this]; rfl
              · exact hBE.trans (((((((Below.refl w.heap.size _).setCell (p := ⟨w.heap.size, 0, none⟩) (Nat.le_refl _) _).setCell (p := ⟨w.heap.size, 1, none⟩) (Nat.le_refl _) _).setCell (p := ⟨w.heap.size, 2, none⟩) (Nat.le_refl _) _).setCell (p := ⟨w.heap.size, 3, none⟩) (Nat.le_refl _) _).setCell (p := ⟨w.heap.size, 4, none⟩) (Nat.le_refl _) _).setCell (p := ⟨w.heap.size, 5, none⟩) (Nat.le_refl _) _ |>.setCell (p := ⟨w.heap.size, 6, none⟩) (Nat.le_refl _) _)
            · have hm4 : m = 4 := by simp at tm; omega
              have t4 : (Go.bits .and .i64 (m : Int) 16 != 0) = false := by rw [hm4]; decide
              have t5 : (Go.bits .and .i64 (m : Int) 32 != 0) = false := by rw [hm4]; decide
              clear hm4
              have hbm : badMarks m = false := by rw [BM.out]; simp [t2, tm, t4, t5]
              go_wp2
              refine bodyPost_ret (v := .tuple #[itemVal (.slice (some ⟨wr.heap.size, 0, none⟩) ns.length ns.length) m, .bool true]) (by rw [IV.out]; simp [results, Tryz.results35, go_sem, c0, c1, c2, c3, c4, c5, c6, t2, tm, t4, t5]) rfl ⟨?_, ?_⟩
              · have : itemR (bl s) = some ⟨ns, m⟩ := by unfold itemR; rw [hsp]; show (match marksR ps 0 with | none => none | some m => _) = some _; rw [HMR.out]; show (if _ then _ else _) = some _; rw [HNN.out, hbad, hbm]; rfl
                rw [this]
                refine ⟨wr.heap.size, rfl, HNB.out.2.1, by simp [HNB.out.1], ?_⟩
                unfold StrB
                rw [Go.heap_setCell_other _ _ _ _ hne0, Go.heap_setCell_other _ _ _ _ hne0, Go.heap_setCell_other _ _ _ _ hne0, Go.heap_setCell_other _ _ _ _ hne0, Go.heap_setCell_other _ _ _ _ hne0, Go.heap_setCell_other _ _ _ _ hne0, Go.heap_setCell_other _ _ _ _ hne0]
                exact HNB.out.2.2
              · exact hBE.trans (((((((Below.refl w.heap.size _).setCell (p := ⟨w.heap.size, 0, none⟩) (Nat.le_refl _) _).setCell (p := ⟨w.heap.size, 1, none⟩) (Nat.le_refl _) _).setCell (p := ⟨w.heap.size, 2, none⟩) (Nat.le_refl _) _).setCell (p := ⟨w.heap.size, 3, none⟩) (Nat.le_refl _) _).setCell (p := ⟨w.heap.size, 4, none⟩) (Nat.le_refl _) _).setCell (p := ⟨w.heap.size, 5, none⟩) (Nat.le_refl _) _ |>.setCell (p := ⟨w.heap.size, 6, none⟩) (Nat.le_refl _) _)
          · rcases Bool.eq_false_or_eq_true (Go.bits .and .i64 (m : Int) 16 != 0) with t4 | t4
            · rcases Bool.eq_false_or_eq_true (Go.bits .and .i64 (m : Int) 2 != 0) with t1 | t1
              · have hbm : badMarks m = true := by rw [BM.out]; simp [t2, t4, t1]
                go_wp2
                refine bodyPost_ret (v := .tuple #[zeroItem, .bool false]) (by simp [results, Tryz.results35, go_sem, zeroItem, c0, c1, c2, c3, c4, c5, c6]) rfl ⟨?_, ?_⟩
                · have : itemR (bl s) = none := by unfold itemR; rw [hsp]; show (match marksR ps 0 with | none => none | some m => _) = none; rw [HMR.out]; show (if _ then _ else _) = none; rw [HNN.out, hbad, hbm]; rfl
                  rw [this]; rfl
                · exact hBE.trans (((((((Below.refl w.heap.size _).setCell (p := ⟨w.heap.size, 0, none⟩) (Nat.le_refl _) _).setCell (p := ⟨w.heap.size, 1, none⟩) (Nat.le_refl _) _).setCell (p := ⟨w.heap.size, 2, none⟩) (Nat.le_refl _) _).setCell (p := ⟨w.heap.size, 3, none⟩) (Nat.le_refl _) _).setCell (p := ⟨w.heap.size, 4, none⟩) (Nat.le_refl _) _).setCell (p := ⟨w.heap.size, 5, none⟩) (Nat.le_refl _) _ |>.setCell (p := ⟨w.heap.size, 6, none⟩) (Nat.le_refl _) _)
              · rcases Bool.eq_false_or_eq_true (Go.bits .and .i64 (m : Int) 32 != 0) with t5 | t5
                · rcases Bool.eq_false_or_eq_true (Go.bits .andNot .i64 (m : Int) 1 != 32) with t6 | t6
                  · have hbm : badMarks m = true := by rw [BM.out]; simp [t2, t4, t1, t5, t6]
                    go_wp2
                    refine bodyPost_ret (v := .tuple #[zeroItem, .bool false]) (by simp [results, Tryz.results35, go_sem, zeroItem, c0, c1, c2, c3, c4, c5, c6]) rfl ⟨?_, ?_⟩
                    · have : itemR (bl s) = none := by unfold itemR; rw [hsp]; show (match marksR ps 0 with | none => none | some m => _) = none; rw [HMR.out]; show (if _ then _ else _) = none; rw [HNN.out, hbad, hbm]; rfl
                      rw [this]; rfl
                    · exact hBE.trans (((((((Below.refl w.heap.size _).setCell (p := ⟨w.heap.size, 0, none⟩) (Nat.le_refl _) _).setCell (p := ⟨w.heap.size, 1, none⟩) (Nat.le_refl _) _).setCell (p := ⟨w.heap.size, 2, none⟩) (Nat.le_refl _) _).setCell (p := ⟨w.heap.size, 3, none⟩) (Nat.le_refl _) _).setCell (p := ⟨w.heap.size, 4, none⟩) (Nat.le_refl _) _).setCell (p := ⟨w.heap.size, 5, none⟩) (Nat.le_refl _) _ |>.setCell (p := ⟨w.heap.size, 6, none⟩) (Nat.le_refl _) _)
                  · have hbm : badMarks m = false := by rw [BM.out]; simp [t2, t4, t1, t5, t6]
                    go_wp2
                    refine bodyPost_ret (v := .tuple #[itemVal (.slice (some ⟨wr.heap.size, 0, none⟩) ns.length ns.length) m, .bool true]) (by rw [IV.out]; simp [results, Tryz.results35, go_sem, c0, c1, c2, c3, c4, c5, c6, t2, t4, t1, t5, t6]) rfl ⟨?_, ?_⟩
                    · have : itemR (bl s) = some ⟨ns, m⟩ := by unfold itemR; rw [hsp]; show (match marksR ps 0 with | none => none | some m => _) = some _; rw [HMR.out]; show (if _ then _ else _) = some _; rw [HNN.out, hbad, hbm]; rfl
                      rw [this]
                      refine ⟨wr.heap.size, rfl, HNB.out.2.1, by simp [HNB.out.1], ?_⟩
                      unfold StrB
                      rw [Go.heap_setCell_other _ _ _ _ hne0, Go.heap_setCell_other _ _ _ _ hne0, Go.heap_setCell_other _ _ _ _ hne0, Go.heap_setCell_other _ _ _ _ hne0, Go.heap_setCell_other _ _ _ _ hne0, Go.heap_setCell_other _ _ _ _ hne0, Go.heap_setCell_other _ _ _ _ hne0]
                      exact HNB.out.2.2
                    · exact hBE.trans (((((((Below.refl w.heap.size _).setCell (p := ⟨w.heap.size, 0, none⟩) (Nat.le_refl _) _).setCell (p := ⟨w.heap.size, 1, none⟩) (Nat.le_refl _) _).setCell (p := ⟨w.heap.size, 2, none⟩) (Nat.le_refl _) _).setCell (p := ⟨w.heap.size, 3, none⟩) (Nat.le_refl _) _).setCell (p := ⟨w.heap.size, 4, none⟩) (Nat.le_refl _) _).setCell (p := ⟨w.heap.size, 5, none⟩) (Nat.le_refl _) _ |>.setCell (p := ⟨w.heap.size, 6, none⟩) (Nat.le_refl _) _)
                · have hbm : badMarks m = false := by rw [BM.out]; simp [t2, t4, t1, t5]
                  go_wp2
                  refine bodyPost_ret (v := .tuple #[itemVal (.slice (some ⟨wr.heap.size, 0, none⟩) ns.length ns.length) m, .bool true]) (by rw [IV.out]; simp [results, Tryz.results35, go_sem, c0, c1, c2, c3, c4, c5, c6, t2, t4, t1, t5]) rfl ⟨?_, ?_⟩
                  · have : itemR (bl s) = some ⟨ns, m⟩ := by unfold itemR; rw [hsp]; show (match marksR ps 0 with | none => none | some m => _) = some _; rw [HMR.out]; show (if _ then _ else _) = some _; rw [HNN.out, hbad, hbm]; rfl
                    rw [this]
                    refine ⟨wr.heap.size, rfl, HNB.out.2.1, by simp [HNB.out.1], ?_⟩
                    unfold StrB
                    rw [Go.heap_setCell_other _ _ _ _ hne0, Go.heap_setCell_other _ _ _ _ hne0, Go.heap_setCell_other _ _ _ _ hne0, Go.heap_setCell_other _ _ _ _ hne0, Go.heap_setCell_other _ _ _ _ hne0, Go.heap_setCell_other _ _ _ _ hne0, Go.heap_setCell_other _ _ _ _ hne0]
                    exact HNB.out.2.2
                  · exact hBE.trans (((((((Below.refl w.heap.size _).setCell (p := ⟨w.heap.size, 0, none⟩) (Nat.le_refl _) _).setCell (p := ⟨w.heap.size, 1, none⟩) (Nat.le_refl _) _).setCell (p := ⟨w.heap.size, 2, none⟩) (Nat.le_refl _) _).setCell (p := ⟨w.heap.size, 3, none⟩) (Nat.le_refl _) _).setCell (p := ⟨w.heap.size, 4, none⟩) (Nat.le_refl _) _).setCell (p := ⟨w.heap.size, 5, none⟩) (Nat.le_refl _) _ |>.setCell (p := ⟨w.heap.size, 6, none⟩) (Nat.le_refl _) _)
            · rcases Bool.eq_false_or_eq_true (Go.bits .and .i64 (m : Int) 32 != 0) with t5 | t5
              · rcases Bool.eq_false_or_eq_true (Go.bits .andNot .i64 (m : Int) 1 != 32) with t6 | t6
                · have hbm : badMarks m = true := by rw [BM.out]; simp [t2, t4, t5, t6]
                  go_wp2
                  refine bodyPost_ret (v := .tuple #[zeroItem, .bool false]) (by simp [results, Tryz.results35, go_sem, zeroItem, c0, c1, c2, c3, c4, c5, c6]) rfl ⟨?_, ?_⟩
                  · have : itemR (bl s) = none := by unfold itemR; rw [hsp]; show (match marksR ps 0 with | none => none | some m => _) = none; rw [HMR.out]; show (if _ then _ else _) = none; rw [HNN.out, hbad, hbm]; rfl
                    rw [this]; rfl
                  · exact hBE.trans (((((((Below.refl w.heap.size _).setCell (p := ⟨w.heap.size, 0, none⟩) (Nat.le_refl _) _).setCell (p := ⟨w.heap.size, 1, none⟩) (Nat.le_refl _) _).setCell (p := ⟨w.heap.size, 2, none⟩) (Nat.le_refl _) _).setCell (p := ⟨w.heap.size, 3, none⟩) (Nat.le_refl _) _).setCell (p := ⟨w.heap.size, 4, none⟩) (Nat.le_refl _) _).setCell (p := ⟨w.heap.size, 5, none⟩) (Nat.le_refl _) _ |>.setCell (p := ⟨w.heap.size, 6, none⟩) (Nat.le_refl _) _)
                · have hbm : badMarks m = false := by rw [BM.out]; simp [t2, t4, t5, t6]
                  go_wp2
                  refine bodyPost_ret (v := .tuple #[itemVal (.slice (some ⟨wr.heap.size, 0, none⟩) ns.length ns.length) m, .bool true]) (by rw [IV.out]; simp [results, Tryz.results35, go_sem, c0, c1, c2, c3, c4, c5, c6, t2, t4, t5, t6]) rfl ⟨?_, ?_⟩
                  · have : itemR (bl s) = some ⟨ns, m⟩ := by unfold itemR; rw [hsp]; show (match marksR ps 0 with | none => none | some m => _) = some _; rw [HMR.out]; show (if _ then _ else _) = some _; rw [HNN.out, hbad, hbm]; rfl
                    rw [this]
                    refine ⟨wr.heap.size, rfl, HNB.out.2.1, by simp [HNB.out.1], ?_⟩
                    unfold StrB
                    rw [Go.heap_setCell_other _ _ _ _ hne0, Go.heap_setCell_other _ _ _ _ hne0, Go.heap_setCell_other _ _ _ _ hne0, Go.heap_setCell_other _ _ _ _ hne0, Go.heap_setCell_other _ _ _ _ hne0, Go.heap_setCell_other _ _ _ _ hne0, Go.heap_setCell_other _ _ _ _ hne0]
                    exact HNB.out.2.2
                  · exact hBE.trans (((((((Below.refl w.heap.size _).setCell (p := ⟨w.heap.size, 0, none⟩) (Nat.le_refl _) _).setCell (p := ⟨w.heap.size, 1, none⟩) (Nat.le_refl _) _).setCell (p := ⟨w.heap.size, 2, none⟩) (Nat.le_refl _) _).setCell (p := ⟨w.heap.size, 3, none⟩) (Nat.le_refl _) _).setCell (p := ⟨w.heap.size, 4, none⟩) (Nat.le_refl _) _).setCell (p := ⟨w.heap.size, 5, none⟩) (Nat.le_refl _) _ |>.setCell (p := ⟨w.heap.size, 6, none⟩) (Nat.le_refl _) _)
              · have hbm : badMarks m = false := by rw [BM.out]; simp [t2, t4, t5]
                go_wp2
                refine bodyPost_ret (v := .tuple #[itemVal (.slice (some ⟨wr.heap.size, 0, none⟩) ns.length ns.length) m, .bool true]) (by rw [IV.out]; simp [results, Tryz.results35, go_sem, c0, c1, c2, c3, c4, c5, c6, t2, t4, t5]) rfl ⟨?_, ?_⟩
                · have : itemR (bl s) = some ⟨ns, m⟩ := by unfold itemR; rw [hsp]; show (match marksR ps 0 with | none => none | some m => _) = some _; rw [HMR.out]; show (if _ then _ else _) = some _; rw [HNN.out, hbad, hbm]; rfl
                  rw [this]
                  refine ⟨wr.heap.size, rfl, HNB.out.2.1, by simp [HNB.out.1], ?_⟩
                  unfold StrB
                  rw [Go.heap_setCell_other _ _ _ _ hne0, Go.heap_setCell_other _ _ _ _ hne0, Go.heap_setCell_other _ _ _ _ hne0, Go.heap_setCell_other _ _ _ _ hne0, Go.heap_setCell_other _ _ _ _ hne0, Go.heap_setCell_other _ _ _ _ hne0, Go.heap_setCell_other _ _ _ _ hne0]
                  exact HNB.out.2.2
                · exact hBE.trans (((((((Below.refl w.heap.size _).setCell (p := ⟨w.heap.size, 0, none⟩) (Nat.le_refl _) _).setCell (p := ⟨w.heap.size, 1, none⟩) (Nat.le_refl _) _).setCell (p := ⟨w.heap.size, 2, none⟩) (Nat.le_refl _) _).setCell (p := ⟨w.heap.size, 3, none⟩) (Nat.le_refl _) _).setCell (p := ⟨w.heap.size, 4, none⟩) (Nat.le_refl _) _).setCell (p := ⟨w.heap.size, 5, none⟩) (Nat.le_refl _) _ |>.setCell (p := ⟨w.heap.size, 6, none⟩) (Nat.le_refl _) _)
end Go.Proofs.YtojppincaalibaaGreatDoor
