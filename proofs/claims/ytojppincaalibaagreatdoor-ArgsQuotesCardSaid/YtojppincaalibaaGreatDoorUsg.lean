/- The walk of args.Usage. -/
import Derived.Test.YtojppincaalibaaGreatDoorUsM
import Derived.Test.YtojppincaalibaaGreatDoorUsP
import Derived.Test.YtojppincaalibaaGreatDoorFitI
import Derived.Test.YtojppincaalibaaGreatDoorEqS
import Derived.Deep.RegionWith
import Derived.Test.YtojppincaalibaaGreatDoorShelg
set_option linter.unusedVariables false
set_option linter.unusedSimpArgs false
set_option maxRecDepth 100000
namespace Go.Proofs.YtojppincaalibaaGreatDoor
open Go.Shelf Go.RowKit

/-- A range over a string has come to place p. -/
def ItAt (w : World) (k : Nat) (s : ByteArray) (p : Nat) : Prop := w.heap[k]? = some (.stringIter s p)
theorem next_any {P : Program} (w : World) (k : Nat) (s : ByteArray) (pos : Nat) (ty : TypeId) (hk : ItAt w k s pos) (h : pos < s.size) :
    (Instr.next (.pointer (some ⟨k, 0, none⟩)) true ty).run P w =
      .ok (.tuple #[.bool true, .int .i64 pos, .int .i32 (Utf8.decode s pos).1]) { w with heap := w.heap.setIfInBounds k (.stringIter s (pos + (Utf8.decode s pos).2)) } := by
  unfold ItAt at hk
  simp only [Instr.next, getObj, setObj, Sem.run_bind, Sem.run, hk, Result.andThen, h, if_true]
  simp [goInt]
theorem next_end {P : Program} (w : World) (k : Nat) (s : ByteArray) (pos : Nat) (ty : TypeId) (hk : ItAt w k s pos) (h : ¬ pos < s.size) :
    (Instr.next (.pointer (some ⟨k, 0, none⟩)) true ty).run P w = .ok (.tuple #[.bool false]) w := by
  unfold ItAt at hk
  simp [Instr.next, getObj, Sem.run, hk, h]
theorem order_one (i : Nat) (h : i < 6) : (Utf8.decode ⟨#[97, 107, 115, 110, 109, 102]⟩ i).2 = 1 := by
  have : ∀ j : Fin 6, (Utf8.decode ⟨#[97, 107, 115, 110, 109, 102]⟩ j.val).2 = 1 := by decide +kernel
  exact this ⟨i, h⟩

theorem ItAt.pos {w : World} {k p : Nat} {s : ByteArray} (h : ItAt w k s p) : w.iterPos k = p := by
  unfold ItAt at h
  simp [World.iterPos, h]
/-- The iterator steps on. -/
def itStep (w : World) (k : Nat) (s : ByteArray) (p : Nat) : World := { w with heap := w.heap.setIfInBounds k (.stringIter s p) }
theorem itStep_at {w : World} {k p q : Nat} {s : ByteArray} (h : ItAt w k s p) : ItAt (itStep w k s q) k s q := by
  have hk : k < w.heap.size := (Array.getElem?_eq_some_iff.1 h).1
  unfold ItAt itStep
  simp [hk]
theorem itStep_below {B : Nat} {a w : World} (h : Below B a w) (k : Nat) (s : ByteArray) (p : Nat) (hk : B ≤ k) : Below B a (itStep w k s p) :=
  ⟨h.os, h.tape, h.output, by show _ ≤ (w.heap.setIfInBounds k _).size; rw [Array.size_setIfInBounds]; exact h.size, fun j hj => by
    show (w.heap.setIfInBounds k _)[j]? = _
    rw [Array.getElem?_setIfInBounds_ne (by omega)]
    exact h.block j hj⟩
theorem cat_mkS (a b : Bs) : mkS a ++ mkS b = mkS (a ++ b) := bl_inj (by
  show (mkS a ++ mkS b).data.toList = a ++ b
  rw [ByteArray.data_append, Array.toList_append]
  rfl)
theorem cat2 (a : Bs) (c : UInt8) (e : ByteArray) (he : e = ⟨#[c]⟩) : mkS a ++ (⟨#[47]⟩ ++ e) = mkS (a ++ [47, c]) := by
  subst he
  have h1 : (⟨#[47]⟩ : ByteArray) ++ ⟨#[c]⟩ = mkS [47, c] := cat_mkS [47] [c]
  rw [h1, cat_mkS]
/-- The first marks, as they are written. -/
def marksTo (m : Nat) : Nat → Bs
  | 0 => []
  | i + 1 => marksTo m i ++ (if m.testBit i then [47, ordL.getD i 0] else [])
theorem marksTo_len (m : Nat) : ∀ i, (marksTo m i).length ≤ 2 * i
  | 0 => Nat.le_refl _
  | i + 1 => by
    have := marksTo_len m i
    unfold marksTo
    rw [List.length_append]
    split <;> simp <;> omega
theorem order_ext (i : Nat) (h : i < 6) : (⟨#[97, 107, 115, 110, 109, 102]⟩ : ByteArray).extract i (i + 1) = ⟨#[ordL.getD i 0]⟩ := by
  have : ∀ j : Fin 6, (⟨#[97, 107, 115, 110, 109, 102]⟩ : ByteArray).extract j.val (j.val + 1) = ⟨#[ordL.getD j.val 0]⟩ := by decide
  exact this ⟨i, h⟩
theorem bitAndW (m i : Nat) (hm : m < 64) (hi : i < 6) : (Go.bits .and .i64 (m : Int) (IntKind.wrap .i64 (2 ^ i)) != 0) = m.testBit i := by
  have : ∀ m : Fin 64, ∀ i : Fin 6, (Go.bits .and .i64 (m.val : Int) (IntKind.wrap .i64 (2 ^ i.val)) != 0) = m.val.testBit i.val := by decide +kernel
  exact this ⟨m, hm⟩ ⟨i, hi⟩
theorem marksTo_all (m : Nat) (h : m < 64) : marksTo m 6 = marksL m := by
  have h1 : ∀ n : Fin 64, marksTo n.val 6 = marksL n.val := by decide
  exact h1 ⟨m, h⟩
theorem jn_len {c : UInt8} {K : Nat} : ∀ (l : List Bs), (∀ a ∈ l, a.length ≤ K) → (jn c l).length ≤ l.length * (K + 1)
  | [], _ => by simp [jn]
  | [a], h => by
    have := h a List.mem_cons_self
    simp [jn]; omega
  | a :: b :: r, h => by
    have h1 := h a List.mem_cons_self
    have h2 := jn_len (c := c) (b :: r) fun x hx => h x (List.mem_cons_of_mem _ hx)
    simp only [jn, List.length_append, List.length_cons] at h2 ⊢
    rw [Nat.add_mul (r.length + 1) 1]
    omega
theorem join_calls (b : Nat) (c : UInt8) (l : List Bs) (cap : Nat) (w : World) (hl : Strs w b 0 l) (hb : b < w.heap.size) (hn : l.length ≤ 100000000) (hcap : l.length ≤ cap) (hlen : (jn c l).length ≤ 140737488355328) :
    Calls Tryz.prog 32 #[.slice (some ⟨b, 0, none⟩) l.length cap, .string ⟨#[c]⟩] w fun e w' => e = .returned (.string (mkS (jn c l))) ∧ Below w.heap.size w w' := by
  have hd : (l.map mkS).map (·.data.toList) = l := by
    rw [List.map_map]
    conv => rhs; rw [← List.map_id l]
    apply List.map_congr_left
    intro a _
    rfl
  have hj : Lib.join ((l.map mkS).map (·.data.toList)) (⟨#[c]⟩ : ByteArray).data.toList = jn c l := by rw [hd]; exact jn_join c l
  have h := Tryz.strings_Join b 0 cap (l.map mkS) ⟨#[c]⟩ w (fun j x hx => by
    rw [List.getElem?_map] at hx
    obtain ⟨y, hy, rfl⟩ := Option.map_eq_some_iff.1 hx
    obtain ⟨hj, rfl⟩ := List.getElem?_eq_some_iff.1 hy
    exact hl j hj) hb (by rw [List.length_map]; omega) (by rw [List.length_map]; exact hcap) (by rw [hj]; exact hlen)
  rw [hj, List.length_map] at h
  exact h
theorem join_own (B : Nat) (c : UInt8) (l : List Bs) (v : Value) (w : World) (h : w.ownsRow B 9 1 v l.length (l.map fun x => Value.string (mkS x))) (hn : l.length ≤ 100000000) (hlen : (jn c l).length ≤ 140737488355328) :
    Calls Tryz.prog 32 #[v, .string ⟨#[c]⟩] w fun e w' => e = .returned (.string (mkS (jn c l))) ∧ Below w.heap.size w w' := by
  have hs := SlS.own h
  rcases h.2 with ⟨rfl, h0⟩ | ⟨g, cap, cur, rfl, hB, hh, hle, -, hsz, htk⟩
  · have : l = [] := List.length_eq_zero_iff.1 h0
    subst this
    refine (Tryz.strings_Join_none none 0 ⟨#[c]⟩ w).mono ?_
    rintro e w' ⟨rfl, rfl⟩
    exact ⟨rfl, Below.refl _ _⟩
  · rcases hs with ⟨_, e⟩ | ⟨b, off, cap', e, h1, h2⟩
    · subst e
      refine (Tryz.strings_Join_none (some ⟨g, 0, none⟩) cap ⟨#[c]⟩ w).mono ?_
      rintro e w' ⟨rfl, rfl⟩
      exact ⟨rfl, Below.refl _ _⟩
    · simp at e
      obtain ⟨⟨rfl, rfl⟩, rfl⟩ := e
      exact join_calls g c l cap w h2 h1 hn hle hlen
theorem templateR_long (l : Bs) : ((templateR l).2 = 0 → usageR l = (usageL (templateR l).1, 0)) ∧ ∀ x ∈ (templateR l).1, GoodIt x ∧ x.names.length ≤ l.length + 1 := by
  refine ⟨fun h => by unfold usageR; rw [if_pos h], fun x hx => ?_⟩
  have h := (templateR_items l).2 x hx
  refine ⟨?_, h.2⟩
  revert hx
  unfold templateR
  split
  · intro hx; cases hx
  · split
    · intro hx; cases hx
    · rename_i xs hxs
      intro hx
      have hx' : x ∈ xs := by
        revert hx
        split
        · intro hx; cases hx
        · split
          · intro hx; cases hx
          · exact id
      obtain ⟨p, _, hp⟩ := tmplGo_mem _ _ _ hxs x hx'
      exact itemR_good hp
theorem item_long {x : It} (h : GoodIt x) : (jn 61 x.names).length ≤ x.names.length * 17 :=
  jn_len x.names fun a ha => (good_name (h.nm a ha)).2.1

set_option maxHeartbeats 8000000 in
theorem usage_calls (s : ByteArray) (w : World) (hs : s.size ≤ 900000) (hG : Glob w) :
    Calls Tryz.prog 16 #[.string s] w fun e w' => e = .returned (.tuple #[.string (mkS (usageR (bl s)).1), .int .i64 (usageR (bl s)).2]) ∧ Below w.heap.size w w' := by
  obtain ⟨i0, hi0, hz0, hz1, hzz2⟩ := info_parts infoStr
  have hT := template_calls s w hs hG
  have hIt := templateR_items (bl s)
  have hIP := templateR_long (bl s)
  have hU : usageR (bl s) = if (templateR (bl s)).2 = 0 then (usageL (templateR (bl s)).1, 0) else ([], (templateR (bl s)).2) := rfl
  obtain ⟨r, hr⟩ : ∃ r, templateR (bl s) = r := ⟨_, rfl⟩
  rw [hr] at hT hIt hU hIP
  obtain ⟨xs, er⟩ := r
  have HT := Lib.hid hT
  have HIT := Lib.hid hIt
  have HU := Lib.hid hU
  clear hT hIt hU hr
  go_enter Tryz.func16, Tryz.ntmps16
  go_wp2_with fail
  refine HT.out.mono ?_
  rintro e w1 ⟨⟨v, bs, rfl, hI⟩, b1⟩
  clear HT
  by_cases he : er = 0
  · subst he
    have HI := Lib.hid hI
    have HE : Hid (usageR (bl s) = (usageL xs, 0)) := Lib.hid (HU.out.trans (if_pos rfl))
    clear hI HU
    obtain ⟨pv, cv, hv⟩ : ∃ p c, v = .slice p xs.length c := by
      rcases HI.out.form with ⟨rfl, rfl⟩ | ⟨g, cap, rfl, _⟩
      · exact ⟨_, _, rfl⟩
      · exact ⟨_, _, rfl⟩
    subst hv
    have hx20 : xs.length ≤ 20 := HIT.out.1
    have HP := Lib.hid hIP
    clear hIP
    go_wp2
    go_loopw [21, 6] (fun i ov wr => ∃ k : Nat, k ≤ xs.length ∧ i = .int .i64 k ∧ Below w1.heap.size w1 wr ∧ Hid (wr.ownsRow w1.heap.size 9 1 ov k ((xs.take k).map fun x => Value.string (mkS (itemL x))))) (fun i _ _ => (xs.length - intOf i).toNat)
    case atStart => exact ⟨0, by omega, rfl, Below.refl _ _, Lib.hid ⟨rfl, .inl ⟨rfl, rfl⟩⟩⟩
    case round =>
      obtain ⟨wo, rfl⟩ : ∃ wo, wo = wr := ⟨_, rfl⟩
      obtain ⟨k, hk, rfl, hB, HO⟩ := hrel
      by_cases hlt : k < xs.length
      · obtain ⟨g, rfl⟩ : ∃ g, pv = some ⟨g, 0, none⟩ := by
          rcases HI.out.form with ⟨e, _⟩ | ⟨g, cap, e, _⟩
          · rw [e] at hlt; exact absurd hlt (Nat.not_lt_zero _)
          · simp at e; exact ⟨g, e.1⟩
        obtain ⟨b, c0, c1, c2, c3, c4, c5, hb1, hb2, hb3, -, ⟨t0, t1, t2, t3, t4, t5⟩, e0, e1, e2, e3, e4, e5, e6⟩ := (HI.out.below hB).c7 k hlt
        have hX := HP.out.2 _ (List.getElem_mem hlt)
        obtain ⟨x, hx⟩ : ∃ x, xs[k] = x := ⟨_, rfl⟩
        rw [hx] at hb3 t0 t1 t2 t3 t4 t5 e0 hX
        have HX := Lib.hid (And.intro hX hx)
        have HT := Lib.hid (show bitsOf x.m = [c0, c1, c2, c3, c4, c5] by unfold bitsOf; rw [t0, t1, t2, t3, t4, t5])
        have HSB := Lib.hid hb3
        have HTB := Lib.hid (And.intro t0 (And.intro t1 (And.intro t2 (And.intro t3 (And.intro t4 t5)))))
        clear hX hx t0 t1 t2 t3 t4 t5 hb3
        go_wp2_with fail
        refine (join_calls b 61 x.names _ _ ((HSB.out.below ((Below.refl _ wo).alloc (Nat.le_refl _) _) hb2).strs) (by simp; omega) ?_ (Nat.le_refl _) ?_).mono ?_
        · have := HX.out.1.2
          rw [bl_len] at this
          omega
        · have h1 := HX.out.1.2
          have h2 := item_long HX.out.1.1
          rw [bl_len] at h1
          omega
        rintro e w4 ⟨rfl, b4⟩
        have hz4 := b4.size
        rw [World.size_alloc] at hz4
        have HBX : Hid (w4.heap[wo.heap.size]? = some (.cells #[.slice (some ⟨b, 0, none⟩) x.names.length x.names.length, .bool c0, .bool c1, .bool c2, .bool c3, .bool c4, .bool c5] 42 (0, 0))) := Lib.hid ((b4.block _ (by simp)).trans (Go.heap_alloc_new wo _))
        have HB4 : Hid (Below w1.heap.size w1 w4) := Lib.hid ((hB.alloc (by have := hB.size; omega) _).trans (b4.mono (by have := hB.size; simp; omega)))
        have HO4 := Lib.hid (own_below (own_below HO.out ((Below.refl _ wo).alloc (Nat.le_refl _) _)) b4)
        clear b4
        go_wp2
        go_loopw [9] (fun sv wr => ∃ i : Nat, i ≤ 6 ∧ sv = .string (mkS (jn 61 x.names ++ marksTo x.m i)) ∧ Below w4.heap.size w4 wr ∧ Hid (ItAt wr w4.heap.size ⟨#[97, 107, 115, 110, 109, 102]⟩ i)) (fun _ wr => 6 - wr.iterPos w4.heap.size)
        case atStart =>
          refine ⟨0, by decide, by simp [marksTo], ?_, Lib.hid ?_⟩
          · exact (Below.refl _ w4).alloc (Nat.le_refl _) _
          · exact World.iter_heap _ _ _
        case round =>
          obtain ⟨i, hi, rfl, hq, HIA⟩ := hrel
          by_cases hi6 : i < 6
          · have hIA := HIA.out
            obtain ⟨W2, hW2⟩ : ∃ W2, itStep wr w4.heap.size ⟨#[97, 107, 115, 110, 109, 102]⟩ (i + 1) = W2 := ⟨_, rfl⟩
            have hnx : ∀ ty, (Instr.next (.pointer (some ⟨w4.heap.size, 0, none⟩)) true ty).run Tryz.prog wr = .ok (.tuple #[.bool true, .int .i64 i, .int .i32 (Utf8.decode ⟨#[97, 107, 115, 110, 109, 102]⟩ i).1]) W2 := fun ty => by
              rw [next_any wr _ _ i ty HIA.out hi6, order_one i hi6, ← hW2]
              rfl
            go_wp2
            have HBA := Lib.hid (bitAndW x.m i HX.out.1.1.lt hi6)
            have hq2 : Below w4.heap.size w4 W2 := by rw [← hW2]; exact itStep_below hq _ _ _ (Nat.le_refl _)
            have hbx : W2.heap[wo.heap.size]? = _ := (hq2.block _ (by omega)).trans HBX.out
            have q0 : W2.cell? ⟨wo.heap.size, 0, none⟩ = some (.slice (some ⟨b, 0, none⟩) x.names.length x.names.length) := (cellOf hbx).trans rfl
            have q1 : W2.cell? ⟨wo.heap.size, 1, none⟩ = some (.bool c0) := (cellOf hbx).trans rfl
            have q2 : W2.cell? ⟨wo.heap.size, 2, none⟩ = some (.bool c1) := (cellOf hbx).trans rfl
            have q3 : W2.cell? ⟨wo.heap.size, 3, none⟩ = some (.bool c2) := (cellOf hbx).trans rfl
            have q4 : W2.cell? ⟨wo.heap.size, 4, none⟩ = some (.bool c3) := (cellOf hbx).trans rfl
            have q5 : W2.cell? ⟨wo.heap.size, 5, none⟩ = some (.bool c4) := (cellOf hbx).trans rfl
            have q6 : W2.cell? ⟨wo.heap.size, 6, none⟩ = some (.bool c5) := (cellOf hbx).trans rfl
            have HIA2 : Hid (ItAt W2 w4.heap.size ⟨#[97, 107, 115, 110, 109, 102]⟩ (i + 1)) := Lib.hid (by rw [← hW2]; exact itStep_at hIA)
            have HIAO := Lib.hid hIA
            have ham : accN [c0, c1, c2, c3, c4, c5] 6 = x.m := by rw [← HT.out]; exact accN_bits _ HX.out.1.1.lt
            have hm : ∀ w', Calls Tryz.prog 33 #[.agg #[.slice (some ⟨b, 0, none⟩) x.names.length x.names.length, .bool c0, .bool c1, .bool c2, .bool c3, .bool c4, .bool c5]] w' fun e w'' => e = .returned (.int .i64 x.m) ∧ Below w'.heap.size w' w'' := fun w' => by
              have := marks_calls (.slice (some ⟨b, 0, none⟩) x.names.length x.names.length) c0 c1 c2 c3 c4 c5 w'
              rwa [ham] at this
            have HM := Lib.hid hm
            have hz2 := hq2.size
            clear hbx hnx hW2 ham hm
            go_region_with (go_at_call 33; refine (HM.out _).mono ?_; rintro e w5 ⟨rfl, b5⟩)
            have hq5 : Below w4.heap.size w4 w5 := hq2.drew.trans (b5.mono hz2)
            have HIA5 : Hid (ItAt w5 w4.heap.size ⟨#[97, 107, 115, 110, 109, 102]⟩ (i + 1)) := Lib.hid ((b5.block _ (Array.getElem?_eq_some_iff.1 HIA2.out).1).trans HIA2.out)
            clear HIA2 HM q0 q1 q2 q3 q4 q5 q6 b5 hz2
            obtain ⟨ci, hci⟩ : ∃ ci, x.m.testBit i = ci := ⟨_, rfl⟩
            rw [hci] at HBA
            have hba := HBA.out
            have HMK : Hid (marksTo x.m (i + 1) = marksTo x.m i ++ (if ci then [47, ordL.getD i 0] else [])) := Lib.hid (by rw [← hci]; rfl)
            have HXT : Hid ((⟨#[97, 107, 115, 110, 109, 102]⟩ : ByteArray).extract i (i + 1) = ⟨#[ordL.getD i 0]⟩) := Lib.hid (order_ext i hi6)
            have hlong : ¬ 9223372036854775807 < (mkS (jn 61 x.names ++ marksTo x.m i)).size + 2 := by
              have h1 := HX.out.1.2
              have h2 := item_long HX.out.1.1
              have h3 := marksTo_len x.m i
              rw [bl_len] at h1
              rw [mkS_size, List.length_append]
              omega
            clear hIA hci
            cases ci with
            | true =>
              go_wp2
              refine ⟨⟨i + 1, by omega, ?_, hq5, HIA5⟩, by rw [HIA5.out.pos, HIAO.out.pos]; omega⟩
              rw [HMK.out, HXT.out, if_pos rfl, ← List.append_assoc]
              exact congrArg Value.string (cat2 _ _ _ rfl)
            | false =>
              go_simp
              go_wp2
              exact ⟨⟨i + 1, by omega, by rw [HMK.out]; simp, hq5, HIA5⟩, by rw [HIA5.out.pos, HIAO.out.pos]; omega⟩
          · obtain rfl : i = 6 := by omega
            have hnx := fun ty => next_end (P := Tryz.prog) wr w4.heap.size ⟨#[97, 107, 115, 110, 109, 102]⟩ 6 ty HIA.out (by decide)
            have hown := Lib.hid (own_below HO4.out hq)
            have hqz := hq.size
            have hBw : Below w1.heap.size w1 wr := HB4.out.trans (hq.mono HB4.out.size)
            have hzw := hBw.size
            have hgB := own_block (g := 0) HO4.out
            have HOB : Hid (∀ g, u6.ownBlock = some g → w1.heap.size ≤ g) := Lib.hid fun g hg => (own_block HO4.out hg).1
            have HIL : Hid (((xs.take k).map fun x => Value.string (mkS (itemL x))) ++ [.string (mkS (jn 61 x.names ++ marksTo x.m 6))] = (xs.take (k + 1)).map fun x => Value.string (mkS (itemL x))) := Lib.hid (by
              rw [List.take_succ_eq_append_getElem hlt, List.map_append, HX.out.2, marksTo_all _ HX.out.1.1.lt]
              rfl)
            clear hgB
            go_wp2_with (at_builtin; refine wpList_append_own _ rfl _ _ 23 rfl w1.heap.size 9 i0 (.string ⟨#[]⟩) 1 16 Tryz.underlying23 hi0 hz0 hz1 hzz2 rfl (by decide) _ _ _ rfl (hown.out.alloc _) ⟨wr.heap.size, 0, none⟩ 1 1 [.string (mkS (jn 61 x.names ++ marksTo x.m 6))] (by rfl) (by rfl) (World.news_of_block (heap_alloc_new wr _)) (by simp [Value.oneCell']) (by unfold maxLen; omega) (by omega) (by simp; omega) ?_; intro v' w6 hown' hgrow _)
            rw [HIL.out] at hown'
            have hB6 : Below w1.heap.size w1 w6 := (hBw.alloc (by omega) _).grown hgrow (by simp; omega) HOB.out
            have HO6 := Lib.hid hown'
            clear hgrow hown' hnx hBw
            go_wp2
            exact ⟨⟨k + 1, by omega, by go_num, hB6, HO6⟩, by simp [intOf]; omega⟩
      · obtain rfl : k = xs.length := by omega
        have hj := HO.out
        rw [List.take_length] at hj
        have hl : (jn 44 (xs.map itemL)).length ≤ 140737488355328 := by
          have h1 := jn_len (c := 44) (K := 20000000) (xs.map itemL) fun a ha => by
            obtain ⟨y, hy, rfl⟩ := List.mem_map.1 ha
            obtain ⟨g1, g2⟩ := HP.out.2 y hy
            have h2 := item_long g1
            have h3 := marksTo_len y.m 6
            rw [marksTo_all _ g1.lt] at h3
            rw [bl_len] at g2
            unfold itemL
            rw [List.length_append]
            omega
          rw [List.length_map] at h1
          have : xs.length * (20000000 + 1) ≤ 20 * (20000000 + 1) := Nat.mul_le_mul_right _ hx20
          omega
        have hjc := join_own w1.heap.size 44 (xs.map itemL) u6 wo (by simpa [List.map_map, Function.comp_def] using hj) (by rw [List.length_map]; omega) hl
        have HJ := Lib.hid hjc
        clear hj hl hjc
        go_wp2_with fail
        refine HJ.out.mono ?_
        rintro e w7 ⟨rfl, b7⟩
        go_wp2
        refine bodyPost_ret (v := .tuple #[.string (mkS (jn 44 (xs.map itemL))), .int .i64 0]) (by simp [results, Tryz.results16, go_sem]) rfl ⟨?_, b1.trans ((hB.trans (b7.mono hB.size)).mono b1.size)⟩
        rw [HE.out]
        rfl
  · have hez : ((er : Int) != 0) = true := by simpa using he
    have HE : Hid (usageR (bl s) = ([], er)) := Lib.hid (HU.out.trans (if_neg he))
    go_wp2
    refine bodyPost_ret (v := .tuple #[.string (mkS []), .int .i64 er]) (by simp [results, Tryz.results16, go_sem]; rfl) rfl ⟨?_, b1⟩
    rw [HE.out]
end Go.Proofs.YtojppincaalibaaGreatDoor
