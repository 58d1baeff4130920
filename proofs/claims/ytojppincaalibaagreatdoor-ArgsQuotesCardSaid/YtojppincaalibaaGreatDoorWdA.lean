/- The words of a line as a range over a function: args.words and its closure. -/
import Derived.Test.YtojppincaalibaaGreatDoorFitG
import Derived.RangeFuncNested
import Derived.RangeFuncBound
import Derived.RangeFuncCalls
import Derived.RangeFuncLeaves
import Derived.Shelf.Abstract
import Derived.Shelf.RegionOpen
import Derived.OwnWalkIn
import Derived.TacticsInMore
import Derived.LoopNIn
import Derived.LoopIn
import Derived.RangeFuncBox
set_option linter.unusedVariables false
set_option linter.unusedSimpArgs false
set_option maxRecDepth 100000
namespace Go.Proofs.YtojppincaalibaaGreatDoor
open Go.Shelf Go.RowKit
attribute [local go_sem] Oper.semAt_some

/-- A word with its place. -/
structure Wd where
  s : Bs
  at_ : Int
  q : Bool
def Wd.val (x : Wd) : Value := .agg #[.string (mkS x.s), .int .i64 x.at_, .bool x.q]
def wsGo (L : Nat) : Nat → Bs → List Wd
  | 0, _ => []
  | f + 1, r => match nx (skipB r) with
    | none => []
    | some y => match y.rest with
      | none => [⟨y.w, -1, y.q⟩]
      | some r' => ⟨y.w, (L : Int) - (skipB r).length, y.q⟩ :: wsGo L f r'
theorem wsGo_none {L f : Nat} {r : Bs} (h : nx (skipB r) = none) : wsGo L (f + 1) r = [] := by
  rw [wsGo, h]
theorem wsGo_bad {L f : Nat} {r : Bs} {w : Bs} {q : Bool} (h : nx (skipB r) = some ⟨w, q, none⟩) : wsGo L (f + 1) r = [⟨w, -1, q⟩] := by
  rw [wsGo, h]
theorem wsGo_some {L f : Nat} {r r' : Bs} {w : Bs} {q : Bool} (h : nx (skipB r) = some ⟨w, q, some r'⟩) : wsGo L (f + 1) r = ⟨w, (L : Int) - (skipB r).length, q⟩ :: wsGo L f r' := by
  rw [wsGo, h]

/-- What a round keeps: what lay below n₀, and the box of the line. -/
def KpW (Bn n₀ : Nat) (A B : World) : Prop := B.heap[Bn]? = A.heap[Bn]? ∧ Below n₀ A B
theorem KpW.t {Bn n₀ : Nat} {A B C : World} (h : KpW Bn n₀ A B) (h' : KpW Bn n₀ B C) : KpW Bn n₀ A C := ⟨h'.1.trans h.1, h.2.trans h'.2⟩
theorem KpW.below {Bn n₀ : Nat} {A B : World} (h : Below A.heap.size A B) (hb : Bn < A.heap.size) (hn : n₀ ≤ A.heap.size) : KpW Bn n₀ A B := ⟨h.block _ hb, h.mono hn⟩
theorem KpW.put {Bn n₀ : Nat} (W : World) (l : Nat) (o o' : Obj) (hb : Bn < l) (hn : n₀ ≤ l) (ho : W.heap[l]? = some o) : KpW Bn n₀ W (W.putObj l o') :=
  ⟨World.putObj_heap_other (by omega), (Below.refl n₀ W).grown (grownBy_putObj' W l o') (by have := (Array.getElem?_eq_some_iff.1 ho).1; omega) (fun k e => by cases e; exact hn)⟩
theorem cell_heap {A B : World} {b i : Nat} (h : B.heap[b]? = A.heap[b]?) : B.cell? ⟨b, i, none⟩ = A.cell? ⟨b, i, none⟩ := World.cell?_of_block h

set_option maxHeartbeats 4000000 in
theorem words1_in (l Bn n₀ : Nat) (line : ByteArray) (hl : line.size ≤ 1000000) (J Jx : List Wd → World → Prop)
    (W : World) (hBl : Bn < W.heap.size) (hBn : W.cell? ⟨Bn, 0, none⟩ = some (.string line)) (hn₀ : n₀ ≤ W.heap.size) (hJ : AbidesFrom W.heap.size J) (N : Nat) (hN : (wsGo line.size (line.size + 1) (bl line)).length ≤ N)
    (hY : ∀ pre x W1, J pre W1 → pre.length < N → YieldAt Fence.wide 0 Tryz.prog l #[x.val] W1 fun e W' =>
      (e = .returned (.bool true) ∧ J (pre ++ [x]) W' ∧ KpW Bn n₀ W1 W') ∨ (e = .returned (.bool false) ∧ Jx (pre ++ [x]) W')) (h0 : J [] W) :
    CallsIn Fence.wide 0 Tryz.prog 44 #[.func (.yield l) #[] #[], .pointer (some ⟨Bn, 0, none⟩)] W fun e W' => (∃ v, e = .returned v) ∧
      ((∃ ys, ys = wsGo line.size (line.size + 1) (bl line) ∧ J ys W') ∨ (∃ pre, pre <+: wsGo line.size (line.size + 1) (bl line) ∧ Jx pre W')) := by
  refine callsIn_of_wp Tryz.func44 rfl trivial ?_ rfl
  simp only [Tryz.ntmps44, List.size_toArray, List.length_cons, List.length_nil, Nat.reduceAdd, Nat.reduceSub, Array.replicate_succ, Array.replicate_zero, List.push_toArray, List.append_toArray, List.nil_append, List.cons_append]
  gi_wp2
  gi_loopw [3] (fun p wr => ∃ (pre : List Wd) (r : Bs) (f k : Nat), p = .int .i64 k ∧ Hid (line.size - r.length = k) ∧ Hid (Suf line r) ∧ r.length < f ∧ Hid (wsGo line.size (line.size + 1) (bl line) = pre ++ wsGo line.size f r) ∧ KpW Bn n₀ W wr ∧ J pre wr)
    (fun p wr => (line.size - intOf p).toNat)
  case atStart =>
    exact ⟨[], bl line, line.size + 1, 0, rfl, Lib.hid (by rw [bl_len]; omega), Lib.hid ⟨by rw [bl_len]; exact Nat.le_refl _, by rw [bl_len, Nat.sub_self]; rfl⟩, by rw [bl_len]; omega, Lib.hid rfl, ⟨rfl, Below.refl _ _⟩, h0⟩
  case round =>
    obtain ⟨pre, r, f, k, rfl, HK, HSF, hf, HW, hB, hJs⟩ := hrel
    obtain ⟨f, rfl⟩ : ∃ g, f = g + 1 := ⟨f - 1, by omega⟩
    have hBn2 := (cell_heap (i := 0) hB.1).trans hBn
    have hzr := hB.2.size
    have HNX := Lib.hid (next_left line r k HSF.out HK.out hl wr)
    cases hny : nx (skipB r) with
    | none =>
      rw [hny] at HNX
      unfold nextVals at HNX
      have HE := Lib.hid (wsGo_none (L := line.size) (f := f) hny)
      clear hny
      have HJG := Lib.hid hJ
      clear hJ
      gi_wp2_with fail
      refine ⟨trivial, rfl, callsIn_wide.2 (HNX.out.mono ?_)⟩
      rintro e w2 ⟨rfl, b2⟩
      gi_wp2
      refine bodyPost_ret (results_none rfl _ _ _) rfl ?_
      refine ⟨⟨_, rfl⟩, .inl ⟨pre, by rw [HW.out, HE.out, List.append_nil], ?_⟩⟩
      exact HJG.out _ _ _ none hJs (grown_of_below (B := 0) (b2.alloc b2.size _)) (fun r e => by cases e)
    | some y =>
      obtain ⟨yw, yq, yr⟩ := y
      obtain ⟨p, hp⟩ : ∃ p, ((line.size : Int) - (skipB r).length) = p := ⟨_, rfl⟩
      cases yr with
      | none =>
        have HE := Lib.hid (wsGo_bad (L := line.size) (f := f) hny)
        have HNX2 : Hid (Calls Tryz.prog 45 #[.string line, .int .i64 k] wr fun e w' => e = .returned (.tuple #[.agg #[.string (mkS yw), .int .i64 p, .bool yq], .int .i64 (-1)]) ∧ Below wr.heap.size wr w') := Lib.hid (by
          have := HNX.out
          rw [hny] at this
          rw [← hp]
          exact this)
        have HJG := Lib.hid hJ
        clear hny HNX hp hJ
        gi_wp2_with fail
        refine ⟨trivial, rfl, callsIn_wide.2 (HNX2.out.mono ?_)⟩
        rintro e w2 ⟨rfl, b2⟩
        have hB2 : Below wr.heap.size wr (w2.alloc (.cells #[.string (mkS yw), .int .i64 (-1), .bool yq] 58)) := b2.alloc b2.size _
        have hJ3 := HJG.out _ _ _ none hJs (grown_of_below (B := 0) hB2) (fun r e => by cases e)
        have hlen : pre.length < N := by
          have h1 := HW.out
          rw [HE.out] at h1
          have h2 := congrArg List.length h1
          simp at h2
          omega
        have HPRE : Hid (pre ++ [⟨yw, -1, yq⟩] = wsGo line.size (line.size + 1) (bl line)) := Lib.hid (by rw [HW.out, HE.out])
        obtain ⟨fn, tmps, assign, body, hy, hR⟩ := hY pre ⟨yw, -1, yq⟩ _ hJ3 hlen
        unfold Wd.val at hy
        dsimp only at hy
        have HR := Lib.hid hR
        clear hR hlen
        gi_wp2
        refine ⟨rfl, HR.out.mono ?_⟩
        rintro e W3 (⟨rfl, hJ4, hk4⟩ | ⟨rfl, hJx4⟩)
        · gi_wp2
          refine bodyPost_ret (results_none rfl _ _ _) rfl ?_
          exact ⟨⟨_, rfl⟩, .inl ⟨_, HPRE.out, hJ4⟩⟩
        · gi_wp2
          refine bodyPost_ret (results_none rfl _ _ _) rfl ?_
          exact ⟨⟨_, rfl⟩, .inr ⟨_, by rw [HPRE.out]; exact List.prefix_refl _, hJx4⟩⟩
      | some r' =>
        have HE := Lib.hid (wsGo_some (L := line.size) (f := f) hny)
        rw [hp] at HE
        obtain ⟨hrs, hrl⟩ := nx_cons_len hny rfl
        have hSF3 := HSF.out.of_suffix hrs
        obtain ⟨q3, hq3⟩ : ∃ q3, line.size - r'.length = q3 := ⟨_, rfl⟩
        have h1 := HSF.out.1
        have hkk := HK.out
        have hq0 : 0 < q3 := by omega
        have hq1 : k < q3 := by omega
        have hq2 : q3 ≤ line.size := by omega
        have HNX2 : Hid (Calls Tryz.prog 45 #[.string line, .int .i64 k] wr fun e w' => e = .returned (.tuple #[.agg #[.string (mkS yw), .int .i64 p, .bool yq], .int .i64 q3]) ∧ Below wr.heap.size wr w') := Lib.hid (by
          have := HNX.out
          rw [hny] at this
          rw [← hp, show (q3 : Int) = (line.size : Int) - r'.length by have := hSF3.1; omega]
          exact this)
        have HQ3 := Lib.hid hq3
        have HSF3 := Lib.hid hSF3
        have HJG := Lib.hid hJ
        clear hny HNX hp hJ hq3 hkk hSF3
        have hd0 : ¬ (q3 : Int) = 0 := by omega
        have hd1 : ¬ (q3 : Int) < 0 := by omega
        have hd2 : ((q3 : Int) == 0) = false := by simp; omega
        gi_wp2_with fail
        refine ⟨trivial, rfl, callsIn_wide.2 (HNX2.out.mono ?_)⟩
        rintro e w2 ⟨rfl, b2⟩
        have hB2 : Below wr.heap.size wr (w2.alloc (.cells #[.string (mkS yw), .int .i64 p, .bool yq] 58)) := b2.alloc b2.size _
        have hJ3 := HJG.out _ _ _ none hJs (grown_of_below (B := 0) hB2) (fun r e => by cases e)
        have hlen : pre.length < N := by
          have h1 := HW.out
          rw [HE.out] at h1
          have h2 := congrArg List.length h1
          simp at h2
          omega
        have HPRE : Hid (pre ++ [⟨yw, p, yq⟩] <+: wsGo line.size (line.size + 1) (bl line)) := Lib.hid (by rw [HW.out, HE.out]; exact ⟨wsGo line.size f r', by simp⟩)
        have HW2 : Hid (wsGo line.size (line.size + 1) (bl line) = (pre ++ [⟨yw, p, yq⟩]) ++ wsGo line.size f r') := Lib.hid (by rw [HW.out, HE.out]; simp)
        obtain ⟨fn, tmps, assign, body, hy, hR⟩ := hY pre ⟨yw, p, yq⟩ _ hJ3 hlen
        unfold Wd.val at hy
        dsimp only at hy
        have HR := Lib.hid hR
        clear hR hlen
        gi_wp2
        refine ⟨rfl, HR.out.mono ?_⟩
        rintro e W3 (⟨rfl, hJ4, hk4⟩ | ⟨rfl, hJx4⟩)
        · gi_wp2
          go_roundw
          case rel => exact ⟨pre ++ [⟨yw, p, yq⟩], r', f, q3, rfl, HQ3, HSF3, by omega, HW2, (hB.t (KpW.below hB2 (by omega) (by omega))).t hk4, hJ4⟩
          case measure => simp [intOf]; omega
        · gi_wp2
          refine bodyPost_ret (results_none rfl _ _ _) rfl ?_
          exact ⟨⟨_, rfl⟩, .inr ⟨_, HPRE.out, hJx4⟩⟩

theorem words_in (line : ByteArray) (w : World) :
    CallsIn Fence.wide 0 Tryz.prog 25 #[.string line] w fun e w' => e = .returned (.func (.func 44) #[] #[.pointer (some ⟨w.heap.size, 0, none⟩)]) ∧ w' = w.alloc (.cells #[.string line] 9) := by
  refine callsIn_of_wp Tryz.func25 rfl trivial ?_ rfl
  simp only [Tryz.ntmps25, List.size_toArray, List.length_cons, List.length_nil, Nat.reduceAdd, Nat.reduceSub, Array.replicate_succ, Array.replicate_zero, List.push_toArray, List.append_toArray, List.nil_append, List.cons_append]
  gi_wp2
  go_ret
  exact ⟨rfl, rfl⟩

theorem words_stops (Bn n₀ : Nat) (line : ByteArray) (hl : line.size ≤ 1000000) (w : World) (hBl : Bn < w.heap.size) (hn₀ : n₀ ≤ w.heap.size) (hc : w.cell? ⟨Bn, 0, none⟩ = some (.string line)) :
    SeqStopsK Fence.wide 0 Tryz.prog 44 #[.pointer (some ⟨Bn, 0, none⟩)] (fun x : Wd => #[x.val]) (KpW Bn n₀) (fun ys => ys = wsGo line.size (line.size + 1) (bl line)) (fun pre => pre <+: wsGo line.size (line.size + 1) (bl line)) (wsGo line.size (line.size + 1) (bl line)).length w := fun l J Jx W hW hJ _ hY h0 =>
  words1_in l Bn n₀ line hl J Jx W (Nat.lt_of_lt_of_le hBl hW.size) ((hW.cell (p := ⟨Bn, 0, none⟩) hBl).trans hc) (Nat.le_trans hn₀ hW.size) hJ _ (Nat.le_refl _) hY h0
end Go.Proofs.YtojppincaalibaaGreatDoor
