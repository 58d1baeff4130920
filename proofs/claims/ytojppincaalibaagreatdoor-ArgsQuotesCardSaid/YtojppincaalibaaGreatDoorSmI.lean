/- The walk of bluebelllaw25.sameItem at two items that are alike. -/
import Derived.Test.YtojppincaalibaaGreatDoorEqS
set_option linter.unusedVariables false
set_option linter.unusedSimpArgs false
set_option maxRecDepth 100000
namespace Go.Proofs.YtojppincaalibaaGreatDoor
open Go.Shelf Go.RowKit

set_option maxHeartbeats 4000000 in
theorem same_calls (n1 n2 : Value) (l : List Bs) (c0 c1 c2 c3 c4 c5 : Bool) (w : World) (h1 : SlS w n1 l) (h2 : SlS w n2 l) (hl : l.length ≤ 100000000) :
    Calls Tryz.prog 18 #[.agg #[n1, .bool c0, .bool c1, .bool c2, .bool c3, .bool c4, .bool c5], .agg #[n2, .bool c0, .bool c1, .bool c2, .bool c3, .bool c4, .bool c5]] w fun e w' => e = .returned (.bool true) ∧ Below w.heap.size w w' := by
  obtain ⟨W, hW⟩ : ∃ W, (w.alloc (.cells #[n1, .bool c0, .bool c1, .bool c2, .bool c3, .bool c4, .bool c5] 42)).alloc (.cells #[n2, .bool c0, .bool c1, .bool c2, .bool c3, .bool c4, .bool c5] 43) = W := ⟨_, rfl⟩
  have hB : Below w.heap.size w W := by rw [← hW]; exact ((Below.refl _ w).alloc (Nat.le_refl _) _).alloc (by simp) _
  have hz : W.heap.size = w.heap.size + 1 + 1 := by rw [← hW]; simp
  have hb1 : W.heap[w.heap.size]? = some (.cells #[n1, .bool c0, .bool c1, .bool c2, .bool c3, .bool c4, .bool c5] 42 (0, 0)) := by
    rw [← hW, Lib.alloc_old _ _ _ (by simp)]
    exact Go.heap_alloc_new w _
  have hb2 : W.heap[w.heap.size + 1]? = some (.cells #[n2, .bool c0, .bool c1, .bool c2, .bool c3, .bool c4, .bool c5] 43 (0, 0)) := by
    rw [← hW]
    have := Go.heap_alloc_new (w.alloc (.cells #[n1, .bool c0, .bool c1, .bool c2, .bool c3, .bool c4, .bool c5] 42)) (.cells #[n2, .bool c0, .bool c1, .bool c2, .bool c3, .bool c4, .bool c5] 43)
    rw [World.size_alloc] at this
    exact this
  have he := eqs_calls n1 n2 l l W (h1.below hB) (h2.below hB) hl hl
  rw [decide_eq_true (show l = l from rfl)] at he
  have HE := Lib.hid he
  clear he
  have HW := Lib.hid hW
  have HH := Lib.hid (And.intro hz (And.intro hb1 hb2))
  clear h1 h2 hl hW hz hb1 hb2
  go_enter Tryz.func18, Tryz.ntmps18
  go_wp2_with fail
  rw [HW.out]
  refine HE.out.mono ?_
  rintro e w2 ⟨rfl, b2⟩
  have hB2 : Below w.heap.size w w2 := hB.trans (b2.mono hB.size)
  have k1 : w2.heap[w.heap.size]? = _ := (b2.block _ (by rw [HH.out.1]; omega)).trans HH.out.2.1
  have k2 : w2.heap[w.heap.size + 1]? = _ := (b2.block _ (by rw [HH.out.1]; omega)).trans HH.out.2.2
  have q1 : w2.cell? ⟨w.heap.size, 1, none⟩ = some (.bool c0) := (cellOf k1).trans rfl
  have q2 : w2.cell? ⟨w.heap.size, 2, none⟩ = some (.bool c1) := (cellOf k1).trans rfl
  have q3 : w2.cell? ⟨w.heap.size, 3, none⟩ = some (.bool c2) := (cellOf k1).trans rfl
  have q4 : w2.cell? ⟨w.heap.size, 4, none⟩ = some (.bool c3) := (cellOf k1).trans rfl
  have q5 : w2.cell? ⟨w.heap.size, 5, none⟩ = some (.bool c4) := (cellOf k1).trans rfl
  have q6 : w2.cell? ⟨w.heap.size, 6, none⟩ = some (.bool c5) := (cellOf k1).trans rfl
  have r1 : w2.cell? ⟨w.heap.size + 1, 1, none⟩ = some (.bool c0) := (cellOf k2).trans rfl
  have r2 : w2.cell? ⟨w.heap.size + 1, 2, none⟩ = some (.bool c1) := (cellOf k2).trans rfl
  have r3 : w2.cell? ⟨w.heap.size + 1, 3, none⟩ = some (.bool c2) := (cellOf k2).trans rfl
  have r4 : w2.cell? ⟨w.heap.size + 1, 4, none⟩ = some (.bool c3) := (cellOf k2).trans rfl
  have r5 : w2.cell? ⟨w.heap.size + 1, 5, none⟩ = some (.bool c4) := (cellOf k2).trans rfl
  have r6 : w2.cell? ⟨w.heap.size + 1, 6, none⟩ = some (.bool c5) := (cellOf k2).trans rfl
  clear k1 k2 hB b2
  go_wp2
  go_ret
  exact ⟨rfl, hB2⟩
end Go.Proofs.YtojppincaalibaaGreatDoor
