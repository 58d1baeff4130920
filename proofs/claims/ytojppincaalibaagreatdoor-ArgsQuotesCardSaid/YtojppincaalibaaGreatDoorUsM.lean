/- The walk of (args.Item).marks. -/
import Derived.Test.YtojppincaalibaaGreatDoorArgW
set_option linter.unusedVariables false
set_option linter.unusedSimpArgs false
set_option maxRecDepth 100000
namespace Go.Proofs.YtojppincaalibaaGreatDoor
open Go.Shelf Go.RowKit

/-- The marks that six booleans are; of the first of them. -/
def accN (cs : List Bool) : Nat → Nat
  | 0 => 0
  | k + 1 => accN cs k ||| (if cs.getD k false then 1 <<< k else 0)
theorem accN_lt (cs : List Bool) : ∀ k, k ≤ 6 → accN cs k < 64
  | 0, _ => by show (0 : Nat) < 64; decide
  | k + 1, h => by
    have ih := accN_lt cs k (by omega)
    refine Nat.or_lt_two_pow (n := 6) ih ?_
    split
    · rw [Nat.shiftLeft_eq, Nat.one_mul]
      exact Nat.pow_lt_pow_right (by decide) (by omega)
    · decide
def bitsOf (m : Nat) : List Bool := [m.testBit 0, m.testBit 1, m.testBit 2, m.testBit 3, m.testBit 4, m.testBit 5]
theorem accN_bits (m : Nat) (h : m < 64) : accN (bitsOf m) 6 = m := by
  have h1 : ∀ n : Fin 64, accN (bitsOf n.val) 6 = n.val := by decide
  exact h1 ⟨m, h⟩

set_option maxHeartbeats 4000000 in
theorem marks_calls (n : Value) (c0 c1 c2 c3 c4 c5 : Bool) (w : World) :
    Calls Tryz.prog 33 #[.agg #[n, .bool c0, .bool c1, .bool c2, .bool c3, .bool c4, .bool c5]] w fun e w' => e = .returned (.int .i64 (accN [c0, c1, c2, c3, c4, c5] 6)) ∧ Below w.heap.size w w' := by
  go_enter Tryz.func33, Tryz.ntmps33
  go_wp2
  go_loopw [20, 3] (fun i mv wr => ∃ k : Nat, k ≤ 6 ∧ i = .int .i64 k ∧ mv = .int .i64 (accN [c0, c1, c2, c3, c4, c5] k) ∧ Below w.heap.size w wr ∧ wr.heap[w.heap.size + 1]? = some (.cells #[.bool c0, .bool c1, .bool c2, .bool c3, .bool c4, .bool c5] 4 (0, 0))) (fun i _ _ => (6 - intOf i).toNat)
  case atStart =>
    refine ⟨0, by omega, rfl, rfl, ?_, ?_⟩
    · exact ((Below.refl _ w).alloc (Nat.le_refl _) _).alloc (by simp) _
    · rw [show w.heap.size + 1 = (w.alloc (.cells #[n, .bool c0, .bool c1, .bool c2, .bool c3, .bool c4, .bool c5] 42)).heap.size by rw [World.size_alloc]]
      exact Array.getElem?_push_size
  case round =>
    obtain ⟨k, hk, rfl, rfl, hB, hh⟩ := hrel
    by_cases hi6 : k < 6
    · rcases (show k = 0 ∨ k = 1 ∨ k = 2 ∨ k = 3 ∨ k = 4 ∨ k = 5 by omega) with rfl | rfl | rfl | rfl | rfl | rfl
      · have hcell : wr.cell? ⟨w.heap.size + 1, 0, none⟩ = some (.bool c0) := (cellOf hh).trans rfl
        obtain ⟨a, ha⟩ : ∃ a, accN [c0, c1, c2, c3, c4, c5] 0 = a := ⟨_, rfl⟩
        have hlt : a < 64 := by rw [← ha]; exact accN_lt _ 0 (by decide)
        have hs : accN [c0, c1, c2, c3, c4, c5] 1 = a ||| (if c0 then 1 <<< 0 else 0) := by rw [← ha]; rfl
        have bo : Go.bits .or .i64 (a : Int) 1 = ((a ||| 1 : Nat) : Int) := bitOr a 0 hlt (by decide)
        rw [ha]
        have HS := Lib.hid hs
        clear hs ha hi6
        cases c0 with
        | true =>
          go_wp2
          exact ⟨⟨1, by decide, rfl, by rw [HS.out]; rfl, hB, hh⟩, by simp [intOf]⟩
        | false =>
          go_wp2
          exact ⟨⟨1, by decide, rfl, by rw [HS.out]; simp, hB, hh⟩, by simp [intOf]⟩
      · have hcell : wr.cell? ⟨w.heap.size + 1, 1, none⟩ = some (.bool c1) := (cellOf hh).trans rfl
        obtain ⟨a, ha⟩ : ∃ a, accN [c0, c1, c2, c3, c4, c5] 1 = a := ⟨_, rfl⟩
        have hlt : a < 64 := by rw [← ha]; exact accN_lt _ 1 (by decide)
        have hs : accN [c0, c1, c2, c3, c4, c5] 2 = a ||| (if c1 then 1 <<< 1 else 0) := by rw [← ha]; rfl
        have bo : Go.bits .or .i64 (a : Int) 2 = ((a ||| 2 : Nat) : Int) := bitOr a 1 hlt (by decide)
        rw [ha]
        have HS := Lib.hid hs
        clear hs ha hi6
        cases c1 with
        | true =>
          go_wp2
          exact ⟨⟨2, by decide, rfl, by rw [HS.out]; rfl, hB, hh⟩, by simp [intOf]⟩
        | false =>
          go_wp2
          exact ⟨⟨2, by decide, rfl, by rw [HS.out]; simp, hB, hh⟩, by simp [intOf]⟩
      · have hcell : wr.cell? ⟨w.heap.size + 1, 2, none⟩ = some (.bool c2) := (cellOf hh).trans rfl
        obtain ⟨a, ha⟩ : ∃ a, accN [c0, c1, c2, c3, c4, c5] 2 = a := ⟨_, rfl⟩
        have hlt : a < 64 := by rw [← ha]; exact accN_lt _ 2 (by decide)
        have hs : accN [c0, c1, c2, c3, c4, c5] 3 = a ||| (if c2 then 1 <<< 2 else 0) := by rw [← ha]; rfl
        have bo : Go.bits .or .i64 (a : Int) 4 = ((a ||| 4 : Nat) : Int) := bitOr a 2 hlt (by decide)
        rw [ha]
        have HS := Lib.hid hs
        clear hs ha hi6
        cases c2 with
        | true =>
          go_wp2
          exact ⟨⟨3, by decide, rfl, by rw [HS.out]; rfl, hB, hh⟩, by simp [intOf]⟩
        | false =>
          go_wp2
          exact ⟨⟨3, by decide, rfl, by rw [HS.out]; simp, hB, hh⟩, by simp [intOf]⟩
      · have hcell : wr.cell? ⟨w.heap.size + 1, 3, none⟩ = some (.bool c3) := (cellOf hh).trans rfl
        obtain ⟨a, ha⟩ : ∃ a, accN [c0, c1, c2, c3, c4, c5] 3 = a := ⟨_, rfl⟩
        have hlt : a < 64 := by rw [← ha]; exact accN_lt _ 3 (by decide)
        have hs : accN [c0, c1, c2, c3, c4, c5] 4 = a ||| (if c3 then 1 <<< 3 else 0) := by rw [← ha]; rfl
        have bo : Go.bits .or .i64 (a : Int) 8 = ((a ||| 8 : Nat) : Int) := bitOr a 3 hlt (by decide)
        rw [ha]
        have HS := Lib.hid hs
        clear hs ha hi6
        cases c3 with
        | true =>
          go_wp2
          exact ⟨⟨4, by decide, rfl, by rw [HS.out]; rfl, hB, hh⟩, by simp [intOf]⟩
        | false =>
          go_wp2
          exact ⟨⟨4, by decide, rfl, by rw [HS.out]; simp, hB, hh⟩, by simp [intOf]⟩
      · have hcell : wr.cell? ⟨w.heap.size + 1, 4, none⟩ = some (.bool c4) := (cellOf hh).trans rfl
        obtain ⟨a, ha⟩ : ∃ a, accN [c0, c1, c2, c3, c4, c5] 4 = a := ⟨_, rfl⟩
        have hlt : a < 64 := by rw [← ha]; exact accN_lt _ 4 (by decide)
        have hs : accN [c0, c1, c2, c3, c4, c5] 5 = a ||| (if c4 then 1 <<< 4 else 0) := by rw [← ha]; rfl
        have bo : Go.bits .or .i64 (a : Int) 16 = ((a ||| 16 : Nat) : Int) := bitOr a 4 hlt (by decide)
        rw [ha]
        have HS := Lib.hid hs
        clear hs ha hi6
        cases c4 with
        | true =>
          go_wp2
          exact ⟨⟨5, by decide, rfl, by rw [HS.out]; rfl, hB, hh⟩, by simp [intOf]⟩
        | false =>
          go_wp2
          exact ⟨⟨5, by decide, rfl, by rw [HS.out]; simp, hB, hh⟩, by simp [intOf]⟩
      · have hcell : wr.cell? ⟨w.heap.size + 1, 5, none⟩ = some (.bool c5) := (cellOf hh).trans rfl
        obtain ⟨a, ha⟩ : ∃ a, accN [c0, c1, c2, c3, c4, c5] 5 = a := ⟨_, rfl⟩
        have hlt : a < 64 := by rw [← ha]; exact accN_lt _ 5 (by decide)
        have hs : accN [c0, c1, c2, c3, c4, c5] 6 = a ||| (if c5 then 1 <<< 5 else 0) := by rw [← ha]; rfl
        have bo : Go.bits .or .i64 (a : Int) 32 = ((a ||| 32 : Nat) : Int) := bitOr a 5 hlt (by decide)
        rw [ha]
        have HS := Lib.hid hs
        clear hs ha hi6
        cases c5 with
        | true =>
          go_wp2
          exact ⟨⟨6, by decide, rfl, by rw [HS.out]; rfl, hB, hh⟩, by simp [intOf]⟩
        | false =>
          go_wp2
          exact ⟨⟨6, by decide, rfl, by rw [HS.out]; simp, hB, hh⟩, by simp [intOf]⟩
    · obtain rfl : k = 6 := by omega
      obtain ⟨a, ha⟩ : ∃ a, accN [c0, c1, c2, c3, c4, c5] 6 = a := ⟨_, rfl⟩
      rw [ha]
      have HE := Lib.hid ha
      clear ha
      go_wp2
      go_ret
      rw [HE.out]
      exact ⟨rfl, hB⟩
end Go.Proofs.YtojppincaalibaaGreatDoor
