/- The walk of args.item. -/
import Derived.Test.YtojppincaalibaaGreatDoorArgS
import Derived.Test.YtojppincaalibaaGreatDoorArgN
set_option linter.unusedVariables false
set_option linter.unusedSimpArgs false
set_option maxRecDepth 100000
namespace Go.Proofs.YtojppincaalibaaGreatDoor
open Go.Shelf Go.RowKit

/-- strings.Split at one byte. -/
theorem split_calls (s : ByteArray) (c : UInt8) (w : World) (hs : s.size ≤ 1000000) (hG : Glob w) :
    Calls Tryz.prog 34 #[.string s, .string ⟨#[c]⟩] w fun e w' => e = .returned (.slice (some ⟨w.heap.size, 0, none⟩) (spl c (bl s)).length (spl c (bl s)).length) ∧ w' = w.alloc (.cells ((spl c (bl s)).map fun l => Value.string (mkS l)).toArray 9) := by
  obtain ⟨m, hm⟩ := hG.ml
  refine (Tryz.strings_Split s ⟨#[c]⟩ m w (by omega) hm (Nat.le_refl 1)).mono ?_
  rintro e w' ⟨rfl, rfl⟩
  rw [splitB_spl, List.map_map, spl_len, show Lib.countB s ⟨#[c]⟩ = (bl s).count c from Lib.count_one c _]
  exact ⟨rfl, rfl⟩

/-- The letters of marks, in their order. -/
def orderL : Bs := [97, 107, 115, 110, 109, 102]
def chOf : Nat → UInt8 | 0 => 97 | 1 => 107 | 2 => 115 | 3 => 110 | 4 => 109 | _ => 102
theorem markIdx_some {p : Bs} {i : Nat} (h : markIdx p = some i) : p = [chOf i] := by
  unfold markIdx at h
  split at h
  · cases h; assumption
  split at h
  · cases h; assumption
  split at h
  · cases h; assumption
  split at h
  · cases h; assumption
  split at h
  · cases h; assumption
  split at h
  · cases h; assumption
  · cases h
theorem index_order (i : Nat) (h : i < 6) : Lib.indexByte orderL (chOf i) = i := by
  match i, h with
  | 0, _ => rfl
  | 1, _ => rfl
  | 2, _ => rfl
  | 3, _ => rfl
  | 4, _ => rfl
  | 5, _ => rfl
theorem markIdx_none {c : UInt8} (h : markIdx [c] = none) : Lib.indexByte orderL c = -1 := by
  unfold markIdx at h
  have h0 : c ≠ 97 := fun e => by subst e; simp at h
  have h1 : c ≠ 107 := fun e => by subst e; simp at h
  have h2 : c ≠ 115 := fun e => by subst e; simp at h
  have h3 : c ≠ 110 := fun e => by subst e; simp at h
  have h4 : c ≠ 109 := fun e => by subst e; simp at h
  have h5 : c ≠ 102 := fun e => by subst e; simp at h
  simp [orderL, Lib.indexByte, h0.symm, h1.symm, h2.symm, h3.symm, h4.symm, h5.symm]
theorem bitAnd (m i : Nat) (hm : m < 64) (hi : i < 6) : (Go.bits .and .i64 (m : Int) ((1 <<< i : Nat) : Int) != 0) = m.testBit i := by
  have : ∀ m : Fin 64, ∀ i : Fin 6, (Go.bits .and .i64 (m.val : Int) ((1 <<< i.val : Nat) : Int) != 0) = m.val.testBit i.val := by decide +kernel
  exact this ⟨m, hm⟩ ⟨i, hi⟩
theorem bitOr (m i : Nat) (hm : m < 64) (hi : i < 6) : Go.bits .or .i64 (m : Int) ((1 <<< i : Nat) : Int) = ((m ||| 1 <<< i : Nat) : Int) := by
  have : ∀ m : Fin 64, ∀ i : Fin 6, Go.bits .or .i64 (m.val : Int) ((1 <<< i.val : Nat) : Int) = ((m.val ||| 1 <<< i.val : Nat) : Int) := by decide +kernel
  exact this ⟨m, hm⟩ ⟨i, hi⟩
theorem bitAndNot (m : Nat) (hm : m < 64) : (Go.bits .andNot .i64 (m : Int) 1 != 32) = ((m - m % 2) != 32) := by
  have : ∀ m : Fin 64, (Go.bits .andNot .i64 (m.val : Int) 1 != 32) = ((m.val - m.val % 2) != 32) := by decide +kernel
  exact this ⟨m, hm⟩

end Go.Proofs.YtojppincaalibaaGreatDoor
