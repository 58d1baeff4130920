/- Rows of bytes: as text. -/
import Derived.Test.YtojppincaalibaaGreatDoorFitB
import Derived.Laws.BytesArg
import Derived.Lib.LazyBuf
import Derived.RangeFuncBox
set_option linter.unusedVariables false
set_option linter.unusedSimpArgs false
set_option maxRecDepth 100000
namespace Go.Proofs.YtojppincaalibaaGreatDoor
open Go.Shelf Go.RowKit

def bC (l : Bs) : List Value := l.map fun b => Value.int .u8 (b.toNat : Int)
theorem bC_append (a b : Bs) : bC (a ++ b) = bC a ++ bC b := List.map_append ..
theorem bC_len (a : Bs) : (bC a).length = a.length := List.length_map ..
theorem infoByte : (Tryz.prog.info? 5).map (fun i => (i.zero, i.size, i.bytes)) = some (some (.int .u8 0), 1, 1) := by kernel_rfl

theorem conv_at (w : World) (b off cap : Nat) (l : Bs) (h : ∀ i (hi : i < l.length), w.cell? ⟨b, off + i, none⟩ = some (.int .u8 (l[i].toNat : Int))) :
    (convert 34 9 (.slice (some ⟨b, off, none⟩) l.length cap)).run Tryz.prog w = .ok (.string (mkS l)) w := by
  have hcv := run_convert_bytes_arg (P := Tryz.prog) w 34 5 Tryz.underlying34 Tryz.underlying5 b off l.length cap (l.map fun b => (b.toNat : Int)) (by rw [List.length_map]) (fun i hi => by
    rw [h i hi, List.getD_eq_getElem?_getD, List.getElem?_map, List.getElem?_eq_getElem hi]
    rfl) 9 Tryz.underlying9
  rw [Lib.Lz.strOfNums_map] at hcv
  exact hcv
theorem row_cell {w : World} {base n : Nat} {t : TypeId} {g cap : Nat} {xs : List Value} (h : w.ownsRow base t 1 (.slice (some ⟨g, 0, none⟩) n cap) n xs) (i : Nat) (hi : i < xs.length) : w.cell? ⟨g, i, none⟩ = some xs[i] := by
  rcases h.2 with ⟨h, _⟩ | ⟨g', cap', cur, e, hD, hh, hle, -, hsz, htk⟩
  · cases h
  · cases e
    have hl := h.1
    rw [cellOf hh, ← Array.getElem?_toList]
    have : (cur.toList.take (n * 1))[i]? = xs[i]? := by rw [htk]
    rw [List.getElem?_take_of_lt (by omega), List.getElem?_eq_getElem hi] at this
    exact this
theorem conv_row {w : World} {base g n cap : Nat} {l : Bs} (h : w.ownsRow base 5 1 (.slice (some ⟨g, 0, none⟩) n cap) n (bC l)) :
    (convert 34 9 (.slice (some ⟨g, 0, none⟩) n cap)).run Tryz.prog w = .ok (.string (mkS l)) w := by
  have hn : l.length = n := by have := h.1; rw [bC_len] at this; omega
  subst hn
  refine conv_at w g 0 cap l fun i hi => ?_
  have := row_cell h i (by rw [bC_len]; exact hi)
  rw [Nat.zero_add, this]
  simp [bC]
theorem conv_row_tail {w : World} {base g n cap : Nat} {c : UInt8} {l : Bs} (h : w.ownsRow base 5 1 (.slice (some ⟨g, 0, none⟩) n cap) n (bC (c :: l))) (m : Nat) (hm : m = l.length) (cap' : Nat) :
    (convert 34 9 (.slice (some ⟨g, 1, none⟩) m cap')).run Tryz.prog w = .ok (.string (mkS l)) w := by
  subst hm
  refine conv_at w g 1 cap' l fun i hi => ?_
  have := row_cell h (1 + i) (by rw [bC_len, List.length_cons]; omega)
  rw [this]
  simp only [bC, List.getElem_map]
  congr 2
  have : 1 + i = i + 1 := by omega
  simp only [this, List.getElem_cons_succ]
theorem row_new (w : World) (base : Nat) (hb : base ≤ w.heap.size) (l : Bs) : (w.alloc (.cells (bC l).toArray 5)).ownsRow base 5 1 (.slice (some ⟨w.heap.size, 0, none⟩) l.length l.length) l.length (bC l) ∨ maxLen < l.length := by
  by_cases h : l.length ≤ maxLen
  · left
    refine ⟨by rw [bC_len]; omega, .inr ⟨w.heap.size, l.length, (bC l).toArray, rfl, hb, Go.heap_alloc_new w _, Nat.le_refl _, h, by rw [List.size_toArray, bC_len]; omega, ?_⟩⟩
    rw [List.take_of_length_le (by simp [bC_len])]
  · right; omega
end Go.Proofs.YtojppincaalibaaGreatDoor
