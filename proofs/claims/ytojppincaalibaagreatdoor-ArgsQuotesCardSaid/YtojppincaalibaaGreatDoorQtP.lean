/- Plain Lean: a line of quoted words as it grows; how long what is made gets. -/
import Derived.Test.YtojppincaalibaaGreatDoorWqP
import Derived.Test.YtojppincaalibaaGreatDoorUsP
set_option linter.unusedVariables false
set_option linter.unusedSimpArgs false
namespace Go.Proofs.YtojppincaalibaaGreatDoor

theorem lineL_app : ∀ (l : List (Nat × Bs)) (p : Nat × Bs), lineL (l ++ [p]) = lineL l ++ (List.replicate p.1 32 ++ quoteL p.2)
  | [], p => by simp [lineL]
  | q :: l, p => by
    rw [List.cons_append, lineL, lineL_app l p, lineL]
    simp
theorem quoteL_len (l : Bs) : (quoteL l).length ≤ 2 * l.length + 2 := by
  rw [quoteL_eq]
  have h1 := escL_len (cl l)
  have h2 : cntSp (cl l) ≤ (cl l).length := List.length_filter_le _ _
  have h3 := cl_len l
  unfold refQuoteL
  split
  · simp only [List.length_cons, List.length_append, List.length_nil]
    omega
  · omega
theorem lineL_len (K : Nat) : ∀ l : List (Nat × Bs), (∀ p ∈ l, p.1 ≤ 4 ∧ p.2.length ≤ K) → (lineL l).length ≤ l.length * (2 * K + 6)
  | [], _ => by simp [lineL]
  | p :: l, h => by
    have h1 := h p List.mem_cons_self
    have h2 := lineL_len K l fun q hq => h q (List.mem_cons_of_mem _ hq)
    have h3 := quoteL_len p.2
    simp only [lineL, List.length_append, List.length_replicate, List.length_cons]
    rw [Nat.add_mul]
    omega
end Go.Proofs.YtojppincaalibaaGreatDoor
