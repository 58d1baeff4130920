/- A set of strings as a map of bools. -/
import Derived.Test.YtojppincaalibaaGreatDoorArgS
import Derived.Test.YtojppincaalibaaGreatDoorArgU
import Derived.Maps.OwnOps
import Derived.Maps.OwnSet
import Derived.Maps.Views
import Derived.StringKeys
import Derived.Lib.Hide
set_option linter.unusedVariables false
set_option linter.unusedSimpArgs false
set_option maxRecDepth 100000
namespace Go.Proofs.YtojppincaalibaaGreatDoor
open Go.Shelf Go.RowKit Go.Maps Go.WideMaps

theorem lawS : Keyed Tryz.prog 9 := string_keyed Tryz.underlying9
theorem zeroB (w : World) : (zeroValue 4).run Tryz.prog w = .ok (.bool false) w := by kernel_rfl

/-- The map at block b holds true at the strings of l alone. -/
def SeenM (w : World) (b n : Nat) (l : List Bs) : Prop :=
  ∃ D : DataW Unit, w.ownsMap Tryz.prog 9 (plainElem Tryz.prog 4) b n D ∧ ∀ x : Bs, D.atKey (.string x) (.lit (.bool false)) = .lit (.bool (l.contains x))

theorem SeenM.made (w : World) : SeenM (w.alloc (.map #[] 0)) w.heap.size 0 [] :=
  ⟨.map [], World.ownsMap_made _ _ _ _, fun x => rfl⟩

theorem plainElem_bool_inv {v : Value} {z : DataW Unit × List MemPlace} (h : plainElem Tryz.prog 4 v = some z) : ∃ a, v = .bool a ∧ z = (.lit (.bool a), []) := by
  unfold plainElem at h
  rw [Tryz.underlying4] at h
  cases v <;> simp at h
  exact ⟨_, rfl, h.symm⟩

theorem SeenM.look {w : World} {b n : Nat} {l : List Bs} (h : SeenM w b n l) (x : Bs) (hx : x.length ≤ 1000000) :
    (Instr.lookup 73 (.map (some b)) (.string (mkS x)) false).run Tryz.prog w = .ok (.bool (l.contains x)) w := by
  obtain ⟨D, hown, hat⟩ := h
  have hk := keyOf_string_mk (P := Tryz.prog) (k := 9) (s := mkS x) Tryz.underlying9 (by rw [mkS_size]; unfold maxLen; omega)
  obtain ⟨v, ps, hrun, hv⟩ := hown.lookup lawS Tryz.underlying73 (zeroB w) (plainElem_bool Tryz.underlying4 false) hk
  obtain ⟨a, rfl, hz⟩ := plainElem_bool_inv hv
  have := hat x
  rw [show (.string (mkS x).data.toList : Lit) = .string x from rfl] at hz
  rw [this] at hz
  simp at hz
  rw [hrun, ← hz.1]
  simp

theorem SeenM.put {w : World} {b n : Nat} {l : List Bs} (h : SeenM w b n l) (x : Bs) (hx : x.length ≤ 1000000) (hn : n < maxLen) :
    ∃ w', (Instr.mapUpdate 73 (.map (some b)) (.string (mkS x)) (.bool true)).run Tryz.prog w = .ok () w' ∧ SeenM w' b (n + 1) (x :: l) ∧ w.grownBy w' (some b) := by
  obtain ⟨D, hown, hat⟩ := h
  have hk := keyOf_string_mk (P := Tryz.prog) (k := 9) (s := mkS x) Tryz.underlying9 (by rw [mkS_size]; unfold maxLen; omega)
  obtain ⟨w', hrun, ho, hg⟩ := hown.update lawS Tryz.underlying73 hn hk (plainElem_bool Tryz.underlying4 true)
  refine ⟨w', hrun, ⟨_, ho, fun y => ?_⟩, hg⟩
  by_cases e : y = x
  · subst e
    have hk2 : WideAt.IsKeyLit (.string y) := by first | trivial | exact ⟨⟩ | simp [WideAt.IsKeyLit]
    have := Maps.atKey_put_same (k := .string y) hown.isMap hk2 (.lit (.bool true) : DataW Unit) (.lit (.bool false))
    rw [show (.string (mkS y).data.toList : Lit) = .string y from rfl, this]
    simp
  · have := Maps.atKey_put_other (D := D) (k := .string x) (k' := .string y) (by simpa using e) (.lit (.bool true) : DataW Unit) (.lit (.bool false))
    rw [show (.string (mkS x).data.toList : Lit) = .string x from rfl, this, hat y]
    simp [e]

theorem SeenM.kept {w w' : World} {b n : Nat} {l : List Bs} {row : Option Nat} (h : SeenM w b n l) (hg : w.grownBy w' row) (hne : some b ≠ row) : SeenM w' b n l := by
  obtain ⟨D, hown, hat⟩ := h
  exact ⟨D, hown.kept hg hne, hat⟩
theorem SeenM.lt {w : World} {b n : Nat} {l : List Bs} (h : SeenM w b n l) : b < w.heap.size := h.choose_spec.1.lt
theorem grown_of_below {B : Nat} {w w' : World} (h : Below w.heap.size w w') : w.grownBy w' none := ⟨h.os, h.tape, h.output, h.size, fun k hk _ => h.block k hk⟩
end Go.Proofs.YtojppincaalibaaGreatDoor
