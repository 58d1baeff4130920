/- Rows of items in memory. -/
import Derived.Test.YtojppincaalibaaGreatDoorArgW
import Derived.Test.YtojppincaalibaaGreatDoorArgM
set_option linter.unusedVariables false
set_option linter.unusedSimpArgs false
set_option maxRecDepth 100000
namespace Go.Proofs.YtojppincaalibaaGreatDoor
open Go.Shelf Go.RowKit

theorem infoItem : (Tryz.prog.info? 42).map (fun i => (i.zero, i.size, i.bytes)) = some (some zeroItem, 7, 32) := by kernel_rfl

def itC (b : Nat) (x : It) : List Value := [.slice (some ⟨b, 0, none⟩) x.names.length x.names.length, .bool (x.m.testBit 0), .bool (x.m.testBit 1), .bool (x.m.testBit 2), .bool (x.m.testBit 3), .bool (x.m.testBit 4), .bool (x.m.testBit 5)]
def rowC : List Nat → List It → List Value
  | b :: bs, x :: xs => itC b x ++ rowC bs xs
  | _, _ => []
theorem rowC_snoc : ∀ (bs : List Nat) (xs : List It) (b : Nat) (x : It), bs.length = xs.length → rowC (bs ++ [b]) (xs ++ [x]) = rowC bs xs ++ itC b x
  | [], [], b, x, _ => by simp [rowC]
  | c :: bs, y :: xs, b, x, h => by
    simp only [List.cons_append, rowC, List.append_assoc]
    rw [rowC_snoc bs xs b x (by simpa using h)]
theorem rowC_len : ∀ (bs : List Nat) (xs : List It), bs.length = xs.length → (rowC bs xs).length = xs.length * 7
  | [], [], _ => rfl
  | b :: bs, x :: xs, h => by
    simp only [rowC, List.length_append, rowC_len bs xs (by simpa using h), List.length_cons, itC, List.length_nil]
    omega
theorem rowC_at : ∀ (bs : List Nat) (xs : List It) (h : bs.length = xs.length) (i j : Nat) (hi : i < xs.length), j < 7 → (rowC bs xs)[i * 7 + j]? = (itC (bs[i]'(by omega)) xs[i])[j]?
  | [], xs, h, i, j, hi, _ => by simp at h; omega
  | b :: bs, x :: xs, h, 0, j, hi, hj => by
    simp only [rowC, Nat.zero_mul, Nat.zero_add]
    rw [List.getElem?_append_left (by simp [itC]; omega)]
    rfl
  | b :: bs, x :: xs, h, i + 1, j, hi, hj => by
    simp only [rowC]
    rw [List.getElem?_append_right (by simp [itC]; omega), show (i + 1) * 7 + j - (itC b x).length = i * 7 + j by simp [itC]; omega, rowC_at bs xs (by simpa using h) i j (by simpa using hi) hj]
    rfl

/-- A row of items: the blocks of their names, their cells. -/
def ItemsR (w : World) (B : Nat) (v : Value) (bs : List Nat) (xs : List It) : Prop :=
  bs.length = xs.length ∧ w.ownsRow B 42 7 v xs.length (rowC bs xs) ∧ ∀ i (h : i < xs.length) (h' : i < bs.length), B ≤ bs[i] ∧ bs[i] < w.heap.size ∧ StrB w bs[i] xs[i].names

theorem ItemsR.nil (w : World) (B : Nat) : ItemsR w B (.slice none 0 0) [] [] :=
  ⟨rfl, ⟨rfl, .inl ⟨rfl, rfl⟩⟩, fun i h => absurd h (Nat.not_lt_zero _)⟩

/-- The row's block holds items. -/
theorem item_block {w : World} {B n : Nat} {v : Value} {xs : List Value} (h : w.ownsRow B 42 7 v n xs) {g : Nat} (hv : v.ownBlock = some g) : B ≤ g ∧ ∃ cur, w.heap[g]? = some (.cells cur 42 (0, 0)) := by
  rcases h.2 with ⟨rfl, _⟩ | ⟨g', cap, cur, rfl, hb, hh, _⟩
  · simp [Value.ownBlock] at hv
  · have : g' = g := by simpa [Value.ownBlock] using hv
    subst this
    exact ⟨hb, cur, hh⟩

theorem ItemsR.kept {w w' : World} {B : Nat} {v : Value} {bs : List Nat} {xs : List It} {row : Option Nat} (h : ItemsR w B v bs xs) (hg : w.grownBy w' row)
    (hr : ∀ g, row = some g → (∀ cur, w.heap[g]? ≠ some (.cells cur 42 (0, 0))) ∧ (∀ l, ¬ StrB w g l)) : ItemsR w' B v bs xs := by
  refine ⟨h.1, h.2.1.kept hg ?_, fun i hi hi' => ?_⟩
  · cases hv : v.ownBlock with
    | none => exact .inl rfl
    | some g =>
      refine .inr fun e => ?_
      obtain ⟨_, cur, hc⟩ := item_block h.2.1 hv
      exact (hr g e.symm).1 cur hc
  · obtain ⟨h1, h2, h3⟩ := h.2.2 i hi hi'
    refine ⟨h1, Nat.lt_of_lt_of_le h2 hg.size, ?_⟩
    unfold StrB
    rw [hg.block _ h2 (fun e => (hr _ e.symm).2 _ h3)]
    exact h3
theorem ItemsR.below {w w' : World} {B : Nat} {v : Value} {bs : List Nat} {xs : List It} (h : ItemsR w B v bs xs) (hb : Below w.heap.size w w') : ItemsR w' B v bs xs :=
  h.kept (grown_of_below (B := 0) hb) (fun g e => by cases e)
theorem ItemsR.map {w w' : World} {B M n : Nat} {v : Value} {bs : List Nat} {xs : List It} {l : List Bs} (h : ItemsR w B v bs xs) (hm : SeenM w M n l) (hg : w.grownBy w' (some M)) : ItemsR w' B v bs xs := by
  refine h.kept hg fun g e => ?_
  cases e
  obtain ⟨D, ⟨es, c, hes, _⟩, _⟩ := hm
  exact ⟨fun cur hc => (by rw [hes] at hc; cases hc), fun l hl => (by unfold StrB at hl; rw [hes] at hl; cases hl)⟩
theorem StrB.map {w w' : World} {b M n : Nat} {x : List Bs} {l : List Bs} (h : StrB w b x) (hb : b < w.heap.size) (hm : SeenM w M n l) (hg : w.grownBy w' (some M)) : StrB w' b x := by
  unfold StrB
  rw [hg.block _ hb fun e => ?_]
  · exact h
  · cases e
    obtain ⟨D, ⟨es, c, hes, _⟩, _⟩ := hm
    unfold StrB at h; rw [hes] at h; cases h
/-- What is no row of items stays when a row of items grows. -/
theorem grown_other {w w' : World} {B n : Nat} {v : Value} {xs : List Value} (h : w.ownsRow B 42 7 v n xs) (hg : w.grownBy w' v.ownBlock) {g : Nat} {o : Obj} (ho : w.heap[g]? = some o) (hne : ∀ cur, o ≠ .cells cur 42 (0, 0)) : w'.heap[g]? = some o := by
  rw [hg.block g (Array.getElem?_eq_some_iff.1 ho).1 fun e => ?_]
  · exact ho
  · obtain ⟨_, cur, hc⟩ := item_block h e.symm
    rw [ho] at hc
    cases hc
    exact hne _ rfl
theorem StrB.grown {w w' : World} {B n b : Nat} {v : Value} {xs : List Value} {l : List Bs} (h : StrB w b l) (ho : w.ownsRow B 42 7 v n xs) (hg : w.grownBy w' v.ownBlock) : StrB w' b l :=
  grown_other ho hg h (fun cur e => by cases e)
theorem SeenM.grown {w w' : World} {B n b m : Nat} {v : Value} {xs : List Value} {l : List Bs} (h : SeenM w b m l) (ho : w.ownsRow B 42 7 v n xs) (hg : w.grownBy w' v.ownBlock) : SeenM w' b m l := by
  refine h.kept hg fun e => ?_
  obtain ⟨_, cur, hc⟩ := item_block ho e.symm
  obtain ⟨D, ⟨es, c, hes, _⟩, _⟩ := h
  rw [hes] at hc; cases hc
theorem ItemsR.snoc {w w' : World} {B b : Nat} {v v' : Value} {bs : List Nat} {xs : List It} {x : It} (h : ItemsR w B v bs xs) (hg : w.grownBy w' v.ownBlock) (ho : w'.ownsRow B 42 7 v' (xs.length + 1) (rowC bs xs ++ itC b x))
    (hb : B ≤ b) (hlt : b < w.heap.size) (hs : StrB w b x.names) : ItemsR w' B v' (bs ++ [b]) (xs ++ [x]) := by
  refine ⟨by simp [h.1], ?_, fun i hi hi' => ?_⟩
  · rw [rowC_snoc _ _ _ _ h.1, List.length_append]; exact ho
  · by_cases hx : i < xs.length
    · have hbx : i < bs.length := by rw [h.1]; exact hx
      obtain ⟨h1, h2, h3⟩ := h.2.2 i hx hbx
      rw [List.getElem_append_left hbx, List.getElem_append_left hx]
      exact ⟨h1, Nat.lt_of_lt_of_le h2 hg.size, h3.grown h.2.1 hg⟩
    · obtain rfl : i = xs.length := by simp at hi; omega
      have e1 : (bs ++ [b])[xs.length]'hi' = b := by simp [← h.1]
      have e2 : (xs ++ [x])[xs.length]'hi = x := by simp
      rw [e1, e2]
      exact ⟨hb, Nat.lt_of_lt_of_le hlt hg.size, hs.grown h.2.1 hg⟩
end Go.Proofs.YtojppincaalibaaGreatDoor
