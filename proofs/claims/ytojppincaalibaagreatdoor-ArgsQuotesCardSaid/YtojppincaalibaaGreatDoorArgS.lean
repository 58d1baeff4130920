/- Plain Lean: a text cut at each byte; templates of package args. -/
import Derived.Test.YtojppincaalibaaGreatDoorArgP
import Derived.Lib.SplitLaws
import Derived.Lib.SlTrimSet
import Derived.Lib.ParseIntB
set_option linter.unusedVariables false
set_option linter.unusedSimpArgs false
namespace Go.Proofs.YtojppincaalibaaGreatDoor

/-- A text cut at each byte c. -/
def spl (c : UInt8) : Bs → List Bs
  | [] => [[]]
  | b :: l => if b = c then [] :: spl c l else match spl c l with | [] => [[b]] | h :: t => (b :: h) :: t
theorem spl_ne (c : UInt8) : ∀ l, spl c l ≠ []
  | [] => by simp [spl]
  | b :: l => by
    unfold spl
    split
    · simp
    · split <;> simp
theorem spl_no (c : UInt8) : ∀ l : Bs, l.count c = 0 → spl c l = [l]
  | [], _ => rfl
  | b :: l, h => by
    rw [List.count_cons] at h
    have hb : ¬ b = c := fun e => by subst e; simp at h
    unfold spl
    rw [if_neg hb, spl_no c l (by omega)]
theorem spl_app (c : UInt8) : ∀ (a r : Bs), a.count c = 0 → spl c (a ++ c :: r) = a :: spl c r
  | [], r, _ => by simp [spl]
  | b :: a, r, h => by
    rw [List.count_cons] at h
    have hb : ¬ b = c := fun e => by subst e; simp at h
    rw [List.cons_append, spl, if_neg hb, spl_app c a r (by omega)]
theorem spl_len (c : UInt8) : ∀ l : Bs, (spl c l).length = l.count c + 1
  | [] => rfl
  | b :: l => by
    unfold spl
    rw [List.count_cons]
    split
    · rename_i h; subst h; simp [spl_len b l]
    · rename_i h
      have := spl_len c l
      have h2 := spl_ne c l
      split
      · rename_i h3; exact absurd h3 h2
      · rename_i h3; rw [h3] at this; simp at this ⊢; simp [h]; omega
theorem indexByte_split (c : UInt8) : ∀ (l : Bs) (i : Nat), Lib.indexByte l c = i → ∃ a r, l = a ++ c :: r ∧ a.length = i ∧ a.count c = 0
  | [], i, h => by simp only [Lib.indexByte] at h; omega
  | b :: l, i, h => by
    unfold Lib.indexByte at h
    split at h
    · rename_i hb
      have : b = c := by simpa using hb
      subst this
      exact ⟨[], l, rfl, by simp; omega, rfl⟩
    · rename_i hb
      split at h
      · omega
      · have hge := Lib.indexByte_ge l c
        rename_i hm
        have hm' : Lib.indexByte l c ≠ -1 := by simpa using hm
        obtain ⟨a, r, rfl, hl, hc⟩ := indexByte_split c l (i - 1) (by omega)
        exact ⟨b :: a, r, rfl, by simp; omega, by rw [List.count_cons, hc]; simp; intro e; exact absurd e (by simpa using hb)⟩
theorem indexByte_none (c : UInt8) : ∀ (l : Bs), Lib.indexByte l c = -1 → l.count c = 0
  | [], _ => rfl
  | b :: l, h => by
    unfold Lib.indexByte at h
    split at h
    · omega
    · rename_i hb
      split at h
      · rename_i hm
        rw [List.count_cons, indexByte_none c l (by simpa using hm)]
        simp; intro e; exact absurd e (by simpa using hb)
      · have hge := Lib.indexByte_ge l c
        rename_i hm
        have hm' : Lib.indexByte l c ≠ -1 := by simpa using hm
        omega
theorem splitK_spl (c : UInt8) : ∀ (k : Nat) (l : Bs), l.count c = k → Lib.splitK [c] 0 k l = spl c l
  | 0, l, h => (spl_no c l h).symm
  | k + 1, l, h => by
    unfold Lib.splitK
    rw [Lib.index_one]
    have hge := Lib.indexByte_ge l c
    have hne : Lib.indexByte l c ≠ -1 := fun e => by have := indexByte_none c l e; omega
    rw [if_neg (by simpa using hne)]
    obtain ⟨i, hi⟩ : ∃ i : Nat, Lib.indexByte l c = i := ⟨(Lib.indexByte l c).toNat, by omega⟩
    obtain ⟨a, r, rfl, hl, hc⟩ := indexByte_split c l i hi
    rw [hi, spl_app c a r hc]
    simp only [Int.toNat_natCast, Nat.add_zero, List.length_cons, List.length_nil, Nat.zero_add]
    rw [← hl, List.take_left]
    have hr : r.count c = k := by rw [List.count_append, List.count_cons_self, hc] at h; omega
    rw [List.drop_append, show a.length + 1 - a.length = 1 by omega, List.drop_of_length_le (by omega)]
    simp only [List.nil_append, List.drop_succ_cons, List.drop_zero]
    rw [splitK_spl c k r hr]

theorem splitB_spl (s : ByteArray) (c : UInt8) : (Lib.splitB ⟨#[c]⟩ 0 (Lib.countB s ⟨#[c]⟩) s) = (spl c (bl s)).map mkS := by
  have h1 : Lib.countB s ⟨#[c]⟩ = (bl s).count c := Lib.count_one c _
  have h2 := Lib.splitB_data ⟨#[c]⟩ 0 ((bl s).count c) s
  have h3 : Lib.splitK [c] 0 ((bl s).count c) (bl s) = spl c (bl s) := splitK_spl c _ _ rfl
  rw [h1, ← h3]
  have h4 : (Lib.splitB ⟨#[c]⟩ 0 ((bl s).count c) s).map (fun b => b.data.toList) = Lib.splitK [c] 0 ((bl s).count c) (bl s) := h2
  rw [← h4, List.map_map]
  conv => lhs; rw [← List.map_id (Lib.splitB ⟨#[c]⟩ 0 ((bl s).count c) s)]
  apply List.map_congr_left
  intro b _
  exact (mkS_bl b).symm

/-! ### Items and templates -/
def markIdx (p : Bs) : Option Nat := if p = [97] then some 0 else if p = [107] then some 1 else if p = [115] then some 2 else if p = [110] then some 3 else if p = [109] then some 4 else if p = [102] then some 5 else none
theorem markIdx_lt {p : Bs} {i : Nat} (h : markIdx p = some i) : i < 6 := by
  unfold markIdx at h
  split at h
  · cases h; decide
  split at h
  · cases h; decide
  split at h
  · cases h; decide
  split at h
  · cases h; decide
  split at h
  · cases h; decide
  split at h
  · cases h; decide
  · cases h
def marksR : List Bs → Nat → Option Nat
  | [], m => some m
  | p :: ps, m => match markIdx p with
    | none => none
    | some i => if m.testBit i then none else marksR ps (m ||| 1 <<< i)
def lettersL : Bs := [97, 98, 99, 100, 101, 102, 103, 104, 105, 106, 107, 108, 109, 110, 111, 112, 113, 114, 115, 116, 117, 118, 119, 120, 121, 122]
/-- A name of a template that is none. -/
def badName (n : Bs) : Bool := n.isEmpty || decide (16 < n.length) || !(Lib.trimS n lettersL).isEmpty
def badMarks (m : Nat) : Bool := (m.testBit 2 && m != 4) || (m.testBit 4 && m.testBit 1) || (m.testBit 5 && (m - m % 2) != 32)
/-- An item: its names, its marks as bits. -/
structure It where
  names : List Bs
  m : Nat
def itemR (l : Bs) : Option It :=
  match spl 47 l with
  | [] => none
  | p :: ps => match marksR ps 0 with
    | none => none
    | some m => if (spl 61 p).any badName || badMarks m then none else some ⟨spl 61 p, m⟩
def addNames : List Bs → List Bs → Option (List Bs)
  | seen, [] => some seen
  | seen, n :: ns => if seen.contains n then none else addNames (n :: seen) ns
def tmplGo : List Bs → List Bs → Option (List It)
  | [], _ => some []
  | p :: ps, seen => match itemR p with
    | none => none
    | some x => if x.m.testBit 5 && !ps.isEmpty then none else match addNames seen x.names with
      | none => none
      | some seen' => (tmplGo ps seen').map (x :: ·)
def nMany (xs : List It) : Nat := (xs.filter fun x => x.m.testBit 4).length
def templateR (l : Bs) : List It × Int :=
  if l.isEmpty then ([], 0) else match tmplGo (spl 44 l) [] with
  | none => ([], 3)
  | some xs => if 1 < nMany xs then ([], 3) else if 20 < xs.length then ([], 2) else (xs, 0)

theorem marksR_lt : ∀ (ps : List Bs) (m k : Nat), m < 64 → marksR ps m = some k → k < 64
  | [], m, k, hm, h => by cases h; exact hm
  | p :: ps, m, k, hm, h => by
    unfold marksR at h
    split at h
    · cases h
    · rename_i i hi
      split at h
      · cases h
      · refine marksR_lt ps _ k ?_ h
        have hi6 := markIdx_lt hi
        have : (1 <<< i) < 64 := by
          have h2 : (1 <<< i) = 2 ^ i := by rw [Nat.shiftLeft_eq]; omega
          rw [h2]
          exact Nat.lt_of_lt_of_le (Nat.pow_lt_pow_right (by decide) hi6) (by decide)
        exact Nat.or_lt_two_pow (n := 6) hm this
end Go.Proofs.YtojppincaalibaaGreatDoor
