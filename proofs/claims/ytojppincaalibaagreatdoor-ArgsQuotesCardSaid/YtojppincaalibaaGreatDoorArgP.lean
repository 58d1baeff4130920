/- Plain Lean (no program in sight): words of a line, as package args and its reference read them: lists of bytes. -/
import Derived.WalkKit
import Derived.Lib.Strings
set_option linter.unusedVariables false
set_option linter.unusedSimpArgs false
namespace Go.Proofs.YtojppincaalibaaGreatDoor

abbrev Bs := List UInt8
def bl (s : ByteArray) : Bs := s.data.toList
def mkS (l : Bs) : ByteArray := ⟨l.toArray⟩
theorem bl_mkS (l : Bs) : bl (mkS l) = l := rfl
theorem mkS_bl (s : ByteArray) : mkS (bl s) = s := by
  cases s with | mk d => cases d with | mk l => rfl
theorem bl_len (s : ByteArray) : (bl s).length = s.size := Array.length_toList
theorem mkS_size (l : Bs) : (mkS l).size = l.length := by show l.toArray.size = _; exact List.size_toArray
theorem bl_inj {a b : ByteArray} (h : bl a = bl b) : a = b := by rw [← mkS_bl a, h, mkS_bl]
theorem drop_at (s : ByteArray) (i : Nat) (h : i < s.size) : (bl s).drop i = s[i] :: (bl s).drop (i + 1) := by
  rw [List.drop_eq_getElem_cons (by rw [bl_len]; exact h)]
  rfl
theorem drop_end (s : ByteArray) (i : Nat) (h : s.size ≤ i) : (bl s).drop i = [] := List.drop_eq_nil_of_le (by rw [bl_len]; exact h)
theorem drop_len (s : ByteArray) (i : Nat) : ((bl s).drop i).length = s.size - i := by rw [List.length_drop, bl_len]

/-- Behind a quote: the word, and what is left behind the closing quote; none: it does not end, or something else follows. -/
def qt : Bs → Option (Bs × Bs)
  | [] => none
  | [c] => if c = 34 then some ([], []) else none
  | c :: d :: t =>
    if c = 34 then (if d = 0 ∨ d = 32 ∨ d = 61 then some ([], d :: t) else none)
    else if c = 42 ∧ (d = 34 ∨ d = 42) then (qt t).map fun p => (d :: p.1, p.2)
    else if c = 42 ∧ d = 110 then (qt t).map fun p => (10 :: p.1, p.2)
    else (qt (d :: t)).map fun p => (c :: p.1, p.2)

theorem qt_le : ∀ (l : Bs) (p : Bs × Bs), qt l = some p → p.2.length < l.length ∧ p.1.length < l.length
  | [], p, h => by simp [qt] at h
  | [c], p, h => by
    unfold qt at h
    split at h
    · cases h; simp
    · cases h
  | c :: d :: t, p, h => by
    unfold qt at h
    split at h
    · split at h
      · cases h; simp
      · cases h
    · split at h
      · simp only [Option.map_eq_some_iff] at h
        obtain ⟨q, hq, rfl⟩ := h
        have := qt_le t q hq
        simp; omega
      · split at h
        · simp only [Option.map_eq_some_iff] at h
          obtain ⟨q, hq, rfl⟩ := h
          have := qt_le t q hq
          simp; omega
        · simp only [Option.map_eq_some_iff] at h
          obtain ⟨q, hq, rfl⟩ := h
          have := qt_le (d :: t) q hq
          simp at this ⊢; omega

/-- What quoted returns. -/
def quotedR (s : ByteArray) (i : Nat) : ByteArray × Int :=
  match qt ((bl s).drop i) with
  | some p => (mkS p.1, (s.size : Int) - p.2.length)
  | none => (⟨#[]⟩, -1)
theorem quotedR_some {s : ByteArray} {i : Nat} {p : Bs × Bs} (h : qt ((bl s).drop i) = some p) : quotedR s i = (mkS p.1, (s.size : Int) - p.2.length) := by unfold quotedR; rw [h]
theorem quotedR_none {s : ByteArray} {i : Nat} (h : qt ((bl s).drop i) = none) : quotedR s i = (⟨#[]⟩, -1) := by unfold quotedR; rw [h]
theorem qt_at (s : ByteArray) (k : Nat) (c d : UInt8) (h : k < s.size) (h1 : k + 1 < s.size) (hc : s[k] = c) (hd : s[k + 1] = d) :
    qt ((bl s).drop k) = if c = 34 then (if d = 0 ∨ d = 32 ∨ d = 61 then some ([], (bl s).drop (k + 1)) else none)
    else if c = 42 ∧ (d = 34 ∨ d = 42) then (qt ((bl s).drop (k + 2))).map fun p => (d :: p.1, p.2)
    else if c = 42 ∧ d = 110 then (qt ((bl s).drop (k + 2))).map fun p => (10 :: p.1, p.2)
    else (qt ((bl s).drop (k + 1))).map fun p => (c :: p.1, p.2) := by
  rw [drop_at s k h, drop_at s (k + 1) h1, hc, hd, qt]
theorem qt_last (s : ByteArray) (k : Nat) (c : UInt8) (h : k < s.size) (h1 : ¬ k + 1 < s.size) (hc : s[k] = c) :
    qt ((bl s).drop k) = if c = 34 then some ([], []) else none := by
  rw [drop_at s k h, drop_end s (k + 1) (by omega), hc, qt]
theorem qt_nil (s : ByteArray) (k : Nat) (h : ¬ k < s.size) : qt ((bl s).drop k) = none := by
  rw [drop_end s k (by omega), qt]
/-- Where a round of quoted stands. -/
def QInv (s : ByteArray) (i0 : Nat) (i : Nat) (acc : Bs) : Prop :=
  qt ((bl s).drop i0) = (qt ((bl s).drop i)).map (fun p => (acc ++ p.1, p.2))
theorem QInv.start (s : ByteArray) (i0 : Nat) : QInv s i0 i0 [] := by unfold QInv; simp
theorem QInv.step {s : ByteArray} {i0 k k' : Nat} {acc : Bs} {x : UInt8} (h : QInv s i0 k acc) (e : qt ((bl s).drop k) = (qt ((bl s).drop k')).map fun p => (x :: p.1, p.2)) : QInv s i0 k' (acc ++ [x]) := by
  unfold QInv at h ⊢
  rw [h, e]
  simp [Function.comp_def]
theorem QInv.done {s : ByteArray} {i0 k : Nat} {acc r : Bs} (h : QInv s i0 k acc) (e : qt ((bl s).drop k) = some ([], r)) : quotedR s i0 = (mkS acc, (s.size : Int) - r.length) := by
  unfold QInv at h
  rw [e] at h
  rw [quotedR_some h]
  simp
theorem QInv.bad {s : ByteArray} {i0 k : Nat} {acc : Bs} (h : QInv s i0 k acc) (e : qt ((bl s).drop k) = none) : quotedR s i0 = (⟨#[]⟩, -1) := by
  unfold QInv at h
  rw [e] at h
  rw [quotedR_none h]
theorem beq_t (c n : UInt8) (m : Int) (hm : (n.toNat : Int) = m) (h : c = n) : ((c.toNat : Int) == m) = true := by
  rw [h, hm]; simp
theorem beq_f (c n : UInt8) (m : Int) (hm : (n.toNat : Int) = m) (h : c ≠ n) : ((c.toNat : Int) == m) = false := by
  rw [beq_eq_false_iff_ne]
  intro e
  exact h (UInt8.toNat_inj.1 (by omega))
theorem bne_f (c n : UInt8) (m : Int) (hm : (n.toNat : Int) = m) (h : c = n) : ((c.toNat : Int) != m) = false := by
  rw [h, hm]; simp
theorem bne_t (c n : UInt8) (m : Int) (hm : (n.toNat : Int) = m) (h : c ≠ n) : ((c.toNat : Int) != m) = true := by
  have := beq_f c n m hm h
  simp only [bne, this]; rfl

/-! ### The next word -/
def skipB (l : Bs) : Bs := l.dropWhile (· = 32)
def tw (l : Bs) : Bs := l.takeWhile fun b => b ≠ 32 ∧ b ≠ 61
def dw (l : Bs) : Bs := l.dropWhile fun b => b ≠ 32 ∧ b ≠ 61
/-- A word: its bytes, whether it was quoted, what is left behind it (none: a quote that is not as it should be). -/
structure Nx where
  w : Bs
  q : Bool
  rest : Option Bs
def nx : Bs → Option Nx
  | [] => none
  | c :: t => some (if c = 61 then ⟨[61], false, some t⟩ else if c = 34 then (match qt t with | some p => ⟨p.1, true, some p.2⟩ | none => ⟨[], true, none⟩) else ⟨tw (c :: t), false, some (dw (c :: t))⟩)
/-- What next returns: the word, its place, whether it was quoted, where it ends. -/
structure NR where
  s : ByteArray
  at_ : Int
  q : Bool
  fin : Int
def nextR (s : ByteArray) (i : Nat) : NR :=
  match nx (skipB ((bl s).drop i)) with
  | none => ⟨⟨#[]⟩, 0, false, 0⟩
  | some x => ⟨mkS x.w, (s.size : Int) - (skipB ((bl s).drop i)).length, x.q, match x.rest with | some r => (s.size : Int) - r.length | none => -1⟩

theorem skipB_cons32 (l : Bs) : skipB (32 :: l) = skipB l := by unfold skipB; rw [List.dropWhile_cons]; simp
theorem skipB_cons_ne {c : UInt8} (h : c ≠ 32) (l : Bs) : skipB (c :: l) = c :: l := by unfold skipB; rw [List.dropWhile_cons]; simp [h]
theorem tw_cons {c : UInt8} (h : c ≠ 32) (h' : c ≠ 61) (l : Bs) : tw (c :: l) = c :: tw l := by unfold tw; rw [List.takeWhile_cons]; simp [h, h']
theorem dw_cons {c : UInt8} (h : c ≠ 32) (h' : c ≠ 61) (l : Bs) : dw (c :: l) = dw l := by unfold dw; rw [List.dropWhile_cons]; simp [h, h']
theorem tw_stop {c : UInt8} (h : c = 32 ∨ c = 61) (l : Bs) : tw (c :: l) = [] := by unfold tw; rw [List.takeWhile_cons]; rcases h with rfl | rfl <;> simp
theorem dw_stop {c : UInt8} (h : c = 32 ∨ c = 61) (l : Bs) : dw (c :: l) = c :: l := by unfold dw; rw [List.dropWhile_cons]; rcases h with rfl | rfl <;> simp
theorem skipB_len (l : Bs) : (skipB l).length ≤ l.length := by unfold skipB; exact (List.dropWhile_suffix _).length_le
theorem dw_len (l : Bs) : (dw l).length ≤ l.length := by unfold dw; exact (List.dropWhile_suffix _).length_le

theorem bl_extract (s : ByteArray) (i j : Nat) (h : i ≤ j) (hj : j ≤ s.size) : bl (s.extract i j) = ((bl s).drop i).take (j - i) := by
  unfold bl
  rw [Lib.extract_data]

/-- The loop over blanks: where it stands. -/
def SInv (s : ByteArray) (i0 k : Nat) : Prop := skipB ((bl s).drop i0) = skipB ((bl s).drop k)
theorem SInv.step {s : ByteArray} {i0 k : Nat} (h : SInv s i0 k) (hk : k < s.size) (e : s[k] = 32) : SInv s i0 (k + 1) := by
  unfold SInv at h ⊢
  rw [h, drop_at s k hk, e, skipB_cons32]
/-- The loop over a word's bytes. -/
def WInv (s : ByteArray) (k e : Nat) : Prop := tw ((bl s).drop k) = bl (s.extract k e) ++ tw ((bl s).drop e) ∧ dw ((bl s).drop k) = dw ((bl s).drop e)
theorem WInv.start (s : ByteArray) (k : Nat) (h : k ≤ s.size) : WInv s k k := by
  unfold WInv
  rw [bl_extract s k k (Nat.le_refl _) h]
  simp
theorem WInv.step {s : ByteArray} {k e : Nat} (h : WInv s k e) (hk : k ≤ e) (he : e < s.size) (h1 : s[e] ≠ 32) (h2 : s[e] ≠ 61) : WInv s k (e + 1) := by
  unfold WInv at h ⊢
  rw [h.1, h.2, drop_at s e he, tw_cons h1 h2, dw_cons h1 h2, bl_extract s k e hk (by omega), bl_extract s k (e + 1) (by omega) (by omega)]
  refine ⟨?_, rfl⟩
  rw [show e + 1 - k = (e - k) + 1 by omega, List.take_succ_eq_append_getElem (by rw [drop_len]; omega)]
  simp only [List.getElem_drop, List.append_assoc, List.cons_append, List.nil_append]
  congr 2
  have : k + (e - k) = e := by omega
  simp only [this]
  rfl

theorem nextR_nil {s : ByteArray} {i k : Nat} (h : SInv s i k) (hk : s.size ≤ k) : nextR s i = ⟨⟨#[]⟩, 0, false, 0⟩ := by
  unfold SInv at h
  unfold nextR
  rw [h, drop_end s k hk]
  rfl
theorem nextR_at {s : ByteArray} {i k : Nat} (h : SInv s i k) (hk : k < s.size) (h32 : s[k] ≠ 32) :
    nextR s i = (match nx (s[k] :: (bl s).drop (k + 1)) with
      | none => ⟨⟨#[]⟩, 0, false, 0⟩
      | some x => ⟨mkS x.w, (k : Int), x.q, match x.rest with | some r => (s.size : Int) - r.length | none => -1⟩) := by
  unfold SInv at h
  unfold nextR
  rw [h, drop_at s k hk, skipB_cons_ne h32]
  have e : (s.size : Int) - ((s[k] :: (bl s).drop (k + 1)).length : Nat) = (k : Int) := by
    rw [List.length_cons, drop_len]; omega
  rw [e]
theorem nextR_sign {s : ByteArray} {i k : Nat} (h : SInv s i k) (hk : k < s.size) (e : s[k] = 61) : nextR s i = ⟨⟨#[61]⟩, (k : Int), false, (k : Int) + 1⟩ := by
  rw [nextR_at h hk (by rw [e]; decide), e]
  simp only [nx, if_true]
  have e' : (s.size : Int) - (((bl s).drop (k + 1)).length : Nat) = (k : Int) + 1 := by rw [drop_len]; omega
  rw [e']
  rfl
theorem nextR_quote {s : ByteArray} {i k : Nat} (h : SInv s i k) (hk : k < s.size) (e : s[k] = 34) : nextR s i = ⟨(quotedR s (k + 1)).1, (k : Int), true, (quotedR s (k + 1)).2⟩ := by
  rw [nextR_at h hk (by rw [e]; decide), e]
  have : (34 : UInt8) ≠ 61 := by decide
  simp only [nx, if_neg this, if_true]
  cases hq : qt ((bl s).drop (k + 1)) with
  | none => rw [quotedR_none hq]; rfl
  | some p => rw [quotedR_some hq]
theorem nextR_plain {s : ByteArray} {i k e : Nat} (h : SInv s i k) (hk : k < s.size) (h32 : s[k] ≠ 32) (h61 : s[k] ≠ 61) (h34 : s[k] ≠ 34) (hw : WInv s k e) (hke : k ≤ e) (hes : e ≤ s.size)
    (hend : ∀ h : e < s.size, s[e] = 32 ∨ s[e] = 61) : nextR s i = ⟨s.extract k e, (k : Int), false, (e : Int)⟩ := by
  rw [nextR_at h hk h32]
  simp only [nx, if_neg h61, if_neg h34]
  rw [← drop_at s k hk, hw.1, hw.2]
  have e1 : tw ((bl s).drop e) = [] ∧ dw ((bl s).drop e) = (bl s).drop e := by
    by_cases he : e < s.size
    · rw [drop_at s e he]
      exact ⟨tw_stop (hend he) _, dw_stop (hend he) _⟩
    · rw [drop_end s e (by omega)]
      exact ⟨rfl, rfl⟩
  rw [e1.1, e1.2, List.append_nil, mkS_bl, drop_len]
  congr 1
  omega
end Go.Proofs.YtojppincaalibaaGreatDoor
