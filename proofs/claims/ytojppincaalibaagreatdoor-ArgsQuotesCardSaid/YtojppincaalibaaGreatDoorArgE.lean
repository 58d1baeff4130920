/- Plain Lean: how package args writes a text in quotes. -/
import Derived.Test.YtojppincaalibaaGreatDoorArgP
import Derived.Lib.Bytealg
set_option linter.unusedVariables false
set_option linter.unusedSimpArgs false
namespace Go.Proofs.YtojppincaalibaaGreatDoor

def isSp (c : UInt8) : Bool := c == 10 || c == 34 || c == 42
def xbU (c : UInt8) : UInt8 := if c = 10 then 110 else c
def esc1 (c : UInt8) : Bs := if isSp c then [42, xbU c] else [c]
def escL (l : Bs) : Bs := l.flatMap esc1
def cntSp (l : Bs) : Nat := (l.filter isSp).length
theorem escL_cons (c : UInt8) (l : Bs) : escL (c :: l) = esc1 c ++ escL l := by simp [escL]
theorem escL_append (a b : Bs) : escL (a ++ b) = escL a ++ escL b := by simp [escL]
theorem escL_len (l : Bs) : (escL l).length = l.length + cntSp l := by
  induction l with
  | nil => rfl
  | cons c l ih =>
    rw [escL_cons, List.length_append, ih]
    unfold cntSp esc1
    cases h : isSp c <;> simp [List.filter_cons, h] <;> omega
theorem cntSp_zero {l : Bs} (h : cntSp l = 0) : escL l = l := by
  induction l with
  | nil => rfl
  | cons c l ih =>
    have hc : isSp c = false := by
      cases h' : isSp c with
      | false => rfl
      | true => simp [cntSp, List.filter_cons, h'] at h
    rw [escL_cons, ih (by simpa [cntSp, List.filter_cons, hc] using h)]
    simp [esc1, hc]
theorem cntSp_le (l : Bs) : cntSp l ≤ l.length := List.length_filter_le _ _
theorem cntSp_eq (l : Bs) : cntSp l = Lib.countByte l 10 + Lib.countByte l 34 + Lib.countByte l 42 := by
  induction l with
  | nil => rfl
  | cons c l ih =>
    unfold Lib.countByte at ih ⊢
    rw [List.count_cons, List.count_cons, List.count_cons]
    have hs : cntSp (c :: l) = cntSp l + (if isSp c then 1 else 0) := by
      unfold cntSp
      cases h : isSp c <;> simp [List.filter_cons, h]
    rw [hs, ih]
    unfold isSp
    by_cases h1 : c = 10
    · subst h1; simp; omega
    · by_cases h2 : c = 34
      · subst h2; simp; omega
      · by_cases h3 : c = 42
        · subst h3; simp; omega
        · simp [h1, h2, h3]
theorem cntSp_take_succ (l : Bs) (i : Nat) (h : i < l.length) : cntSp (l.take (i + 1)) = cntSp (l.take i) + (if isSp l[i] then 1 else 0) := by
  rw [List.take_succ_eq_append_getElem h]
  unfold cntSp
  rw [List.filter_append, List.length_append]
  cases hs : isSp l[i] <;> simp [List.filter_cons, hs]
theorem escL_take_succ (l : Bs) (i : Nat) (h : i < l.length) : escL (l.take (i + 1)) = escL (l.take i) ++ esc1 l[i] := by
  rw [List.take_succ_eq_append_getElem h, escL_append]
  simp [escL]
end Go.Proofs.YtojppincaalibaaGreatDoor
