/- Plain Lean: numbers, quotes and words as the reference reads them; that package args does the same. -/
import Derived.Test.YtojppincaalibaaGreatDoorWdC
import Derived.Lib.ParseIntBCases
set_option linter.unusedVariables false
set_option linter.unusedSimpArgs false
namespace Go.Proofs.YtojppincaalibaaGreatDoor

/-! ### Numbers -/
def isDig (c : UInt8) : Bool := decide (48 ≤ c.toNat) && decide (c.toNat ≤ 57)
def rnStep (v : Int) (c : UInt8) : Int := if 2147483648 < v * 10 + ((c.toNat : Int) - 48) then 2147483649 else v * 10 + ((c.toNat : Int) - 48)
def refNumR (l : Bs) : Int × Int :=
  let m := decide (l.head? = some 45)
  let d := if m then l.tail else l
  if d = [] then (0, 250) else if d.all isDig = false then (0, 250) else
  let v := d.foldl rnStep 0
  let u := if m then -v else v
  if u < -2147483648 ∨ 2147483647 < u then (0, 250) else (u, 0)
theorem dig_mem (c : UInt8) : digitsL.contains c = isDig c := by
  have h : ∀ n : Fin 256, digitsL.contains (UInt8.ofNat n.val) = isDig (UInt8.ofNat n.val) := by decide +kernel
  have := h ⟨c.toNat, UInt8.toNat_lt c⟩
  simpa using this
theorem dropWhile_nil_iff {α : Type} (p : α → Bool) : ∀ l : List α, l.dropWhile p = [] ↔ l.all p = true
  | [] => by simp
  | x :: xs => by
    rw [List.dropWhile_cons]
    by_cases h : p x = true
    · rw [if_pos h, dropWhile_nil_iff p xs]; simp [h]
    · rw [if_neg h]; simp [h]
theorem trimS_nil (d : Bs) : Lib.trimS d digitsL = [] ↔ d.all isDig = true := by
  unfold Lib.trimS Lib.trimLeftS Lib.trimRightS
  have e : (fun b : UInt8 => digitsL.contains b) = isDig := funext dig_mem
  rw [e, dropWhile_nil_iff]
  constructor
  · intro h
    have h2 : (d.reverse.dropWhile isDig).all isDig = true := by simpa using h
    have h3 : d.reverse.dropWhile isDig = [] := by
      cases hd : d.reverse.dropWhile isDig with
      | nil => rfl
      | cons x xs =>
        have := List.head?_dropWhile_not isDig d.reverse
        rw [hd] at this h2
        simp at this h2
        rw [h2.1] at this
        cases this
    rw [dropWhile_nil_iff] at h3
    simpa using h3
  · intro h
    have h3 : d.reverse.dropWhile isDig = [] := (dropWhile_nil_iff _ _).2 (by simpa using h)
    rw [h3]; rfl
def valN (a : Nat) (d : Bs) : Nat := d.foldl (fun v c => v * 10 + (c.toNat - 48)) a
theorem valN_ge : ∀ (d : Bs) (a : Nat), a ≤ valN a d
  | [], a => Nat.le_refl _
  | c :: d, a => by
    show a ≤ valN (a * 10 + (c.toNat - 48)) d
    have := valN_ge d (a * 10 + (c.toNat - 48))
    omega
theorem parse_val (M : Nat) (hM : M < 1844674407370955162) : ∀ (d : Bs) (a : Nat), d.all isDig = true → a ≤ M → Lib.parseUintM M a d = if valN a d ≤ M then .ok (valN a d) else .range
  | [], a, _, ha => by simp [Lib.parseUintM, valN, ha]
  | c :: d, a, hd, ha => by
    rw [List.all_cons, Bool.and_eq_true] at hd
    have hc : 48 ≤ c.toNat ∧ c.toNat ≤ 57 := by have := hd.1; unfold isDig at this; simpa using this
    rw [Lib.parseUintM, if_pos hc, if_neg (by omega)]
    have hv : valN a (c :: d) = valN (a * 10 + (c.toNat - 48)) d := rfl
    have hge := valN_ge d (a * 10 + (c.toNat - 48))
    by_cases h : M < a * 10 + (c.toNat - 48)
    · rw [if_pos h, if_neg (by rw [hv]; omega)]
    · rw [if_neg h, parse_val M hM d _ hd.2 (by omega), hv]
def sat (x : Nat) : Int := if x ≤ 2147483648 then x else 2147483649
theorem rn_fold : ∀ (d : Bs) (a : Nat), d.all isDig = true → d.foldl rnStep (sat a) = sat (valN a d)
  | [], a, _ => rfl
  | c :: d, a, hd => by
    rw [List.all_cons, Bool.and_eq_true] at hd
    have hc : 48 ≤ c.toNat ∧ c.toNat ≤ 57 := by have := hd.1; unfold isDig at this; simpa using this
    have e : rnStep (sat a) c = sat (a * 10 + (c.toNat - 48)) := by
      unfold rnStep sat
      by_cases h : a ≤ 2147483648
      · rw [if_pos h]
        by_cases h2 : a * 10 + (c.toNat - 48) ≤ 2147483648
        · rw [if_pos h2, if_neg (by omega)]; omega
        · rw [if_neg h2, if_pos (by omega)]
      · rw [if_neg h, if_pos (by omega), if_neg (by omega)]
    rw [List.foldl_cons, e, rn_fold d _ hd.2]
    rfl
theorem numR_eq (l : Bs) : numR l = refNumR l := by
  unfold numR refNumR digs Lib.trimPrefix
  cases l with
  | nil => simp
  | cons c r =>
    by_cases hc : c = 45
    · subst hc
      have e1 : Lib.hasPrefix (45 :: r) [45] = true := by simp [Lib.hasPrefix]
      have e2 : (decide ((45 :: r).head? = some (45 : UInt8))) = true := by simp
      simp only [e1, e2, if_true, List.tail_cons, List.length_cons, List.length_nil, List.drop_succ_cons, List.drop_zero]
      by_cases h0 : r = []
      · rw [if_pos (.inl h0), if_pos h0]
      · rw [if_neg h0]
        by_cases hd : r.all isDig = true
        · rw [if_neg (by simp only [not_or]; exact ⟨h0, fun h => h ((trimS_nil r).2 hd)⟩), if_neg (by rw [hd]; simp), Lib.parseIntB_minus]
          have hp : Lib.parseUintB 32 r = if valN 0 r ≤ 4294967295 then .ok (valN 0 r) else .range := by
            unfold Lib.parseUintB
            rw [if_neg h0]
            exact parse_val 4294967295 (by omega) r 0 hd (by omega)
          have hf := rn_fold r 0 hd
          have hs0 : sat 0 = 0 := rfl
          rw [hs0] at hf
          rw [hp, hf]
          unfold sat
          by_cases h1 : valN 0 r ≤ 2147483648
          · rw [if_pos (show valN 0 r ≤ 4294967295 by omega), if_pos h1]
            have : ¬ (-(valN 0 r : Int) < -2147483648 ∨ 2147483647 < -(valN 0 r : Int)) := by omega
            rw [if_neg this]
            simp only [Lib.signedC]
            rw [if_neg (by omega)]
          · rw [if_neg h1, if_pos (show (-2147483649 : Int) < -2147483648 ∨ 2147483647 < -2147483649 by omega)]
            by_cases h2 : valN 0 r ≤ 4294967295
            · rw [if_pos h2]
              simp only [Lib.signedC]
              rw [if_pos (by omega)]
            · rw [if_neg h2]; rfl
        · rw [if_pos (.inr (fun h => hd ((trimS_nil r).1 h))), if_pos (by simpa using hd)]
    · have e1 : Lib.hasPrefix (c :: r) [45] = false := by
        unfold Lib.hasPrefix
        simp [List.isPrefixOf]
        exact Ne.symm hc
      have e2 : (decide ((c :: r).head? = some (45 : UInt8))) = false := by simp [hc]
      simp only [e1, e2, Bool.false_eq_true, if_false]
      by_cases hd : (c :: r).all isDig = true
      · rw [if_neg (by simp only [not_or]; exact ⟨by simp, fun h => h ((trimS_nil _).2 hd)⟩), if_neg (by simp), if_neg (by rw [hd]; simp)]
        have hc9 : 48 ≤ c.toNat ∧ c.toNat ≤ 57 := by
          rw [List.all_cons, Bool.and_eq_true] at hd
          have := hd.1; unfold isDig at this; simpa using this
        rw [Lib.parseIntB_plain 32 c r (by omega) (by omega)]
        have hp : Lib.parseUintB 32 (c :: r) = if valN 0 (c :: r) ≤ 4294967295 then .ok (valN 0 (c :: r)) else .range := by
          unfold Lib.parseUintB
          rw [if_neg (by simp)]
          exact parse_val 4294967295 (by omega) (c :: r) 0 hd (by omega)
        have hf := rn_fold (c :: r) 0 hd
        have hs0 : sat 0 = 0 := rfl
        rw [hs0] at hf
        rw [hp, hf]
        unfold sat
        generalize valN 0 (c :: r) = V
        by_cases h1 : V ≤ 2147483648
        · rw [if_pos (show V ≤ 4294967295 by omega), if_pos h1]
          simp only [Lib.signlessC]
          by_cases h3 : V = 2147483648
          · rw [if_pos (by omega), if_pos (by omega)]
          · rw [if_neg (by omega), if_neg (by omega)]
        · rw [if_neg h1, if_pos (show (2147483649 : Int) < -2147483648 ∨ (2147483647 : Int) < 2147483649 by omega)]
          by_cases h2 : V ≤ 4294967295
          · rw [if_pos h2]
            simp only [Lib.signlessC]
            rw [if_pos (by omega)]
          · rw [if_neg h2]; rfl
      · rw [if_pos (.inr (fun h => hd ((trimS_nil _).1 h))), if_neg (by simp), if_pos (by simpa using hd)]

/-! ### Quotes -/
def rqSp (c : UInt8) : Bool := c == 10 || c == 32 || c == 34 || c == 61 || c == 42
def refQuoteL (l : Bs) : Bs := if l = [] ∨ (cl l).any rqSp then 34 :: (escL (cl l) ++ [34]) else escL (cl l)
theorem quoteL_eq (l : Bs) : quoteL l = refQuoteL l := by
  unfold quoteL refQuoteL quoL
  have hc : Lib.containsAny (cl l) spcs = (cl l).any rqSp := by
    have hs : ∀ c : UInt8, spcs.contains c = rqSp c := fun c => by
      have h : ∀ n : Fin 256, spcs.contains (UInt8.ofNat n.val) = rqSp (UInt8.ofNat n.val) := by decide +kernel
      have := h ⟨c.toNat, UInt8.toNat_lt c⟩
      simpa using this
    unfold Lib.containsAny
    generalize cl l = m
    induction m with
    | nil => rfl
    | cons b m ih =>
      have hge := Lib.indexAny_ge spcs m
      rw [List.any_cons, ← ih, Lib.indexAny, hs]
      cases rqSp b with
      | true => rfl
      | false =>
        simp only [Bool.false_eq_true, if_false, Bool.false_or]
        by_cases e : Lib.indexAny m spcs = -1
        · rw [e]; rfl
        · have : (Lib.indexAny m spcs == -1) = false := by simpa using e
          rw [this]
          simp only [Bool.false_eq_true, if_false, decide_eq_decide]
          omega
  rw [hc]
  have he : (cl l).isEmpty = l.isEmpty := by unfold cl; cases l <;> rfl
  rw [he]
  cases l with
  | nil => rfl
  | cons c t =>
    cases h : (cl (c :: t)).any rqSp with
    | true => rw [if_neg (by simp), if_pos (.inr rfl)]
    | false =>
      rw [if_pos ⟨rfl, rfl⟩, if_neg (by simp)]
      refine (cntSp_zero ?_).symm
      unfold cntSp
      rw [List.length_eq_zero_iff, List.filter_eq_nil_iff]
      intro b hb
      rw [List.any_eq_false] at h
      have := h b hb
      unfold rqSp at this
      unfold isSp
      simp only [Bool.or_eq_true, not_or] at this ⊢
      exact ⟨⟨this.1.1.1.1, this.1.1.2⟩, this.2⟩

/-! ### Words -/
/-- Behind a quote, as the reference reads it. -/
def rq : Bs → Bs → Option (Bs × Bs)
  | acc, [] => none
  | acc, [c] => if badByte c then none else if c = 34 then some (acc, []) else none
  | acc, c :: d :: t =>
    if badByte c then none
    else if c = 34 then some (acc, d :: t)
    else if c = 42 ∧ (d = 34 ∨ d = 42 ∨ d = 110) then rq (acc ++ [if d = 110 then 10 else d]) t
    else rq (acc ++ [c]) (d :: t)
def endOk : Bs → Bool
  | [] => true
  | d :: _ => d == 32 || d == 61
structure RN where
  s : Bs
  q : Bool
  fr : Int
  tt : Int
  more : Bool
  good : Bool
  rest : Bs
def bad33 (c : UInt8) : Bool := decide (c.toNat < 33) || decide (126 < c.toNat)
def rnext (L : Nat) (r : Bs) : RN :=
  match skipB r with
  | [] => ⟨[], false, 0, 0, false, true, []⟩
  | c :: t =>
    if c = 61 then ⟨[61], false, (L : Int) - (t.length + 1), (L : Int) - t.length, true, true, t⟩
    else if c ≠ 34 then (if (tw (c :: t)).any bad33 then ⟨[], false, (L : Int) - (t.length + 1), 0, true, false, []⟩ else ⟨tw (c :: t), false, (L : Int) - (t.length + 1), (L : Int) - (dw (c :: t)).length, true, true, dw (c :: t)⟩)
    else match rq [] t with
      | none => ⟨[], true, (L : Int) - (t.length + 1), 0, true, false, []⟩
      | some p => ⟨p.1, true, (L : Int) - (t.length + 1), (L : Int) - p.2.length, true, endOk p.2, p.2⟩
def rwGo (L : Nat) : Nat → Bs → Option (List (Bs × Bool))
  | 0, _ => none
  | f + 1, r => let w := rnext L r; if !w.good then none else if !w.more then some [] else (rwGo L f w.rest).map ((w.s, w.q) :: ·)
def refWordsR (l : Bs) : List (Bs × Bool) × Int :=
  if 1000 < l.length then ([], 2) else match rwGo l.length (l.length + 1) l with
  | none => ([], 250)
  | some x => (x, 0)

theorem rq_acc : ∀ (l acc : Bs), rq acc l = (rq [] l).map fun p => (acc ++ p.1, p.2)
  | [], acc => rfl
  | [c], acc => by
    unfold rq
    split
    · rfl
    · split <;> simp
  | c :: d :: t, acc => by
    unfold rq
    split
    · rfl
    · split
      · simp
      · split
        · rw [rq_acc t (acc ++ [_]), rq_acc t ([] ++ [_])]
          simp [Function.comp_def]
        · rw [rq_acc (d :: t) (acc ++ [c]), rq_acc (d :: t) ([] ++ [c])]
          simp [Function.comp_def]
/-- The two read a quoted word alike where no byte is bad. -/
theorem qt_rq : ∀ (l : Bs), l.any badByte = false → qt l = (rq [] l).bind fun p => if endOk p.2 then some p else none
  | [], _ => rfl
  | [c], h => by
    have hc : badByte c = false := by simpa using h
    unfold qt rq
    rw [hc]
    by_cases e : c = 34
    · subst e; rfl
    · rw [if_neg e]; simp [e]
  | c :: d :: t, h => by
    rw [List.any_cons, Bool.or_eq_false_iff] at h
    have hd : badByte d = false := by have := h.2; rw [List.any_cons, Bool.or_eq_false_iff] at this; exact this.1
    have ht : t.any badByte = false := by have := h.2; rw [List.any_cons, Bool.or_eq_false_iff] at this; exact this.2
    have hd0 : d ≠ 0 := by intro e; subst e; revert hd; decide
    unfold qt rq
    rw [h.1]
    simp only [Bool.false_eq_true, if_false]
    by_cases e : c = 34
    · rw [if_pos e, if_pos e]
      simp only [Option.bind_some, endOk]
      by_cases e2 : d = 32
      · simp [e2]
      · by_cases e3 : d = 61
        · simp [e3]
        · simp [e2, e3, hd0]
    · rw [if_neg e, if_neg e]
      by_cases e2 : c = 42 ∧ (d = 34 ∨ d = 42)
      · rw [if_pos e2, if_pos ⟨e2.1, e2.2.elim .inl fun h => .inr (.inl h)⟩, qt_rq t ht]
        have : d ≠ 110 := by rcases e2.2 with h | h <;> rw [h] <;> decide
        rw [if_neg this, rq_acc t ([] ++ [d])]
        cases rq [] t with
        | none => rfl
        | some p => simp only [Option.bind_some, Option.map_some, List.nil_append]; split <;> simp
      · rw [if_neg e2]
        by_cases e3 : c = 42 ∧ d = 110
        · rw [if_pos e3, if_pos ⟨e3.1, .inr (.inr e3.2)⟩, qt_rq t ht, if_pos e3.2, rq_acc t ([] ++ [10])]
          cases rq [] t with
          | none => rfl
          | some p => simp only [Option.bind_some, Option.map_some, List.nil_append]; split <;> simp
        · rw [if_neg e3, if_neg (by
            rintro ⟨h1, h2 | h2 | h2⟩
            · exact e2 ⟨h1, .inl h2⟩
            · exact e2 ⟨h1, .inr h2⟩
            · exact e3 ⟨h1, h2⟩), qt_rq (d :: t) h.2, rq_acc (d :: t) ([] ++ [c])]
          cases rq [] (d :: t) with
          | none => rfl
          | some p => simp only [Option.bind_some, Option.map_some, List.nil_append]; split <;> simp
/-- What the reference reads of a quoted word has no bad byte. -/
theorem rq_bad : ∀ (l acc : Bs) (p : Bs × Bs), rq acc l = some p → l.any badByte = true → p.2.any badByte = true
  | [], acc, p, h, _ => by cases h
  | [c], acc, p, h, hb => by
    unfold rq at h
    split at h
    · cases h
    · rename_i hc
      simp [hc] at hb
  | c :: d :: t, acc, p, h, hb => by
    unfold rq at h
    split at h
    · cases h
    · rename_i hc
      rw [List.any_cons, Bool.or_eq_true] at hb
      have hb2 := hb.resolve_left hc
      split at h
      · cases h; exact hb2
      · split at h
        · rename_i hcd
          refine rq_bad t _ p h ?_
          rw [List.any_cons, Bool.or_eq_true] at hb2
          refine hb2.resolve_left ?_
          rcases hcd.2 with e | e | e <;> subst e <;> decide
        · exact rq_bad (d :: t) _ p h hb2
theorem rq_len : ∀ (l acc : Bs) (p : Bs × Bs), rq acc l = some p → p.2.length < l.length
  | [], acc, p, h => by cases h
  | [c], acc, p, h => by
    unfold rq at h
    split at h
    · cases h
    · split at h
      · cases h; simp
      · cases h
  | c :: d :: t, acc, p, h => by
    unfold rq at h
    split at h
    · cases h
    · split at h
      · cases h; simp
      · split at h
        · have := rq_len t _ p h; simp only [List.length_cons]; omega
        · have := rq_len (d :: t) _ p h; simp only [List.length_cons] at this ⊢; omega
theorem rq_suffix : ∀ (l acc : Bs) (p : Bs × Bs), rq acc l = some p → p.2 <:+ l
  | [], acc, p, h => by cases h
  | [c], acc, p, h => by
    unfold rq at h
    split at h
    · cases h
    · split at h
      · cases h; exact List.nil_suffix
      · cases h
  | c :: d :: t, acc, p, h => by
    unfold rq at h
    split at h
    · cases h
    · split at h
      · cases h; exact List.suffix_cons _ _
      · split at h
        · exact (rq_suffix t _ p h).trans ((List.suffix_cons _ _).trans (List.suffix_cons _ _))
        · exact (rq_suffix (d :: t) _ p h).trans (List.suffix_cons _ _)
theorem skip_bad (r : Bs) : (skipB r).any badByte = r.any badByte := by
  induction r with
  | nil => rfl
  | cons c t ih =>
    by_cases h : c = 32
    · subst h; rw [skipB_cons32, ih]; rfl
    · rw [skipB_cons_ne h]
theorem tw_dw (l : Bs) : tw l ++ dw l = l := List.takeWhile_append_dropWhile
theorem tw_bad (l : Bs) : (tw l).any bad33 = (tw l).any badByte := by
  have h : ∀ x, x ∈ tw l → bad33 x = badByte x := fun x hx => by
    have := List.all_eq_true.1 (List.all_takeWhile (l := l) (p := fun b : UInt8 => decide (b ≠ 32 ∧ b ≠ 61))) x hx
    simp only [decide_eq_true_eq] at this
    unfold bad33 badByte
    by_cases e : x.toNat = 32
    · exact absurd (UInt8.toNat_inj.1 e) this.1
    · congr 1
      simp only [decide_eq_decide]
      omega
  generalize tw l = m at h ⊢
  induction m with
  | nil => rfl
  | cons x xs ih => rw [List.any_cons, List.any_cons, h x List.mem_cons_self, ih fun y hy => h y (List.mem_cons_of_mem _ hy)]

/-- A line with a bad byte has no words. -/
theorem rw_bad (L : Nat) : ∀ (f : Nat) (r : Bs), r.any badByte = true → rwGo L f r = none
  | 0, r, _ => rfl
  | f + 1, r, h => by
    unfold rwGo
    rw [← skip_bad] at h
    unfold rnext
    cases hs : skipB r with
    | nil => rw [hs] at h; cases h
    | cons c t =>
      rw [hs] at h
      simp only
      by_cases h1 : c = 61
      · subst h1
        have ht : t.any badByte = true := by rw [List.any_cons] at h; exact h
        simp [rw_bad L f t ht]
      · rw [if_neg h1]
        by_cases h2 : c = 34
        · subst h2
          have ht : t.any badByte = true := by rw [List.any_cons] at h; exact h
          simp only [ne_eq, not_true_eq_false, if_false]
          cases hq : rq [] t with
          | none => rfl
          | some p =>
            have := rq_bad t [] p hq ht
            simp only
            cases endOk p.2 <;> simp [rw_bad L f p.2 this]
        · simp only [ne_eq, h2, not_false_eq_true, if_true]
          by_cases h3 : (tw (c :: t)).any bad33 = true
          · rw [if_pos h3]; rfl
          · rw [if_neg h3]
            have h4 : (dw (c :: t)).any badByte = true := by
              rw [← tw_dw (c :: t), List.any_append, Bool.or_eq_true] at h
              refine h.resolve_left ?_
              rw [← tw_bad]; exact h3
            simp [rw_bad L f _ h4]
/-- A line without a bad byte has the same words. -/
theorem rw_good (L : Nat) : ∀ (f : Nat) (r : Bs), r.any badByte = false → r.length < f → r.length ≤ L →
    rwGo L f r = if (wsGo L f r).any (fun x => decide (x.at_ < 0)) then none else some ((wsGo L f r).map fun x => (x.s, x.q))
  | 0, r, _, hf, _ => by omega
  | f + 1, r, h, hf, hL => by
    rw [← skip_bad] at h
    have hsl := skipB_len r
    unfold rwGo rnext wsGo
    cases hs : skipB r with
    | nil => simp [nx]
    | cons c t =>
      rw [hs] at h hsl
      rw [List.length_cons] at hsl
      rw [List.any_cons, Bool.or_eq_false_iff] at h
      have hnn : decide (((L : Int) - ((c :: t).length : Nat)) < 0) = false := by simp; omega
      simp only [nx]
      by_cases h1 : c = 61
      · subst h1
        simp only [if_true, Bool.not_true, Bool.false_eq_true, if_false, List.any_cons, hnn, Bool.false_or]
        rw [rw_good L f t h.2 (by omega) (by omega)]
        split <;> simp
      · simp only [if_neg h1]
        by_cases h2 : c = 34
        · subst h2
          simp only [ne_eq, not_true_eq_false, if_false, if_true]
          rw [qt_rq t h.2]
          cases hq : rq [] t with
          | none => simp
          | some p =>
            have hlen := rq_len t [] p hq
            simp only [Option.bind_some]
            cases he : endOk p.2 with
            | false => simp
            | true =>
              have hb2 : p.2.any badByte = false := by
                have hsuf : ∀ (l acc : Bs) (p : Bs × Bs), rq acc l = some p → p.2 <:+ l := rq_suffix
                cases hpb : p.2.any badByte with
                | false => rfl
                | true =>
                  obtain ⟨x, hx1, hx2⟩ := List.any_eq_true.1 hpb
                  have := (hsuf t [] p hq).subset hx1
                  have h3 := List.any_eq_false.1 h.2 x this
                  exact absurd hx2 h3
              simp only [if_true, Bool.not_true, Bool.false_eq_true, if_false, List.any_cons, hnn, Bool.false_or]
              rw [rw_good L f p.2 hb2 (by omega) (by omega)]
              split <;> simp
        · simp only [ne_eq, h2, not_false_eq_true, if_true, if_false]
          have h5 : (tw (c :: t)).any badByte = false ∧ (dw (c :: t)).any badByte = false := by
            have : (c :: t).any badByte = false := by rw [List.any_cons, h.1, h.2]; rfl
            rw [← tw_dw (c :: t), List.any_append, Bool.or_eq_false_iff] at this
            exact this
          have h7 : (tw (c :: t)).any bad33 = false := by rw [tw_bad, h5.1]
          simp only [h7, Bool.false_eq_true, if_false]
          have h6 : (dw (c :: t)).length ≤ t.length := by
            by_cases e32 : c = 32
            · exact absurd e32 (skip_head r c t hs)
            · rw [dw_cons e32 h1]; exact dw_len t
          simp only [Bool.not_true, Bool.false_eq_true, if_false, List.any_cons, hnn, Bool.false_or]
          rw [rw_good L f _ h5.2 (by omega) (by omega)]
          split <;> simp
theorem words_eq (l : Bs) : ((wordsR l).1.map (fun x => (x.s, x.q)), (wordsR l).2) = refWordsR l := by
  unfold wordsR refWordsR readableR
  by_cases h : 1000 < l.length
  · rw [if_pos h, if_pos h]; rfl
  · rw [if_neg h, if_neg h]
    cases hb : l.any badByte with
    | true => rw [rw_bad _ _ _ hb]; rfl
    | false =>
      rw [rw_good l.length (l.length + 1) l hb (by omega) (Nat.le_refl _)]
      simp only [Bool.false_eq_true, if_false, ne_eq, not_true_eq_false]
      split <;> rfl
end Go.Proofs.YtojppincaalibaaGreatDoor
