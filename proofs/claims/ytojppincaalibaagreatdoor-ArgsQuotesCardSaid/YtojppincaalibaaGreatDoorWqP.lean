/- Plain Lean: quoted words with blanks ahead of each are read as these words. -/
import Derived.Test.YtojppincaalibaaGreatDoorRfA
set_option linter.unusedVariables false
set_option linter.unusedSimpArgs false
namespace Go.Proofs.YtojppincaalibaaGreatDoor

theorem odd_ok {c : UInt8} (h : odd c = false) : c = 10 ∨ badByte c = false := by
  unfold odd at h
  unfold badByte
  by_cases e : c = 10
  · exact .inl e
  · right
    simpa [e] using h
theorem cl_good {s : Bs} (h : ∀ b ∈ s, odd b = false) : cl s = s := by
  unfold cl
  conv => rhs; rw [← List.map_id s]
  apply List.map_congr_left
  intro b hb
  unfold cl1
  rw [h b hb]
  rfl
theorem rq_quote (acc rest : Bs) : rq acc (34 :: rest) = some (acc, rest) := by
  cases rest with
  | nil => unfold rq; rw [if_neg (by decide), if_pos rfl]
  | cons d t => unfold rq; rw [if_neg (by decide), if_pos rfl]
theorem rq_esc : ∀ (s acc rest : Bs), (∀ b ∈ s, odd b = false) → rq acc (escL s ++ 34 :: rest) = some (acc ++ s, rest)
  | [], acc, rest, _ => by
    rw [List.append_nil]
    exact rq_quote acc rest
  | c :: s, acc, rest, h => by
    have hc := h c List.mem_cons_self
    have ih := fun a => rq_esc s a rest fun b hb => h b (List.mem_cons_of_mem _ hb)
    rw [escL_cons, List.append_assoc]
    cases hs : isSp c with
    | true =>
      have e : esc1 c = [42, xbU c] := by unfold esc1; rw [hs]; rfl
      rw [e]
      show rq acc (42 :: xbU c :: (escL s ++ 34 :: rest)) = _
      unfold rq
      have hx : xbU c = 34 ∨ xbU c = 42 ∨ xbU c = 110 := by
        unfold isSp at hs
        simp only [Bool.or_eq_true, beq_iff_eq] at hs
        rcases hs with (rfl | rfl) | rfl
        · exact .inr (.inr rfl)
        · exact .inl rfl
        · exact .inr (.inl rfl)
      have hv : (if xbU c = 110 then (10 : UInt8) else xbU c) = c := by
        unfold isSp at hs
        simp only [Bool.or_eq_true, beq_iff_eq] at hs
        rcases hs with (rfl | rfl) | rfl
        · rfl
        · rfl
        · rfl
      rw [if_neg (by decide), if_neg (by decide), if_pos ⟨rfl, hx⟩, hv, ih]
      simp
    | false =>
      have e : esc1 c = [c] := by unfold esc1; rw [hs]; rfl
      rw [e]
      unfold isSp at hs
      simp only [Bool.or_eq_false_iff, beq_eq_false_iff_ne] at hs
      have hb : badByte c = false := (odd_ok hc).resolve_left hs.1.1
      obtain ⟨d, t, ht⟩ : ∃ d t, escL s ++ 34 :: rest = d :: t := by
        cases hl : escL s with
        | nil => exact ⟨_, _, rfl⟩
        | cons a b => exact ⟨_, _, rfl⟩
      have ih' := ih (acc ++ [c])
      rw [ht] at ih' ⊢
      show rq acc (c :: d :: t) = _
      unfold rq
      rw [if_neg (by rw [hb]; decide), if_neg hs.1.2, if_neg (fun h => hs.2 h.1), ih']
      simp
theorem skipB_rep (n : Nat) (c : UInt8) (t : Bs) (h : c ≠ 32) : skipB (List.replicate n 32 ++ c :: t) = c :: t := by
  unfold skipB
  induction n with
  | zero => simp [List.dropWhile, h]
  | succ n ih => rw [List.replicate_succ, List.cons_append, List.dropWhile_cons_of_pos (by simp)]; exact ih
theorem tw_app : ∀ (s rest : Bs), (∀ b ∈ s, b ≠ 32 ∧ b ≠ 61) → (rest = [] ∨ ∃ t, rest = 32 :: t) → tw (s ++ rest) = s ∧ dw (s ++ rest) = rest
  | [], rest, _, h => by
    rcases h with rfl | ⟨t, rfl⟩
    · exact ⟨rfl, rfl⟩
    · exact ⟨by simp [tw], by simp [dw]⟩
  | c :: s, rest, hs, h => by
    obtain ⟨i1, i2⟩ := tw_app s rest (fun b hb => hs b (List.mem_cons_of_mem _ hb)) h
    have hc := hs c List.mem_cons_self
    unfold tw dw at *
    rw [List.cons_append, List.takeWhile_cons_of_pos (by simpa using hc), List.dropWhile_cons_of_pos (by simpa using hc), i1, i2]
    exact ⟨rfl, rfl⟩
theorem rnext_quote (L n : Nat) (s rest : Bs) (hs : ∀ b ∈ s, odd b = false) (hr : rest = [] ∨ ∃ t, rest = 32 :: t) :
    (rnext L (List.replicate n 32 ++ (refQuoteL s ++ rest))).good = true ∧ (rnext L (List.replicate n 32 ++ (refQuoteL s ++ rest))).more = true ∧ (rnext L (List.replicate n 32 ++ (refQuoteL s ++ rest))).s = s ∧ (rnext L (List.replicate n 32 ++ (refQuoteL s ++ rest))).rest = rest := by
  unfold refQuoteL
  rw [cl_good hs]
  split
  · have e : 34 :: (escL s ++ [34]) ++ rest = 34 :: (escL s ++ 34 :: rest) := by simp
    unfold rnext
    rw [e, skipB_rep n 34 _ (by decide)]
    simp only [rq_esc s [] rest hs]
    rw [if_neg (by decide), if_neg (by decide)]
    refine ⟨?_, rfl, by simp, rfl⟩
    show endOk rest = true
    rcases hr with rfl | ⟨t, rfl⟩
    · rfl
    · rfl
  · rename_i hq
    rw [not_or, Bool.not_eq_true, List.any_eq_false] at hq
    obtain ⟨hne, hno⟩ := hq
    have hb : ∀ b ∈ s, b ≠ 10 ∧ b ≠ 32 ∧ b ≠ 34 ∧ b ≠ 61 ∧ b ≠ 42 := fun b hb => by
      have := hno b hb
      unfold rqSp at this
      simp only [Bool.or_eq_true, beq_iff_eq, not_or] at this
      exact ⟨this.1.1.1.1, this.1.1.1.2, this.1.1.2, this.1.2, this.2⟩
    have hes : escL s = s := by
      have : ∀ l : Bs, (∀ b ∈ l, isSp b = false) → escL l = l := by
        intro l
        induction l with
        | nil => intro _; rfl
        | cons a l ih =>
          intro h
          rw [escL_cons, ih fun b hb => h b (List.mem_cons_of_mem _ hb)]
          unfold esc1
          rw [h a List.mem_cons_self]
          rfl
      refine this s fun b hb' => ?_
      obtain ⟨k1, k2, k3, k4, k5⟩ := hb b hb'
      unfold isSp
      simp [k1, k3, k5]
    rw [hes]
    have htw := tw_app s rest (fun b h => ⟨(hb b h).2.1, (hb b h).2.2.2.1⟩) hr
    have h33 : s.any bad33 = false := by
      rw [List.any_eq_false]
      intro b h
      have k := (odd_ok (hs b h)).resolve_left (hb b h).1
      have k2 := (hb b h).2.1
      unfold badByte at k
      unfold bad33
      simp only [Bool.or_eq_false_iff, decide_eq_false_iff_not] at k
      simp only [Bool.or_eq_true, decide_eq_true_eq, not_or]
      refine ⟨fun hlt => k2 ?_, k.2⟩
      apply UInt8.toNat_inj.1
      show b.toNat = 32
      omega
    cases s with
    | nil => exact absurd rfl hne
    | cons c t =>
      have hc := hb c List.mem_cons_self
      unfold rnext
      rw [List.cons_append, skipB_rep n c _ hc.2.1]
      simp only []
      rw [List.cons_append] at htw
      rw [if_neg hc.2.2.2.1, if_pos hc.2.2.1, htw.1, htw.2, h33]
      exact ⟨rfl, rfl, rfl, rfl⟩

/-- A line of words, each with blanks ahead. -/
def lineL : List (Nat × Bs) → Bs
  | [] => []
  | p :: l => List.replicate p.1 32 ++ (quoteL p.2 ++ lineL l)
theorem lineL_start : ∀ l : List (Nat × Bs), (∀ p ∈ l, 1 ≤ p.1) → lineL l = [] ∨ ∃ t, lineL l = 32 :: t
  | [], _ => .inl rfl
  | p :: l, h => by
    have := h p List.mem_cons_self
    obtain ⟨n, hn⟩ : ∃ n, p.1 = n + 1 := ⟨p.1 - 1, by omega⟩
    exact .inr ⟨List.replicate n 32 ++ (quoteL p.2 ++ lineL l), by rw [lineL, hn]; rfl⟩
theorem lineL_long : ∀ l : List (Nat × Bs), (∀ p ∈ l, 1 ≤ p.1) → l.length ≤ (lineL l).length
  | [], _ => Nat.le_refl _
  | p :: l, h => by
    have h1 := h p List.mem_cons_self
    have h2 := lineL_long l fun q hq => h q (List.mem_cons_of_mem _ hq)
    simp only [lineL, List.length_append, List.length_replicate, List.length_cons]
    omega
theorem rwGo_line (L : Nat) : ∀ (f : Nat) (l : List (Nat × Bs)), (∀ p ∈ l, 1 ≤ p.1) → (∀ p ∈ l, ∀ b ∈ p.2, odd b = false) → l.length < f → ∃ x, rwGo L f (lineL l) = some x ∧ x.map (·.1) = l.map (·.2)
  | 0, l, _, _, h => absurd h (Nat.not_lt_zero _)
  | f + 1, [], _, _, _ => ⟨[], rfl, rfl⟩
  | f + 1, p :: l, h1, h2, hf => by
    obtain ⟨x, hx, hm⟩ := rwGo_line L f l (fun q hq => h1 q (List.mem_cons_of_mem _ hq)) (fun q hq => h2 q (List.mem_cons_of_mem _ hq)) (by simp at hf; omega)
    obtain ⟨g1, g2, g3, g4⟩ := rnext_quote L p.1 p.2 (lineL l) (h2 p List.mem_cons_self) (lineL_start l fun q hq => h1 q (List.mem_cons_of_mem _ hq))
    rw [← quoteL_eq] at g1 g2 g3 g4
    refine ⟨(p.2, (rnext L (List.replicate p.1 32 ++ (quoteL p.2 ++ lineL l))).q) :: x, ?_, ?_⟩
    · rw [lineL, rwGo]
      simp only [g1, g2, g3, g4, hx, Bool.not_true, Bool.false_eq_true, if_false, Option.map_some]
    · simp [hm]
theorem words_line (l : List (Nat × Bs)) (h1 : ∀ p ∈ l, 1 ≤ p.1) (h2 : ∀ p ∈ l, ∀ b ∈ p.2, odd b = false) (hl : (lineL l).length ≤ 1000) :
    (refWordsR (lineL l)).2 = 0 ∧ (refWordsR (lineL l)).1.map (·.1) = l.map (·.2) := by
  obtain ⟨x, hx, hm⟩ := rwGo_line (lineL l).length ((lineL l).length + 1) l h1 h2 (by have := lineL_long l h1; omega)
  unfold refWordsR
  rw [if_neg (by omega), hx]
  exact ⟨rfl, hm⟩
end Go.Proofs.YtojppincaalibaaGreatDoor
