/- Plain Lean: a template written again, and read again. -/
import Derived.Test.YtojppincaalibaaGreatDoorArgS
import Derived.Lib.Join
set_option linter.unusedVariables false
set_option linter.unusedSimpArgs false
namespace Go.Proofs.YtojppincaalibaaGreatDoor

/-- Texts joined by a byte. -/
def jn (c : UInt8) : List Bs → Bs
  | [] => []
  | [a] => a
  | a :: b :: r => a ++ c :: jn c (b :: r)
theorem jn_join (c : UInt8) : ∀ l : List Bs, Lib.join l [c] = jn c l
  | [] => rfl
  | [a] => Lib.join_one a [c]
  | a :: b :: r => by
    have h := jn_join c (b :: r)
    unfold Lib.join at h ⊢
    unfold jn
    rw [← h]
    simp [List.intercalate, List.intersperse]
theorem mem_jn {c x : UInt8} : ∀ {l : List Bs}, x ∈ jn c l → x = c ∨ ∃ a ∈ l, x ∈ a
  | [], h => by cases h
  | [a], h => .inr ⟨a, List.mem_cons_self, h⟩
  | a :: b :: r, h => by
    unfold jn at h
    rcases List.mem_append.1 h with h | h
    · exact .inr ⟨a, List.mem_cons_self, h⟩
    · rcases List.mem_cons.1 h with h | h
      · exact .inl h
      · rcases mem_jn h with h | ⟨y, hy, h⟩
        · exact .inl h
        · exact .inr ⟨y, List.mem_cons_of_mem _ hy, h⟩
theorem spl_jn (c : UInt8) : ∀ l : List Bs, l ≠ [] → (∀ a ∈ l, a.count c = 0) → spl c (jn c l) = l
  | [], h, _ => absurd rfl h
  | [a], _, h => spl_no c a (h a List.mem_cons_self)
  | a :: b :: r, _, h => by
    unfold jn
    rw [spl_app c a _ (h a List.mem_cons_self), spl_jn c (b :: r) (by simp) fun x hx => h x (List.mem_cons_of_mem _ hx)]
theorem jn_ne {c : UInt8} {l : List Bs} (h : l ≠ []) (h1 : ∀ a ∈ l, a ≠ []) : jn c l ≠ [] := by
  match l, h with
  | [a], _ => exact h1 a List.mem_cons_self
  | a :: b :: r, _ => unfold jn; simp

/-- How a mark is written; an item's marks, as they are written. -/
def ordL : Bs := [97, 107, 115, 110, 109, 102]
def singles (m : Nat) : List Bs := ((List.range 6).filter fun i => m.testBit i).map fun i => [ordL.getD i 0]
def marksL (m : Nat) : Bs := (singles m).flatMap fun p => 47 :: p
def itemL (x : It) : Bs := jn 61 x.names ++ marksL x.m
def usageL (xs : List It) : Bs := jn 44 (xs.map itemL)
def usageR (t : Bs) : Bs × Int := if (templateR t).2 = 0 then (usageL (templateR t).1, 0) else ([], (templateR t).2)

theorem singles_marks (m : Nat) (h : m < 64) : marksR (singles m) 0 = some m := by
  have h1 : ∀ n : Fin 64, marksR (singles n.val) 0 = some n.val := by decide
  exact h1 ⟨m, h⟩
theorem singles_no (m : Nat) (c : UInt8) (hc : ordL.contains c = false) : ∀ p ∈ singles m, p.count c = 0 := by
  intro p hp
  unfold singles at hp
  obtain ⟨i, hi, rfl⟩ := List.mem_map.1 hp
  have hi6 : i < 6 := List.mem_range.1 (List.mem_filter.1 hi).1
  have h6 : ∀ j : Fin 6, ordL.contains (ordL.getD j.val 0) = true := by decide
  have h7 := h6 ⟨i, hi6⟩
  rw [List.count_eq_zero]
  intro h
  have e : c = ordL.getD i 0 := by simpa using h
  rw [e, h7] at hc
  cases hc
theorem spl_flat (c : UInt8) : ∀ (ps : List Bs) (a : Bs), a.count c = 0 → (∀ p ∈ ps, p.count c = 0) → spl c (a ++ ps.flatMap fun p => c :: p) = a :: ps
  | [], a, h, _ => by simpa using spl_no c a h
  | p :: ps, a, h, h1 => by
    rw [List.flatMap_cons, List.cons_append, spl_app c a _ h, spl_flat c ps p (h1 p List.mem_cons_self) fun x hx => h1 x (List.mem_cons_of_mem _ hx)]

theorem dropWhile_nil {p : UInt8 → Bool} : ∀ {l : Bs}, l.dropWhile p = [] → ∀ b ∈ l, p b = true
  | [], _, b, hb => by cases hb
  | a :: l, h, b, hb => by
    unfold List.dropWhile at h
    split at h
    · rename_i ha
      rcases List.mem_cons.1 hb with rfl | hb
      · exact ha
      · exact dropWhile_nil h b hb
    · cases h
theorem trimS_nils {n cs : Bs} (h : Lib.trimS n cs = []) : ∀ b ∈ n, cs.contains b = true := by
  unfold Lib.trimS Lib.trimLeftS at h
  have h1 := dropWhile_nil h
  unfold Lib.trimRightS at h1
  have h2 : n.reverse.dropWhile (cs.contains ·) = [] := by
    cases e : n.reverse.dropWhile (cs.contains ·) with
    | nil => rfl
    | cons b r =>
      have h3 := h1 b (by rw [e]; simp)
      have h4 := List.head_dropWhile_not (cs.contains ·) (l := n.reverse) (by rw [e]; simp)
      simp only [e, List.head_cons] at h4
      rw [h3] at h4
      cases h4
  intro b hb
  exact dropWhile_nil h2 b (List.mem_reverse.2 hb)
theorem good_name {n : Bs} (h : badName n = false) : n ≠ [] ∧ n.length ≤ 16 ∧ ∀ b ∈ n, lettersL.contains b = true := by
  unfold badName at h
  simp only [Bool.or_eq_false_iff, Bool.not_eq_false', List.isEmpty_iff, decide_eq_false_iff_not] at h
  refine ⟨fun e => ?_, by omega, trimS_nils h.2⟩
  rw [e] at h
  simp at h
theorem name_no {n : Bs} (h : ∀ b ∈ n, lettersL.contains b = true) (c : UInt8) (hc : lettersL.contains c = false) : n.count c = 0 := by
  rw [List.count_eq_zero]
  intro hm
  rw [h c hm] at hc
  cases hc

/-- What an item of a template is. -/
structure GoodIt (x : It) : Prop where
  ne : x.names ≠ []
  nm : ∀ n ∈ x.names, badName n = false
  mks : badMarks x.m = false
  lt : x.m < 64
theorem itemR_good {l : Bs} {x : It} (h : itemR l = some x) : GoodIt x := by
  unfold itemR at h
  split at h
  · cases h
  · rename_i p ps hsp
    split at h
    · cases h
    · rename_i m hm
      split at h
      · cases h
      · rename_i hb
        cases h
        simp only [Bool.or_eq_true, not_or, Bool.not_eq_true] at hb
        refine ⟨spl_ne _ _, fun n hn => ?_, hb.2, marksR_lt _ _ _ (by decide) hm⟩
        have := hb.1
        rw [List.any_eq_false] at this
        simpa using this n hn
theorem GoodIt.names_no {x : It} (h : GoodIt x) (c : UInt8) (hc : lettersL.contains c = false) : ∀ n ∈ x.names, n.count c = 0 := fun n hn => name_no (good_name (h.nm n hn)).2.2 c hc
theorem GoodIt.jn_no {x : It} (h : GoodIt x) (c : UInt8) (hc : lettersL.contains c = false) (h61 : c ≠ 61) : (jn 61 x.names).count c = 0 := by
  rw [List.count_eq_zero]
  intro hm
  rcases mem_jn hm with e | ⟨a, ha, hb⟩
  · exact h61 e
  · exact List.count_eq_zero.1 (h.names_no c hc a ha) hb
theorem itemL_back {x : It} (h : GoodIt x) : itemR (itemL x) = some x := by
  have h1 : spl 47 (itemL x) = jn 61 x.names :: singles x.m := spl_flat 47 _ _ (h.jn_no 47 (by decide) (by decide)) (singles_no _ _ (by decide))
  have h2 : spl 61 (jn 61 x.names) = x.names := spl_jn 61 _ h.ne (h.names_no 61 (by decide))
  have h3 : x.names.any badName = false := by
    rw [List.any_eq_false]
    intro n hn
    rw [h.nm n hn]
    simp
  unfold itemR
  rw [h1]
  simp only [singles_marks _ h.lt, h2, h3, h.mks, Bool.or_self]
  rfl
theorem itemL_no {x : It} (h : GoodIt x) : (itemL x).count 44 = 0 := by
  unfold itemL marksL
  rw [List.count_append, h.jn_no 44 (by decide) (by decide), List.count_eq_zero.2]
  intro hm
  obtain ⟨p, hp, hb⟩ := List.mem_flatMap.1 hm
  rcases List.mem_cons.1 hb with e | hb
  · exact absurd e (by decide)
  · exact List.count_eq_zero.1 (singles_no x.m 44 (by decide) p hp) hb
theorem itemL_ne {x : It} (h : GoodIt x) : itemL x ≠ [] := by
  unfold itemL
  intro e
  rw [List.append_eq_nil_iff] at e
  exact jn_ne h.ne (fun a ha => (good_name (h.nm a ha)).1) e.1
theorem tmplGo_back : ∀ (ps seen : List Bs) (xs : List It), tmplGo ps seen = some xs → tmplGo (xs.map itemL) seen = some xs ∧ xs.length = ps.length ∧ ∀ x ∈ xs, GoodIt x
  | [], seen, xs, h => by
    cases h
    exact ⟨rfl, rfl, fun x hx => by cases hx⟩
  | p :: ps, seen, xs, h => by
    unfold tmplGo at h
    split at h
    · cases h
    · rename_i x hx
      split at h
      · cases h
      · rename_i hr
        split at h
        · cases h
        · rename_i seen' hs
          obtain ⟨ys, hy, rfl⟩ := Option.map_eq_some_iff.1 h
          obtain ⟨h1, h2, h3⟩ := tmplGo_back ps seen' ys hy
          have hg := itemR_good hx
          refine ⟨?_, by simp [h2], fun z hz => ?_⟩
          · rw [List.map_cons, tmplGo, itemL_back hg]
            have he : (ys.map itemL).isEmpty = ps.isEmpty := by
              cases ps with
              | nil =>
                have : ys = [] := List.length_eq_zero_iff.1 (by simpa using h2)
                rw [this]; rfl
              | cons a b =>
                cases ys with
                | nil => simp at h2
                | cons c d => rfl
            simp only [he, hs, h1, Option.map_some]
            rw [if_neg hr]
          · rcases List.mem_cons.1 hz with rfl | hz
            · exact hg
            · exact h3 z hz
theorem templateR_back {l : Bs} (h : (templateR l).2 = 0) : templateR (usageL (templateR l).1) = templateR l := by
  by_cases he : l.isEmpty = true
  · have : templateR l = ([], 0) := by unfold templateR; rw [if_pos he]
    rw [this]
    rfl
  · cases ht : tmplGo (spl 44 l) [] with
    | none =>
      have : templateR l = ([], 3) := by unfold templateR; rw [if_neg he, ht]
      rw [this] at h
      cases h
    | some xs =>
      have e : templateR l = if 1 < nMany xs then ([], 3) else if 20 < xs.length then ([], 2) else (xs, 0) := by unfold templateR; rw [if_neg he, ht]
      rw [e] at h ⊢
      split at h
      · cases h
      · rename_i h1
        rw [if_neg h1]
        split at h
        · cases h
        · rename_i h2
          rw [if_neg h2]
          obtain ⟨k1, k2, k3⟩ := tmplGo_back _ _ _ ht
          have hne : xs ≠ [] := by
            rintro rfl
            exact spl_ne 44 l (List.length_eq_zero_iff.1 k2.symm)
          have hm : xs.map itemL ≠ [] := by simpa using hne
          have hs : spl 44 (usageL xs) = xs.map itemL := by
            refine spl_jn 44 _ hm fun a ha => ?_
            obtain ⟨x, hx, rfl⟩ := List.mem_map.1 ha
            exact itemL_no (k3 x hx)
          have hu : ¬ (usageL xs).isEmpty = true := by
            rw [List.isEmpty_iff]
            refine jn_ne hm fun a ha => ?_
            obtain ⟨x, hx, rfl⟩ := List.mem_map.1 ha
            exact itemL_ne (k3 x hx)
          show templateR (usageL xs) = (xs, 0)
          unfold templateR
          rw [if_neg hu, hs, k1]
          simp only [if_neg h1, if_neg h2]
theorem usageR_back {l : Bs} (h : (templateR l).2 = 0) : usageR (usageL (templateR l).1) = (usageL (templateR l).1, 0) := by
  unfold usageR
  rw [templateR_back h, if_pos h]
end Go.Proofs.YtojppincaalibaaGreatDoor
