/- What is left of a line; marks set in a fitter. -/
import Derived.Test.YtojppincaalibaaGreatDoorFitE
set_option linter.unusedVariables false
set_option linter.unusedSimpArgs false
set_option maxRecDepth 100000
namespace Go.Proofs.YtojppincaalibaaGreatDoor
open Go.Shelf Go.RowKit

/-- r is what is left of the line. -/
def Suf (s : ByteArray) (r : Bs) : Prop := r.length ≤ s.size ∧ r = (bl s).drop (s.size - r.length)
theorem Suf.of_suffix {s : ByteArray} {r r' : Bs} (h : Suf s r) (hs : r' <:+ r) : Suf s r' := by
  have hl := hs.length_le
  refine ⟨Nat.le_trans hl h.1, ?_⟩
  obtain ⟨p, hp⟩ := hs
  have h2 := h.2
  have : r' = r.drop (r.length - r'.length) := by
    have e : r.length - r'.length = p.length := by rw [← hp, List.length_append]; omega
    rw [e, ← hp, List.drop_left]
  rw [h2, List.drop_drop] at this
  have h1 := h.1
  rw [← h2] at this
  rw [show s.size - r.length + (r.length - r'.length) = s.size - r'.length by omega] at this
  exact this
theorem skip_suffix (l : Bs) : skipB l <:+ l := List.dropWhile_suffix _
theorem qt_suffix : ∀ (l : Bs) (p : Bs × Bs), qt l = some p → p.2 <:+ l
  | [], p, h => by simp [qt] at h
  | [c], p, h => by
    unfold qt at h
    split at h
    · cases h; exact List.nil_suffix
    · cases h
  | c :: d :: t, p, h => by
    unfold qt at h
    split at h
    · split at h
      · cases h; exact List.suffix_cons _ _
      · cases h
    · split at h
      · simp only [Option.map_eq_some_iff] at h
        obtain ⟨q, hq, rfl⟩ := h
        exact (qt_suffix t q hq).trans ((List.suffix_cons _ _).trans (List.suffix_cons _ _))
      · split at h
        · simp only [Option.map_eq_some_iff] at h
          obtain ⟨q, hq, rfl⟩ := h
          exact (qt_suffix t q hq).trans ((List.suffix_cons _ _).trans (List.suffix_cons _ _))
        · simp only [Option.map_eq_some_iff] at h
          obtain ⟨q, hq, rfl⟩ := h
          exact (qt_suffix (d :: t) q hq).trans (List.suffix_cons _ _)
theorem nx_suffix {c : UInt8} {t : Bs} (hc : c ≠ 32) {y : Nx} (h : nx (c :: t) = some y) {r : Bs} (hr : y.rest = some r) : r <:+ t := by
  unfold nx at h
  simp only [Option.some.injEq] at h
  subst h
  split at hr
  · cases hr; exact List.suffix_refl _
  · split at hr
    · split at hr
      · rename_i p hp
        cases hr
        exact qt_suffix t p hp
      · cases hr
    · rename_i h1 h2
      cases hr
      rw [dw_cons hc h1]
      exact List.dropWhile_suffix _
theorem skip_head (l : Bs) (c : UInt8) (t : Bs) (h : skipB l = c :: t) : c ≠ 32 := by
  intro e
  have := List.head?_dropWhile_not (fun b : UInt8 => decide (b = 32)) l
  unfold skipB at h
  rw [h] at this
  simp [e] at this
theorem nx_unq {l : Bs} {y : Nx} (h : nx l = some y) (hq : y.q = false) : ∃ r, y.rest = some r := by
  cases l with
  | nil => cases h
  | cons c t =>
    unfold nx at h
    simp only [Option.some.injEq] at h
    subst h
    split
    · exact ⟨_, rfl⟩
    · rename_i h1
      rw [if_neg h1] at hq
      split
      · rename_i h2
        rw [if_pos h2] at hq
        split at hq <;> cases hq
      · exact ⟨_, rfl⟩
theorem Suf.at {s : ByteArray} {c : UInt8} {t : Bs} (h : Suf s (c :: t)) : ∃ (hk : s.size - (c :: t).length < s.size), s[s.size - (c :: t).length]'hk = c := by
  have h1 := h.1
  have h2 := h.2
  simp only [List.length_cons] at h1
  have hk : s.size - (c :: t).length < s.size := by rw [List.length_cons]; omega
  refine ⟨hk, ?_⟩
  rw [drop_at s _ hk] at h2
  exact (List.cons.inj h2).1.symm
theorem FS.suf' {w : World} {B D F : Nat} {iv : Value} {bs : List Nat} {xs : List It} {line : ByteArray} {st : FSt} {ov nv : Value} (h : FS w B D F iv bs xs line st ov nv) : Suf line st.r := ⟨h.le, h.suf⟩

theorem ArgRow.setOn {w : World} {B G cap : Nat} {C : Array Value} {vs : List Value} {ag : List Ag} (h : ArgRow w B G cap C vs ag) (i : Nat) (hi : i < ag.length) :
    ArgRow (w.setCell ⟨G, i * 3 + 2, none⟩ (.bool true)) B G cap (C.setIfInBounds (i * 3 + 2) (.bool true)) vs (ag.set i { ag[i] with set := true }) := by
  have hsz := h.size
  have hle := h.le
  have hC2 : ∀ k, (C.setIfInBounds (i * 3 + 2) (.bool true))[k]? = if k = i * 3 + 2 then some (.bool true) else C[k]? := fun k => by
    rw [Array.getElem?_setIfInBounds]
    by_cases e : k = i * 3 + 2
    · subst e; simp; omega
    · rw [if_neg (Ne.symm e), if_neg e]
  refine ⟨h.hB, heapSet _ h.heap, by simpa using hsz, by simpa using h.len, by simpa using hle, ?_, ?_, ?_, ?_, h.apart⟩
  · intro j hj
    rw [List.length_set] at hj
    rw [hC2, if_neg (by omega), h.at0 j hj, List.getElem_set]
    split
    · rename_i e; subst e; rfl
    · rfl
  · intro j hj hjv
    rw [List.length_set] at hj
    rw [hC2, if_neg (by omega), h.at1 j hj hjv]
  · intro j hj
    rw [List.length_set] at hj
    rw [hC2, List.getElem_set]
    by_cases e : i = j
    · subst e; rw [if_pos rfl, if_pos rfl]
    · rw [if_neg (by omega), if_neg e, h.at2 j hj]
  · intro j hj hjv
    rw [List.length_set] at hj
    have := own_other (h.own j hj hjv) (grown_set w ⟨G, i * 3 + 2, none⟩ (.bool true)) (fun cur e => by rw [h.heap] at e; cases e)
    rw [List.getElem_set]
    split
    · rename_i e; subst e; exact this
    · exact this

theorem FS.setSet {w : World} {B D F : Nat} {iv : Value} {bs : List Nat} {xs : List It} {line : ByteArray} {st : FSt} {G n cap : Nat} {nv : Value} (h : FS w B D F iv bs xs line st (.slice (some ⟨G, 0, none⟩) n cap) nv) (i : Nat) (hi : i < st.ag.length) {a : Ag} (ha : st.ag[i] = a) :
    FS (w.setCell ⟨G, i * 3 + 2, none⟩ (.bool true)) B D F iv bs xs line { st with ag := st.ag.set i { a with set := true } } (.slice (some ⟨G, 0, none⟩) n cap) nv ∧ Below D w (w.setCell ⟨G, i * 3 + 2, none⟩ (.bool true)) := by
  obtain ⟨C, vs, hn, hA⟩ : ∃ C vs, n = st.ag.length ∧ ArgRow w D G cap C vs st.ag := by
    rcases h.ar with ⟨_, h1⟩ | ⟨G', cap', C, vs, h1, h2⟩
    · cases h1
    · cases h1; exact ⟨C, vs, rfl, h2⟩
  have hB : Below D w (w.setCell ⟨G, i * 3 + 2, none⟩ (.bool true)) := (Below.refl D w).setCell (p := ⟨G, i * 3 + 2, none⟩) hA.hB _
  have hg := grown_set w ⟨G, i * 3 + 2, none⟩ (.bool true)
  have hFG : F ≠ G := fun e => by have := h.fb; rw [e, hA.heap] at this; cases this
  have hrow := hA.setOn i hi
  rw [ha] at hrow
  refine ⟨⟨h.it.belowF h.itF hB, h.le, h.suf, h.hF, (Go.heap_setCell_other _ _ _ _ hFG).trans h.fb, h.itF, .inr ⟨G, cap, _, _, by rw [List.length_set, hn], hrow⟩, h.nr.other hg (fun cur e => by rw [hA.heap] at e; cases e), by rw [List.length_set]; exact h.la, h.ln, fun b hb => ?_, h.l1, h.xl, h.xn⟩, hB⟩
  rcases List.mem_or_eq_of_mem_set hb with hb | rfl
  · exact h.vb b hb
  · exact h.vb a (by rw [← ha]; exact List.getElem_mem _)

theorem FS.setNamed {w : World} {B D F : Nat} {iv : Value} {bs : List Nat} {xs : List It} {line : ByteArray} {st : FSt} {ov : Value} {nb n cap : Nat} (h : FS w B D F iv bs xs line st ov (.slice (some ⟨nb, 0, none⟩) n cap)) (i : Nat) (hi : i < st.nm.length) :
    FS (w.setCell ⟨nb, i, none⟩ (.bool true)) B D F iv bs xs line { st with nm := st.nm.set i true } ov (.slice (some ⟨nb, 0, none⟩) n cap) ∧ Below D w (w.setCell ⟨nb, i, none⟩ (.bool true)) := by
  obtain ⟨nb', cap', N, h1, h2, h3, h4⟩ := h.nr
  cases h1
  have hB : Below D w (w.setCell ⟨nb, i, none⟩ (.bool true)) := (Below.refl D w).setCell (p := ⟨nb, i, none⟩) h2 _
  have hg := grown_set w ⟨nb, i, none⟩ (.bool true)
  have hFn : F ≠ nb := fun e => by have := h.fb; rw [e, h3] at this; cases this
  refine ⟨⟨h.it.belowF h.itF hB, h.le, h.suf, h.hF, (Go.heap_setCell_other _ _ _ _ hFn).trans h.fb, h.itF, h.ar.other hg (fun cur e => by rw [h3] at e; cases e) (fun cur e => by rw [h3] at e; cases e), ⟨nb, cap, _, by rw [List.length_set], h2, heapSet _ h3, fun j hj => ?_⟩, h.la, by rw [List.length_set]; exact h.ln, h.vb, h.l1, h.xl, h.xn⟩, hB⟩
  rw [List.length_set] at hj
  have hN : i < N.size := by
    have := h4 i hi
    exact (Array.getElem?_eq_some_iff.1 this).1
  rw [Array.getElem?_setIfInBounds, List.getElem_set]
  by_cases e : i = j
  · subst e; simp [hN]
  · rw [if_neg e, if_neg e, h4 j hj]

theorem FS.n1 {w : World} {B D F : Nat} {iv : Value} {bs : List Nat} {xs : List It} {line : ByteArray} {st : FSt} {ov nv : Value} (h : FS w B D F iv bs xs line st ov nv) (i : Nat) (hi : i < st.nm.length) :
    ∃ nb cap, nv = .slice (some ⟨nb, 0, none⟩) xs.length cap ∧ nb < w.heap.size ∧ D ≤ nb ∧ w.cell? ⟨nb, i, none⟩ = some (.bool st.nm[i]) ∧ w.frozen? ⟨nb, i, none⟩ = false := by
  obtain ⟨nb, cap, N, h1, h2, h3, h4⟩ := h.nr
  exact ⟨nb, cap, by rw [h1, h.ln], (Array.getElem?_eq_some_iff.1 h3).1, h2, (cellOf h3).trans (h4 i hi), frozOf h3⟩
end Go.Proofs.YtojppincaalibaaGreatDoor
