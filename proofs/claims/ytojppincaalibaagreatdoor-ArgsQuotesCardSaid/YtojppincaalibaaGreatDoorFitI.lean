/- Plain Lean: what Fit wants of a template and of a step. -/
import Derived.Test.YtojppincaalibaaGreatDoorFitH
import Derived.Test.YtojppincaalibaaGreatDoorArgJ
set_option linter.unusedVariables false
set_option linter.unusedSimpArgs false
set_option maxRecDepth 100000
namespace Go.Proofs.YtojppincaalibaaGreatDoor
open Go.Shelf Go.RowKit

theorem tmplGo_mem : ∀ (ps seen : List Bs) (xs : List It), tmplGo ps seen = some xs → ∀ x, x ∈ xs → ∃ p, p ∈ ps ∧ itemR p = some x
  | [], seen, xs, h, x, hx => by cases h; cases hx
  | p :: ps, seen, xs, h, x, hx => by
    unfold tmplGo at h
    split at h
    · cases h
    · rename_i y hy
      split at h
      · cases h
      · split at h
        · cases h
        · rename_i sn hsn
          simp only [Option.map_eq_some_iff] at h
          obtain ⟨ys, hys, rfl⟩ := h
          rcases List.mem_cons.1 hx with rfl | hx
          · exact ⟨p, List.mem_cons_self, hy⟩
          · obtain ⟨q, hq, hqi⟩ := tmplGo_mem ps sn ys hys x hx
            exact ⟨q, List.mem_cons_of_mem _ hq, hqi⟩
theorem itemR_ne {p : Bs} {x : It} (h : itemR p = some x) : x.names ≠ [] := by
  unfold itemR at h
  split at h
  · cases h
  · split at h
    · cases h
    · split at h
      · cases h
      · cases h
        exact spl_ne _ _
theorem templateR_items (l : Bs) : (templateR l).1.length ≤ 20 ∧ ∀ x, x ∈ (templateR l).1 → x.names ≠ [] ∧ x.names.length ≤ l.length + 1 := by
  unfold templateR
  split
  · exact ⟨by simp, fun x hx => by cases hx⟩
  · split
    · exact ⟨by simp, fun x hx => by cases hx⟩
    · rename_i xs hxs
      split
      · exact ⟨by simp, fun x hx => by cases hx⟩
      · split
        · exact ⟨by simp, fun x hx => by cases hx⟩
        · refine ⟨by simp only; omega, fun x hx => ?_⟩
          obtain ⟨p, hp, hpi⟩ := tmplGo_mem _ _ _ hxs x hx
          have h1 := itemR_names hpi
          have h2 := spl_mem_le 44 l p hp
          exact ⟨itemR_ne hpi, by omega⟩

theorem giveS_len {xs : List It} {i : Nat} {st st' : FSt} {v : Bs} (h : giveS xs i st v = some st') : st'.r = st.r := by
  unfold giveS at h
  split at h
  · simp only [Option.map_eq_some_iff] at h
    obtain ⟨a', _, rfl⟩ := h
    rfl
  · cases h
theorem restS_len {xs : List It} {i : Nat} {st st' : FSt} {r : Bs} (h : restS xs i st r = some st') : st'.r = [] := by
  unfold restS at h
  split at h
  · cases h
  · exact giveS_len h
theorem after_suffix (r : Bs) : afterSign r <:+ r := by
  have h1 := skip_suffix r
  unfold afterSign
  split
  · exact List.nil_suffix
  · rename_i c t hs
    rw [hs] at h1
    split
    · exact (skip_suffix t).trans ((List.suffix_cons c t).trans h1)
    · exact h1
theorem nameS_len {xs : List It} {i : Nat} {st st' : FSt} (h : nameS xs i st = some st') : st'.r.length ≤ st.r.length := by
  unfold nameS at h
  split at h
  · split at h
    · cases h
    · split at h
      · cases h; exact Nat.le_refl _
      · split at h
        · rw [restS_len h]; exact Nat.zero_le _
        · split at h
          · cases h
          · rename_i y hy
            split at h
            · cases h
            · rename_i r' hr
              split at h
              · cases h
              · rw [giveS_len h]
                have h1 := (nx_cons_len hy hr).2
                have h2 := (after_suffix st.r).length_le
                show r'.length ≤ _
                omega
  · cases h
theorem ite_ok {α : Type} {P : α → Prop} {c : Prop} [Decidable c] {a b : α} (h1 : P a) (h2 : P b) : P (if c then a else b) := by
  split
  · exact h1
  · exact h2
theorem bool_ite {α : Type} {P : α → Prop} {c : Bool} {a b : α} (h1 : P a) (h2 : P b) : P (if c then a else b) := by
  cases c
  · exact h2
  · exact h1
theorem stepS_len {xs : List It} {st st' : FSt} {c : UInt8} {t : Bs} (hc : c ≠ 32) (h : stepS xs { st with r := c :: t } = some st') : st'.r.length ≤ t.length := by
  obtain ⟨⟨yw, yq, yr⟩, hny⟩ : ∃ y, nx (c :: t) = some y := ⟨_, rfl⟩
  rw [stepS_of xs _ yw yq yr hny] at h
  have hsx : ∀ r', yr = some r' → r'.length ≤ t.length := fun r' e => (nx_suffix hc hny e).length_le
  clear hny
  unfold stepT at h
  generalize (if yq = true then (-1 : Int) else findR xs yw) = k at h
  unfold stepU at h
  by_cases hk : 0 ≤ k
  · rw [if_pos hk] at h
    cases yr with
    | none => cases h
    | some r' => exact Nat.le_trans (nameS_len h) (hsx r' rfl)
  · rw [if_neg hk] at h
    cases yr with
    | none => exact bool_ite (P := fun o => o = some st' → st'.r.length ≤ t.length) (fun h => by rw [restS_len h]; exact Nat.zero_le _) (ite_ok (P := fun o => o = some st' → st'.r.length ≤ t.length) (fun h => by cases h) (fun h => by cases h)) h
    | some r' => exact bool_ite (P := fun o => o = some st' → st'.r.length ≤ t.length) (fun h => by rw [restS_len h]; exact Nat.zero_le _) (ite_ok (P := fun o => o = some st' → st'.r.length ≤ t.length) (fun h => by cases h) (ite_ok (P := fun o => o = some st' → st'.r.length ≤ t.length) (fun h => by cases h) (fun h => by rw [giveS_len h]; exact hsx r' rfl))) h

theorem fitGo_step (xs : List It) (n : Nat) (st : FSt) (c : UInt8) (t : Bs) (h : skipB st.r = c :: t) :
    fitGo xs (n + 1) st = match stepS xs { st with r := c :: t } with | none => none | some st' => fitGo xs n st' := by
  conv => lhs; unfold fitGo
  rw [h]
  rfl
theorem fitGo_end (xs : List It) (n : Nat) (st : FSt) (h : skipB st.r = []) : fitGo xs (n + 1) st = some st.ag := by
  conv => lhs; unfold fitGo
  rw [h]
theorem lacking_step (xs : List It) (ag : List Ag) (k : Nat) (hx : k < xs.length) (ha : k < ag.length) :
    lacking (xs.drop k) (ag.drop k) = ((xs[k].m.testBit 0 && !ag[k].set) || lacking (xs.drop (k + 1)) (ag.drop (k + 1))) := by
  rw [List.drop_eq_getElem_cons hx, List.drop_eq_getElem_cons ha]
  rfl
theorem lacking_end (xs : List It) (ag : List Ag) : lacking (xs.drop xs.length) ag = false := by
  rw [List.drop_length]
  cases ag <;> rfl
end Go.Proofs.YtojppincaalibaaGreatDoor
