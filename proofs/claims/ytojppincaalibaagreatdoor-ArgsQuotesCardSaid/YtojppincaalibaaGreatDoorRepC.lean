/- strings.Replacer's build at the six texts. -/
import Derived.Test.YtojppincaalibaaGreatDoorRepB
import Derived.Outline
import Derived.Lib.BufferMore
set_option linter.unusedVariables false
set_option linter.unusedSimpArgs false
set_option maxRecDepth 100000
namespace Go.Proofs.YtojppincaalibaaGreatDoor
open Go.Shelf Go.RowKit

theorem info201 : (Tryz.prog.info? 201).map (·.size) = some 257 := by kernel_rfl
theorem zs201 : Tryz.zeroCells201.toList = List.replicate 257 (.slice none 0 0) := by kernel_rfl
noncomputable def C0 (v : Value) : Array Value := (Tryz.zeroCells201.toList.set 256 v).toArray
theorem C0_size (v : Value) : (C0 v).size = 257 := by
  unfold C0
  rw [List.size_toArray, List.length_set, zs201, List.length_replicate]
theorem C0_lo (v : Value) (i : Nat) (h : i < 256) : (C0 v)[i]? = some (.slice none 0 0) := by
  unfold C0
  rw [List.getElem?_toArray, List.getElem?_set_ne (by omega), zs201, List.getElem?_replicate, if_pos (by omega)]
theorem C0_hi (v : Value) : (C0 v)[256]? = some v := by
  unfold C0
  rw [List.getElem?_toArray, List.getElem?_set_self (by rw [zs201, List.length_replicate]; omega)]
theorem C0_one (v : Value) (hv : v.oneCell' = true) : (C0 v).all (·.oneCell') = true := by
  rw [Array.all_eq_true']
  intro x hx
  have : x ∈ (List.set Tryz.zeroCells201.toList 256 v) := by simpa [C0] using hx
  rcases List.mem_or_eq_of_mem_set this with h | rfl
  · rw [zs201] at h
    rw [List.eq_of_mem_replicate h]
    rfl
  · exact hv
theorem zs201_size : Tryz.zeroCells201.size = 257 := by
  show Tryz.zeroCells201.toList.length = 257
  rw [zs201, List.length_replicate]

/-- The bytes that are replaced, in the order in which build comes to them. -/
def ob : Nat → Nat | 0 => 10 | 1 => 34 | _ => 42
def xb : Nat → Nat | 10 => 110 | 34 => 34 | _ => 42
def doneAt (k j : Nat) : Bool := (decide (1 ≤ k) && j == 10) || (decide (2 ≤ k) && j == 34) || (decide (3 ≤ k) && j == 42)
def toL : Nat → List Value
  | 0 => []
  | 1 => [.string ⟨#[10]⟩]
  | 2 => [.string ⟨#[10]⟩, .string ⟨#[34]⟩]
  | _ => [.string ⟨#[10]⟩, .string ⟨#[34]⟩, .string ⟨#[42]⟩]
/-- What a place of the table holds: nothing, or the two bytes that stand for its byte. -/
def RepAt (n k : Nat) (W : World) (j : Nat) (v : Value) : Prop :=
  if doneAt k j then ∃ g c cells fz, v = .slice (some ⟨g, 0, none⟩) 2 c ∧ n ≤ g ∧ 2 ≤ c ∧ W.heap[g]? = some (.cells cells 5 fz) ∧ cells[0]? = some (.int .u8 42) ∧ cells[1]? = some (.int .u8 (xb j)) else v = .slice none 0 0
def RB (n k2 k : Nat) (W : World) : Prop :=
  ∃ C tr, W.heap[k2]? = some (.cells C 201 (0, 0)) ∧ C.size = 257 ∧ C[256]? = some tr ∧ W.ownsRow n 9 1 tr k (toL k) ∧ tr.ownBlock ≠ some k2 ∧ ∀ j, j < 256 → ∃ v, C[j]? = some v ∧ RepAt n k W j v

theorem cellOf {w : World} {b i : Nat} {C : Array Value} {t : TypeId} {fz : Nat × Nat} (h : w.heap[b]? = some (.cells C t fz)) : w.cell? ⟨b, i, none⟩ = C[i]? := by
  simp [World.cell?, h]
theorem frozOf {w : World} {b i : Nat} {C : Array Value} {t : TypeId} (h : w.heap[b]? = some (.cells C t (0, 0))) : w.frozen? ⟨b, i, none⟩ = false := by
  simp [World.frozen?, h]
theorem heapSet {w : World} {b i : Nat} {C : Array Value} {t : TypeId} {fz : Nat × Nat} (v : Value) (h : w.heap[b]? = some (.cells C t fz)) : (w.setCell ⟨b, i, none⟩ v).heap[b]? = some (.cells (C.setIfInBounds i v) t fz) := by
  have := (Array.getElem?_eq_some_iff.1 h)
  obtain ⟨hlt, hk⟩ := this
  show (w.heap.modify b _)[b]? = _
  rw [Array.getElem?_eq_getElem (by rw [Array.size_modify]; exact hlt), Array.getElem_modify_self, hk]
  rfl

theorem RepAt.mono {n k : Nat} {W W' : World} {j : Nat} {v : Value} (h : RepAt n k W j v) (hc : ∀ (g : Nat) cells fz, W.heap[g]? = some (.cells cells 5 fz) → W'.heap[g]? = W.heap[g]?) : RepAt n k W' j v := by
  unfold RepAt at h ⊢
  split
  · rename_i hd
    rw [if_pos hd] at h
    obtain ⟨g, c, cells, fz, rfl, h1, h2, h3, h4, h5⟩ := h
    exact ⟨g, c, cells, fz, rfl, h1, h2, (hc g cells fz h3).trans h3, h4, h5⟩
  · rename_i hd
    rwa [if_neg hd] at h

theorem doneAt_succ (k j : Nat) (hk : k < 3) : doneAt (k + 1) j = (doneAt k j || j == ob k) := by
  match k, hk with
  | 0, _ => simp [doneAt, ob]
  | 1, _ => simp [doneAt, ob]
  | 2, _ => simp [doneAt, ob]

/-- One round of build keeps what the table holds. -/
theorem RB.step {n k2 k : Nat} {W W' : World} {g c : Nat} {tr' : Value} {C cells : Array Value} {fz : Nat × Nat} (hall : ∀ j, j < 256 → ∃ v, C[j]? = some v ∧ RepAt n k W j v) (hsz : C.size = 257) (hk : k < 3)
    (hc : ∀ (g : Nat) cells fz, W.heap[g]? = some (.cells cells 5 fz) → W'.heap[g]? = W.heap[g]?)
    (hstr : W'.heap[k2]? = some (.cells ((C.setIfInBounds 256 tr').setIfInBounds (ob k) (.slice (some ⟨g, 0, none⟩) 2 c)) 201 (0, 0)))
    (hown : W'.ownsRow n 9 1 tr' (k + 1) (toL (k + 1))) (hne : tr'.ownBlock ≠ some k2)
    (h1 : n ≤ g) (h5 : 2 ≤ c) (hg : W'.heap[g]? = some (.cells cells 5 fz)) (h6 : cells[0]? = some (.int .u8 42)) (h7 : cells[1]? = some (.int .u8 (xb (ob k)))) : RB n k2 (k + 1) W' := by
  have hob : ob k < 256 := by match k, hk with | 0, _ => decide | 1, _ => decide | 2, _ => decide
  refine ⟨_, tr', hstr, by simp [hsz], ?_, hown, hne, ?_⟩
  · rw [Array.getElem?_setIfInBounds_ne (by omega), Array.getElem?_setIfInBounds_self_of_lt (by omega)]
  · intro j hj
    by_cases e : j = ob k
    · subst e
      refine ⟨_, Array.getElem?_setIfInBounds_self_of_lt (by simp [hsz]; omega), ?_⟩
      unfold RepAt
      rw [doneAt_succ k _ hk, if_pos (by simp)]
      exact ⟨g, c, cells, fz, rfl, h1, h5, hg, h6, h7⟩
    · obtain ⟨v, hv, hR⟩ := hall j hj
      refine ⟨v, by rw [Array.getElem?_setIfInBounds_ne (fun h => e h.symm), Array.getElem?_setIfInBounds_ne (by omega)]; exact hv, ?_⟩
      have := hR.mono hc
      unfold RepAt at this ⊢
      rw [doneAt_succ k j hk]
      have e' : (j == ob k) = false := by simpa using e
      rwa [e', Bool.or_false]

end Go.Proofs.YtojppincaalibaaGreatDoor
