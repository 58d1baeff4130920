/- A region that draws its order: 'out, q = append(out, w.s), append(q, w.quoted)': by one invariant over what has come up. -/
import Derived.Test.YtojppincaalibaaGreatDoorFitB
import Derived.OrdersIn
import Derived.OwnWalkIn
import Derived.RangeFuncBox
set_option linter.unusedVariables false
set_option linter.unusedSimpArgs false
set_option maxRecDepth 100000
namespace Go.Proofs.YtojppincaalibaaGreatDoor
open Go.Shelf Go.RowKit

section
variable {F : Fence} {n : Nat} {P : Program} {ops : Array Oper} {Q : Exit → Act → World → Prop} {md : Region.Mode}

theorem count_set {l : List Bool} : ∀ {i : Nat}, l[i]? = some false → (l.set i true).count false + 1 = l.count false := by
  induction l with
  | nil => intro i h; simp at h
  | cons b l ih =>
    intro i h
    cases i with
    | zero =>
      simp at h
      subst h
      simp
    | succ i =>
      simp at h
      have := ih (i := i) (by simpa using h)
      cases b <;> simp [List.count_cons] <;> omega
/-- Whatever comes up keeps I, and I says all where nothing is left: so the region serves. -/
theorem wpAnyIn_inv {I : Array Bool → Act → World → Prop}
    (hstep : ∀ l a w i, I l a w → i ∈ Region.ready md ops l → wpOpIn F n P ops Q i (fun a' w' => I (l.setIfInBounds i true) a' w') a w)
    (hdone : ∀ l a w, I l a w → Region.ready md ops l = [] → Q .normal a w) :
    ∀ (fuel : Nat) (l : Array Bool) (a : Act) (w : World), l.toList.count false ≤ fuel → I l a w → wpAnyIn F n P md ops Q fuel l a w := by
  have hfalse : ∀ (l : Array Bool) i, i ∈ Region.ready md ops l → l.toList[i]? = some false := fun l i hi => by
    have h := (mem_ready.1 hi).1
    rw [Array.getElem?_toList]
    rcases Nat.lt_or_ge i l.size with h' | h'
    · rw [Array.getElem?_eq_getElem h']
      simp [h'] at h
      rw [h]
    · simp [Array.getElem?_eq_none h'] at h
  intro fuel
  induction fuel with
  | zero =>
    intro l a w hc hI
    have hr : Region.ready md ops l = [] := by
      cases h : Region.ready md ops l with
      | nil => rfl
      | cons i t =>
        have := hfalse l i (by rw [h]; exact List.mem_cons_self)
        have h2 := List.count_pos_iff.2 (List.mem_of_getElem? this)
        omega
    exact ⟨hr, hdone l a w hI hr⟩
  | succ fuel ih =>
    intro l a w hc hI
    refine ⟨hdone l a w hI, fun i hi => wpOpIn_mono (fun a' w' h => ih _ a' w' ?_ h) (hstep l a w i hI hi)⟩
    have := count_set (hfalse l i hi)
    rw [Array.toList_setIfInBounds]
    omega
theorem dep_of {l : Array Bool} {i k : Nat} {o : Oper} (hi : i ∈ Region.ready md ops l) (ho : ops[i]? = some o) (h : (o.after.toList.any fun e => e.on == k && Region.binds md e) = true) : l.getD k false = true := by
  obtain ⟨_, o', ho', hall⟩ := mem_ready.1 hi
  rw [ho] at ho'
  cases ho'
  obtain ⟨e, he, hk⟩ := List.any_eq_true.1 h
  simp only [Bool.and_eq_true, beq_iff_eq] at hk
  have := hall e (Array.mem_toList_iff.1 he) hk.2
  rw [hk.1] at this
  exact this
theorem ready_of {l : Array Bool} {i : Nat} {o : Oper} (hr : Region.ready md ops l = []) (ho : ops[i]? = some o) (h : (o.after.toList.all fun e => !Region.binds md e || l.getD e.on false) = true) : l.getD i true = true := by
  cases hb : l.getD i true with
  | true => rfl
  | false =>
    have : i ∈ Region.ready md ops l := mem_ready.2 ⟨hb, o, ho, fun e he hbd => by
      have := List.all_eq_true.1 h e (Array.mem_toList_iff.2 he)
      rw [hbd] at this
      simpa using this⟩
    rw [hr] at this
    cases this
theorem wpOpIn_of {i : Nat} {o : Oper} {K : Act → World → Prop} {a : Act} {w : World} (ho : ops[i]? = some o) (hg : o.guard = none) (h : o.wpIn F n P a w K Q) : wpOpIn F n P ops Q i K a w := by
  unfold wpOpIn
  rw [ho]
  have hw : Region.wanted o (yielded ops a.tmps) = true := by simp [Region.wanted, hg]
  simp only [hw, if_true]
  exact h
theorem wpIn_value {o : Oper} {K : Act → World → Prop} {a : Act} {w w' : World} {v : Value} (hab : o.about P w a.eval = none) (hnd : ∀ c, o.op ≠ .defer c) (hrun : (execOp a.eval o).run P w = .ok (.value v) w') (h : K (a.put o.dst v) w') : o.wpIn F n P a w K Q := by
  unfold Oper.wpIn
  refine ⟨fun f hf => (by rw [hab] at hf; cases hf), ?_⟩
  rw [Oper.semAt_plain F _ _ hnd, hrun]
  exact h
theorem wpIn_skip {o : Oper} {K : Act → World → Prop} {a : Act} {w w' : World} (hab : o.about P w a.eval = none) (hnd : ∀ c, o.op ≠ .defer c) (hrun : (execOp a.eval o).run P w = .ok .skip w') (h : K (a.put o.dst undef) w') : o.wpIn F n P a w K Q := by
  unfold Oper.wpIn
  refine ⟨fun f hf => (by rw [hab] at hf; cases hf), ?_⟩
  rw [Oper.semAt_plain F _ _ hnd, hrun]
  exact h
end

/-- What lay is as it was, but for certain blocks. -/
structure OldB (W0 w : World) (R : Nat → Prop) : Prop where
  os : w.os = W0.os
  tape : w.tape = W0.tape
  output : w.output = W0.output
  size : W0.heap.size ≤ w.heap.size
  block : ∀ j, j < W0.heap.size → ¬ R j → w.heap[j]? = W0.heap[j]?
theorem OldB.refl (W0 : World) (R : Nat → Prop) : OldB W0 W0 R := ⟨rfl, rfl, rfl, Nat.le_refl _, fun _ _ _ => rfl⟩
theorem OldB.grown {W0 w w' : World} {R : Nat → Prop} {row : Option Nat} (h : OldB W0 w R) (hg : w.grownBy w' row) (hr : ∀ j, row = some j → j < W0.heap.size → R j) : OldB W0 w' R :=
  ⟨hg.os.trans h.os, hg.tape.trans h.tape, hg.output.trans h.output, Nat.le_trans h.size hg.size, fun j hj hn => (hg.block j (Nat.lt_of_lt_of_le hj h.size) (fun e => hn (hr j e.symm hj))).trans (h.block j hj hn)⟩

/-- What is known when some of the region's operations have come up. -/
structure J2 (W0 : World) (n0 X6 X7 X8 k : Nat) (vo vq : Value) (so sq : List Value) (s : ByteArray) (qd : Bool) (b0 b1 b2 b3 b4 b5 b6 b7 b8 b9 b10 b11 : Bool) (u20 u21 u22 u23 u24 u25 u26 u27 u28 u29 : Value) (w : World) : Prop where
  c4 : b4 = true → b0 = true
  c43 : b4 = true → b3 = true
  c9 : b9 = true → b4 = true ∧ b5 = true
  c10 : b10 = true → b9 = true
  c11 : b11 = true → b10 = true
  old : OldB W0 w (fun j => j = X6 ∨ j = X7 ∨ vo.ownBlock = some j ∨ vq.ownBlock = some j)
  x6 : Boxed w X6 23 (if b10 then u24 else vo)
  x7 : Boxed w X7 24 (if b11 then u29 else vq)
  ro : w.ownsRow n0 9 1 (if b4 then u24 else vo) (if b4 then k + 1 else k) (if b4 then so ++ [.string s] else so)
  rq : w.ownsRow n0 4 1 (if b9 then u29 else vq) (if b9 then k + 1 else k) (if b9 then sq ++ [.bool qd] else sq)
  v0 : b0 = true → u20 = vo
  v1 : b1 = true → u21 = .pointer (some ⟨X8, 0, none⟩)
  v2 : b2 = true → u22 = .string s
  v3 : b3 = true → ∃ nb, u23 = .slice (some ⟨nb, 0, none⟩) 1 1 ∧ (b4 = false → w.heap[nb]? = some (.cells #[.string s] 9 (0, 0)) ∧ vo.ownBlock ≠ some nb)
  v5 : b5 = true → u25 = vq
  v6 : b6 = true → u26 = .pointer (some ⟨X8, 2, none⟩)
  v7 : b7 = true → u27 = .bool qd
  v8 : b8 = true → ∃ nb, u28 = .slice (some ⟨nb, 0, none⟩) 1 1 ∧ (b9 = false → w.heap[nb]? = some (.cells #[.bool qd] 4 (0, 0)) ∧ vq.ownBlock ≠ some nb)

theorem rows_apart {w : World} {B B' n n' : Nat} {t t' : TypeId} {sz sz' : Nat} {v u : Value} {xs ys : List Value} (h : w.ownsRow B t sz v n xs) (h' : w.ownsRow B' t' sz' u n' ys) (ht : t ≠ t') : v.ownBlock = none ∨ v.ownBlock ≠ u.ownBlock := by
  cases hv : v.ownBlock with
  | none => exact .inl rfl
  | some g =>
    refine .inr fun e => ?_
    obtain ⟨_, cur, hc⟩ := own_block h hv
    obtain ⟨_, cur', hc'⟩ := own_block h' e.symm
    rw [hc] at hc'
    cases hc'
    exact ht rfl
theorem box_apart {w : World} {B b n : Nat} {t t' : TypeId} {sz : Nat} {v u : Value} {xs : List Value} (h : w.ownsRow B t sz v n xs) (hb : Boxed w b t' u) (ht : t' ≠ t) : v.ownBlock ≠ some b := by
  intro e
  obtain ⟨_, cur, hc⟩ := own_block h e
  have : w.heap[b]? = _ := hb
  rw [hc] at this
  cases this
  exact ht rfl
theorem infoStrW : (Tryz.prog.info? 9).map (fun i => (i.zero, i.size, i.bytes)) = some (some (.string ⟨#[]⟩), 1, 16) := by kernel_rfl
theorem infoBoolW : (Tryz.prog.info? 4).map (fun i => (i.zero, i.size, i.bytes)) = some (some (.bool false), 1, 1) := by kernel_rfl

section
variable {W0 : World} {n0 X6 X7 X8 k : Nat} {vo vq : Value} {so sq : List Value} {s : ByteArray} {qd : Bool} {b0 b1 b2 b3 b4 b5 b6 b7 b8 b9 b10 b11 : Bool} {u20 u21 u22 u23 u24 u25 u26 u27 u28 u29 : Value} {w : World}
/-- An operation that leaves the world. -/
theorem J2.s0 (h : J2 W0 n0 X6 X7 X8 k vo vq so sq s qd b0 b1 b2 b3 b4 b5 b6 b7 b8 b9 b10 b11 u20 u21 u22 u23 u24 u25 u26 u27 u28 u29 w) (hb : b0 = false) : w.cell? ⟨X6, 0, none⟩ = some vo ∧ J2 W0 n0 X6 X7 X8 k vo vq so sq s qd true b1 b2 b3 b4 b5 b6 b7 b8 b9 b10 b11 vo u21 u22 u23 u24 u25 u26 u27 u28 u29 w := by
  have h4 : b4 = false := by cases e : b4 with | false => rfl | true => rw [h.c4 e] at hb; cases hb
  have h9 : b9 = false := by cases e : b9 with | false => rfl | true => rw [(h.c9 e).1] at h4; cases h4
  have h10 : b10 = false := by cases e : b10 with | false => rfl | true => rw [h.c10 e] at h9; cases h9
  have hx := h.x6
  rw [h10] at hx
  refine ⟨hx.cell, ⟨fun _ => rfl, h.c43, h.c9, h.c10, h.c11, h.old, h.x6, h.x7, h.ro, h.rq, fun _ => rfl, h.v1, h.v2, h.v3, h.v5, h.v6, h.v7, h.v8⟩⟩
theorem J2.s1 (h : J2 W0 n0 X6 X7 X8 k vo vq so sq s qd b0 b1 b2 b3 b4 b5 b6 b7 b8 b9 b10 b11 u20 u21 u22 u23 u24 u25 u26 u27 u28 u29 w) : J2 W0 n0 X6 X7 X8 k vo vq so sq s qd b0 true b2 b3 b4 b5 b6 b7 b8 b9 b10 b11 u20 (.pointer (some ⟨X8, 0, none⟩)) u22 u23 u24 u25 u26 u27 u28 u29 w :=
  ⟨h.c4, h.c43, h.c9, h.c10, h.c11, h.old, h.x6, h.x7, h.ro, h.rq, h.v0, fun _ => rfl, h.v2, h.v3, h.v5, h.v6, h.v7, h.v8⟩
theorem J2.s2 (h : J2 W0 n0 X6 X7 X8 k vo vq so sq s qd b0 b1 b2 b3 b4 b5 b6 b7 b8 b9 b10 b11 u20 u21 u22 u23 u24 u25 u26 u27 u28 u29 w) : J2 W0 n0 X6 X7 X8 k vo vq so sq s qd b0 b1 true b3 b4 b5 b6 b7 b8 b9 b10 b11 u20 u21 (.string s) u23 u24 u25 u26 u27 u28 u29 w :=
  ⟨h.c4, h.c43, h.c9, h.c10, h.c11, h.old, h.x6, h.x7, h.ro, h.rq, h.v0, h.v1, fun _ => rfl, h.v3, h.v5, h.v6, h.v7, h.v8⟩
theorem J2.s5 (h : J2 W0 n0 X6 X7 X8 k vo vq so sq s qd b0 b1 b2 b3 b4 b5 b6 b7 b8 b9 b10 b11 u20 u21 u22 u23 u24 u25 u26 u27 u28 u29 w) (hb : b5 = false) : w.cell? ⟨X7, 0, none⟩ = some vq ∧ J2 W0 n0 X6 X7 X8 k vo vq so sq s qd b0 b1 b2 b3 b4 true b6 b7 b8 b9 b10 b11 u20 u21 u22 u23 u24 vq u26 u27 u28 u29 w := by
  have h9 : b9 = false := by cases e : b9 with | false => rfl | true => rw [(h.c9 e).2] at hb; cases hb
  have h10 : b10 = false := by cases e : b10 with | false => rfl | true => rw [h.c10 e] at h9; cases h9
  have h11 : b11 = false := by cases e : b11 with | false => rfl | true => rw [h.c11 e] at h10; cases h10
  have hx := h.x7
  rw [h11] at hx
  refine ⟨hx.cell, ⟨h.c4, h.c43, fun e => ⟨(h.c9 e).1, rfl⟩, h.c10, h.c11, h.old, h.x6, h.x7, h.ro, h.rq, h.v0, h.v1, h.v2, h.v3, fun _ => rfl, h.v6, h.v7, h.v8⟩⟩
theorem J2.s6 (h : J2 W0 n0 X6 X7 X8 k vo vq so sq s qd b0 b1 b2 b3 b4 b5 b6 b7 b8 b9 b10 b11 u20 u21 u22 u23 u24 u25 u26 u27 u28 u29 w) : J2 W0 n0 X6 X7 X8 k vo vq so sq s qd b0 b1 b2 b3 b4 b5 true b7 b8 b9 b10 b11 u20 u21 u22 u23 u24 u25 (.pointer (some ⟨X8, 2, none⟩)) u27 u28 u29 w :=
  ⟨h.c4, h.c43, h.c9, h.c10, h.c11, h.old, h.x6, h.x7, h.ro, h.rq, h.v0, h.v1, h.v2, h.v3, h.v5, fun _ => rfl, h.v7, h.v8⟩
theorem J2.s7 (h : J2 W0 n0 X6 X7 X8 k vo vq so sq s qd b0 b1 b2 b3 b4 b5 b6 b7 b8 b9 b10 b11 u20 u21 u22 u23 u24 u25 u26 u27 u28 u29 w) : J2 W0 n0 X6 X7 X8 k vo vq so sq s qd b0 b1 b2 b3 b4 b5 b6 true b8 b9 b10 b11 u20 u21 u22 u23 u24 u25 u26 (.bool qd) u28 u29 w :=
  ⟨h.c4, h.c43, h.c9, h.c10, h.c11, h.old, h.x6, h.x7, h.ro, h.rq, h.v0, h.v1, h.v2, h.v3, h.v5, h.v6, fun _ => rfl, h.v8⟩
theorem J2.s3 (h : J2 W0 n0 X6 X7 X8 k vo vq so sq s qd b0 b1 b2 b3 b4 b5 b6 b7 b8 b9 b10 b11 u20 u21 u22 u23 u24 u25 u26 u27 u28 u29 w) (hb : b4 = false) (hvo : ∀ j, vo.ownBlock = some j → j < W0.heap.size) : J2 W0 n0 X6 X7 X8 k vo vq so sq s qd b0 b1 b2 true b4 b5 b6 b7 b8 b9 b10 b11 u20 u21 u22 (.slice (some ⟨w.heap.size, 0, none⟩) 1 1) u24 u25 u26 u27 u28 u29 (w.alloc (.cells #[.string s] 9)) := by
  have hg := World.grownBy_alloc w (.cells #[.string s] 9) none
  refine ⟨h.c4, fun _ => rfl, h.c9, h.c10, h.c11, h.old.grown hg (fun j e => by cases e), h.x6.alloc _, h.x7.alloc _, h.ro.alloc _, h.rq.alloc _, h.v0, h.v1, h.v2, fun _ => ⟨_, rfl, fun _ => ⟨World.alloc_heap_new w _, fun e => ?_⟩⟩, h.v5, h.v6, h.v7, fun e => ?_⟩
  · have := hvo _ e
    have := h.old.size
    omega
  · obtain ⟨nb, e1, e2⟩ := h.v8 e
    exact ⟨nb, e1, fun e3 => ⟨(Lib.alloc_old _ _ _ (Array.getElem?_eq_some_iff.1 (e2 e3).1).1).trans (e2 e3).1, (e2 e3).2⟩⟩
theorem J2.s8 (h : J2 W0 n0 X6 X7 X8 k vo vq so sq s qd b0 b1 b2 b3 b4 b5 b6 b7 b8 b9 b10 b11 u20 u21 u22 u23 u24 u25 u26 u27 u28 u29 w) (hvq : ∀ j, vq.ownBlock = some j → j < W0.heap.size) : J2 W0 n0 X6 X7 X8 k vo vq so sq s qd b0 b1 b2 b3 b4 b5 b6 b7 true b9 b10 b11 u20 u21 u22 u23 u24 u25 u26 u27 (.slice (some ⟨w.heap.size, 0, none⟩) 1 1) u29 (w.alloc (.cells #[.bool qd] 4)) := by
  have hg := World.grownBy_alloc w (.cells #[.bool qd] 4) none
  refine ⟨h.c4, h.c43, h.c9, h.c10, h.c11, h.old.grown hg (fun j e => by cases e), h.x6.alloc _, h.x7.alloc _, h.ro.alloc _, h.rq.alloc _, h.v0, h.v1, h.v2, fun e => ?_, h.v5, h.v6, h.v7, fun _ => ⟨_, rfl, fun _ => ⟨World.alloc_heap_new w _, fun e => ?_⟩⟩⟩
  · obtain ⟨nb, e1, e2⟩ := h.v3 e
    exact ⟨nb, e1, fun e3 => ⟨(Lib.alloc_old _ _ _ (Array.getElem?_eq_some_iff.1 (e2 e3).1).1).trans (e2 e3).1, (e2 e3).2⟩⟩
  · have := hvq _ e
    have := h.old.size
    omega
theorem J2.s4 (h : J2 W0 n0 X6 X7 X8 k vo vq so sq s qd b0 b1 b2 b3 b4 b5 b6 b7 b8 b9 b10 b11 u20 u21 u22 u23 u24 u25 u26 u27 u28 u29 w) (h0 : b0 = true) (h3 : b3 = true) (h4 : b4 = false) {v' : Value} {w' : World} (hown : w'.ownsRow n0 9 1 v' (k + 1) (so ++ [.string s])) (hg : w.grownBy w' vo.ownBlock) : J2 W0 n0 X6 X7 X8 k vo vq so sq s qd b0 b1 b2 b3 true b5 b6 b7 b8 b9 b10 b11 u20 u21 u22 u23 v' u25 u26 u27 u28 u29 w' := by
  have h9 : b9 = false := by cases e : b9 with | false => rfl | true => rw [(h.c9 e).1] at h4; cases h4
  have h10 : b10 = false := by cases e : b10 with | false => rfl | true => rw [h.c10 e] at h9; cases h9
  subst h4 h9 h10
  have hro : w.ownsRow n0 9 1 vo k so := h.ro
  have hrq : w.ownsRow n0 4 1 vq k sq := h.rq
  refine ⟨fun _ => h0, fun _ => h3, (fun e => by cases e), (fun e => by cases e), h.c11, h.old.grown hg (fun j e _ => .inr (.inr (.inl e))), h.x6.kept hg (Ne.symm (box_apart hro h.x6 (by decide))), h.x7.kept hg (Ne.symm (box_apart hro h.x7 (by decide))), hown, hrq.kept hg (rows_apart hrq hro (by decide)), h.v0, h.v1, h.v2, fun e => ?_, h.v5, h.v6, h.v7, fun e => ?_⟩
  · obtain ⟨nb, e1, e2⟩ := h.v3 e
    exact ⟨nb, e1, fun e3 => by cases e3⟩
  · obtain ⟨nb, e1, e2⟩ := h.v8 e
    refine ⟨nb, e1, fun e3 => ⟨?_, (e2 e3).2⟩⟩
    have hb := (e2 e3).1
    rw [hg.block nb (Array.getElem?_eq_some_iff.1 hb).1 (fun e => ?_)]
    · exact hb
    · obtain ⟨_, cur, hc⟩ := own_block hro e.symm
      rw [hb] at hc; cases hc
theorem J2.s9 (h : J2 W0 n0 X6 X7 X8 k vo vq so sq s qd b0 b1 b2 b3 b4 b5 b6 b7 b8 b9 b10 b11 u20 u21 u22 u23 u24 u25 u26 u27 u28 u29 w) (h4 : b4 = true) (h5 : b5 = true) (h9 : b9 = false) {v' : Value} {w' : World} (hown : w'.ownsRow n0 4 1 v' (k + 1) (sq ++ [.bool qd])) (hg : w.grownBy w' vq.ownBlock) : J2 W0 n0 X6 X7 X8 k vo vq so sq s qd b0 b1 b2 b3 b4 b5 b6 b7 b8 true b10 b11 u20 u21 u22 u23 u24 u25 u26 u27 u28 v' w' := by
  have h10 : b10 = false := by cases e : b10 with | false => rfl | true => rw [h.c10 e] at h9; cases h9
  have h11 : b11 = false := by cases e : b11 with | false => rfl | true => rw [h.c11 e] at h10; cases h10
  subst h4 h9 h10 h11
  have hro : w.ownsRow n0 9 1 u24 (k + 1) (so ++ [.string s]) := h.ro
  have hrq : w.ownsRow n0 4 1 vq k sq := h.rq
  refine ⟨h.c4, h.c43, fun _ => ⟨rfl, h5⟩, (fun e => by cases e), (fun e => by cases e), h.old.grown hg (fun j e _ => .inr (.inr (.inr e))), h.x6.kept hg (Ne.symm (box_apart hrq h.x6 (by decide))), h.x7.kept hg (Ne.symm (box_apart hrq h.x7 (by decide))), hro.kept hg (rows_apart hro hrq (by decide)), hown, h.v0, h.v1, h.v2, fun e => ?_, h.v5, h.v6, h.v7, fun e => ?_⟩
  · obtain ⟨nb, e1, e2⟩ := h.v3 e
    exact ⟨nb, e1, fun e3 => by cases e3⟩
  · obtain ⟨nb, e1, e2⟩ := h.v8 e
    exact ⟨nb, e1, fun e3 => by cases e3⟩
theorem J2.s10 (h : J2 W0 n0 X6 X7 X8 k vo vq so sq s qd b0 b1 b2 b3 b4 b5 b6 b7 b8 b9 b10 b11 u20 u21 u22 u23 u24 u25 u26 u27 u28 u29 w) (h9 : b9 = true) (h10 : b10 = false) : J2 W0 n0 X6 X7 X8 k vo vq so sq s qd b0 b1 b2 b3 b4 b5 b6 b7 b8 b9 true b11 u20 u21 u22 u23 u24 u25 u26 u27 u28 u29 (w.setCell ⟨X6, 0, none⟩ u24) := by
  have h11 : b11 = false := by cases e : b11 with | false => rfl | true => rw [h.c11 e] at h10; cases h10
  have h4 := (h.c9 h9).1
  subst h4 h9 h10 h11
  have hg := grownBy_setCell' w X6 u24
  have hx6 : Boxed w X6 23 vo := h.x6
  have hne : X7 ≠ X6 := fun e => by have h7 : w.heap[X7]? = _ := h.x7; rw [e, show w.heap[X6]? = _ from hx6] at h7; cases h7
  refine ⟨h.c4, h.c43, h.c9, fun _ => rfl, (fun e => by cases e), h.old.grown hg (fun j e _ => by cases e; exact .inl rfl), hx6.set u24, h.x7.kept hg (fun e => hne (by cases e; rfl)), own_other h.ro hg (fun cur e => by rw [show w.heap[X6]? = _ from hx6] at e; cases e), own_other h.rq hg (fun cur e => by rw [show w.heap[X6]? = _ from hx6] at e; cases e), h.v0, h.v1, h.v2, fun e => ?_, h.v5, h.v6, h.v7, fun e => ?_⟩
  · obtain ⟨nb, e1, e2⟩ := h.v3 e
    exact ⟨nb, e1, fun e3 => by cases e3⟩
  · obtain ⟨nb, e1, e2⟩ := h.v8 e
    exact ⟨nb, e1, fun e3 => by cases e3⟩
theorem J2.s11 (h : J2 W0 n0 X6 X7 X8 k vo vq so sq s qd b0 b1 b2 b3 b4 b5 b6 b7 b8 b9 b10 b11 u20 u21 u22 u23 u24 u25 u26 u27 u28 u29 w) (h10 : b10 = true) (h11 : b11 = false) : J2 W0 n0 X6 X7 X8 k vo vq so sq s qd b0 b1 b2 b3 b4 b5 b6 b7 b8 b9 b10 true u20 u21 u22 u23 u24 u25 u26 u27 u28 u29 (w.setCell ⟨X7, 0, none⟩ u29) := by
  have h9 := h.c10 h10
  have h4 := (h.c9 h9).1
  subst h4 h9 h10 h11
  have hg := grownBy_setCell' w X7 u29
  have hx7 : Boxed w X7 24 vq := h.x7
  have hne : X6 ≠ X7 := fun e => by have h7 : w.heap[X6]? = _ := h.x6; rw [e, show w.heap[X7]? = _ from hx7] at h7; cases h7
  refine ⟨h.c4, h.c43, h.c9, h.c10, fun _ => rfl, h.old.grown hg (fun j e _ => by cases e; exact .inr (.inl rfl)), h.x6.kept hg (fun e => hne (by cases e; rfl)), hx7.set u29, own_other h.ro hg (fun cur e => by rw [show w.heap[X7]? = _ from hx7] at e; cases e), own_other h.rq hg (fun cur e => by rw [show w.heap[X7]? = _ from hx7] at e; cases e), h.v0, h.v1, h.v2, fun e => ?_, h.v5, h.v6, h.v7, fun e => ?_⟩
  · obtain ⟨nb, e1, e2⟩ := h.v3 e
    exact ⟨nb, e1, fun e3 => by cases e3⟩
  · obtain ⟨nb, e1, e2⟩ := h.v8 e
    exact ⟨nb, e1, fun e3 => by cases e3⟩
end

attribute [local go_sem] Oper.semAt_some
theorem wpOpIn_via {F : Fence} {n : Nat} {P : Program} {ops : Array Oper} {Q : Exit → Act → World → Prop} {i : Nat} {o : Oper} {K : Act → World → Prop} {a : Act} {w : World} (ho : ops[i]? = some o) (hg : o.guard = none) (h : ∀ K' : Act → World → Prop, (∀ a w, K a w → K' a w) → o.wpIn F n P a w K' Q) : wpOpIn F n P ops Q i K a w :=
  wpOpIn_of ho hg (h K fun _ _ h => h)
/-- The region's operations, their places and edges left open. -/
def regOps (y0 y1 y2 y3 y4 y5 y6 y7 y8 y9 y10 y11 : TypeId) (p0 p1 p2 p3 p4 p5 p6 p7 p8 p9 p10 p11 : String) (a0 a1 a2 a3 a4 a5 a6 a7 a8 a9 a10 a11 : Array Edge) : Array Oper := #[{ dst := some 20, op := .load 23 (.tmp 6), type := y0, pos := p0, after := a0, guard := none }, { dst := some 21, op := .fieldAddr 58 (.tmp 8) 0, type := y1, pos := p1, after := a1, guard := none }, { dst := some 22, op := .load 9 (.tmp 21), type := y2, pos := p2, after := a2, guard := none }, { dst := some 23, op := .buildSlice 23 1 #[(0, .tmp 22)], type := y3, pos := p3, after := a3, guard := none }, { dst := some 24, op := .call { callee := .builtin .append, args := #[.tmp 20, .tmp 23], argTypes := #[23, 23] }, type := y4, pos := p4, after := a4, guard := none }, { dst := some 25, op := .load 24 (.tmp 7), type := y5, pos := p5, after := a5, guard := none }, { dst := some 26, op := .fieldAddr 58 (.tmp 8) 2, type := y6, pos := p6, after := a6, guard := none }, { dst := some 27, op := .load 4 (.tmp 26), type := y7, pos := p7, after := a7, guard := none }, { dst := some 28, op := .buildSlice 24 1 #[(0, .tmp 27)], type := y8, pos := p8, after := a8, guard := none }, { dst := some 29, op := .call { callee := .builtin .append, args := #[.tmp 25, .tmp 28], argTypes := #[24, 24] }, type := y9, pos := p9, after := a9, guard := none }, { dst := none, op := .store 23 (.tmp 6) (.tmp 24), type := y10, pos := p10, after := a10, guard := none }, { dst := none, op := .store 24 (.tmp 7) (.tmp 29), type := y11, pos := p11, after := a11, guard := none }]
def allLt (a : Array Edge) (k : Nat) : Bool := a.toList.all fun e => decide (e.on < k)
def hasDep (a : Array Edge) (k : Nat) : Bool := a.toList.any fun e => e.on == k && Region.binds .any e
/-- What an order has to wait for; nothing else. -/
structure RegDeps (a0 a1 a2 a3 a4 a5 a6 a7 a8 a9 a10 a11 : Array Edge) : Prop where
  d2_1 : hasDep a2 1 = true
  d3_2 : hasDep a3 2 = true
  d4_0 : hasDep a4 0 = true
  d4_3 : hasDep a4 3 = true
  d7_6 : hasDep a7 6 = true
  d8_7 : hasDep a8 7 = true
  d9_4 : hasDep a9 4 = true
  d9_5 : hasDep a9 5 = true
  d9_8 : hasDep a9 8 = true
  d10_9 : hasDep a10 9 = true
  d11_10 : hasDep a11 10 = true
  z0 : allLt a0 0 = true
  z1 : allLt a1 1 = true
  z2 : allLt a2 2 = true
  z3 : allLt a3 3 = true
  z4 : allLt a4 4 = true
  z5 : allLt a5 5 = true
  z6 : allLt a6 6 = true
  z7 : allLt a7 7 = true
  z8 : allLt a8 8 = true
  z9 : allLt a9 9 = true
  z10 : allLt a10 10 = true
  z11 : allLt a11 11 = true

def InvR (W0 : World) (n0 X6 X7 X8 k : Nat) (vo vq : Value) (so sq : List Value) (s : ByteArray) (qd : Bool) (t0 t1 t2 t3 t4 t5 t9 t10 t11 t12 t13 t14 t15 t16 t17 t18 t19 t30 t31 : Value) (ds : List Deferred) (l : Array Bool) (a : Act) (w : World) : Prop :=
  ∃ (b0 b1 b2 b3 b4 b5 b6 b7 b8 b9 b10 b11 : Bool) (u20 u21 u22 u23 u24 u25 u26 u27 u28 u29 : Value), l = #[b0, b1, b2, b3, b4, b5, b6, b7, b8, b9, b10, b11] ∧ a = { tmps := #[t0, t1, t2, t3, t4, t5, .pointer (some ⟨X6, 0, none⟩), .pointer (some ⟨X7, 0, none⟩), .pointer (some ⟨X8, 0, none⟩), t9, t10, t11, t12, t13, t14, t15, t16, t17, t18, t19, u20, u21, u22, u23, u24, u25, u26, u27, u28, u29, t30, t31], defers := ds } ∧ J2 W0 n0 X6 X7 X8 k vo vq so sq s qd b0 b1 b2 b3 b4 b5 b6 b7 b8 b9 b10 b11 u20 u21 u22 u23 u24 u25 u26 u27 u28 u29 w

set_option maxHeartbeats 4000000 in
theorem reg_step {lr : Nat} {n : Nat} {Q : Exit → Act → World → Prop} {y0 y1 y2 y3 y4 y5 y6 y7 y8 y9 y10 y11 : TypeId} {p0 p1 p2 p3 p4 p5 p6 p7 p8 p9 p10 p11 : String} {a0 a1 a2 a3 a4 a5 a6 a7 a8 a9 a10 a11 : Array Edge} (hd : RegDeps a0 a1 a2 a3 a4 a5 a6 a7 a8 a9 a10 a11)
    {W0 : World} {n0 X6 X7 X8 k : Nat} {vo vq : Value} {so sq : List Value} {s : ByteArray} {pl : Int} {qd : Bool} {t0 t1 t2 t3 t4 t5 t9 t10 t11 t12 t13 t14 t15 t16 t17 t18 t19 t30 t31 : Value} {ds : List Deferred}
    (hvo : ∀ j, vo.ownBlock = some j → j < W0.heap.size) (hvq : ∀ j, vq.ownBlock = some j → j < W0.heap.size) (hk : k ≤ 1000000) (hn0 : n0 ≤ W0.heap.size)
    (hX8 : W0.heap[X8]? = some (.cells #[.string s, .int .i64 pl, .bool qd] 58 (0, 0))) (hX68 : X8 ≠ X6) (hX78 : X8 ≠ X7) (hv8 : vo.ownBlock ≠ some X8) (hw8 : vq.ownBlock ≠ some X8)
    (l : Array Bool) (a : Act) (w : World) (i : Nat) (hI : InvR W0 n0 X6 X7 X8 k vo vq so sq s qd t0 t1 t2 t3 t4 t5 t9 t10 t11 t12 t13 t14 t15 t16 t17 t18 t19 t30 t31 ds l a w) (hi : i ∈ Region.ready .any (regOps y0 y1 y2 y3 y4 y5 y6 y7 y8 y9 y10 y11 p0 p1 p2 p3 p4 p5 p6 p7 p8 p9 p10 p11 a0 a1 a2 a3 a4 a5 a6 a7 a8 a9 a10 a11) l) :
    wpOpIn (Fence.wide.inRound lr) n Tryz.prog (regOps y0 y1 y2 y3 y4 y5 y6 y7 y8 y9 y10 y11 p0 p1 p2 p3 p4 p5 p6 p7 p8 p9 p10 p11 a0 a1 a2 a3 a4 a5 a6 a7 a8 a9 a10 a11) Q i (fun a' w' => InvR W0 n0 X6 X7 X8 k vo vq so sq s qd t0 t1 t2 t3 t4 t5 t9 t10 t11 t12 t13 t14 t15 t16 t17 t18 t19 t30 t31 ds (l.setIfInBounds i true) a' w') a w := by
  obtain ⟨b0, b1, b2, b3, b4, b5, b6, b7, b8, b9, b10, b11, u20, u21, u22, u23, u24, u25, u26, u27, u28, u29, rfl, rfl, h⟩ := hI
  obtain ⟨hlt, o, ho, _⟩ := mem_ready.1 hi
  have hi12 : i < 12 := by
    have := (Array.getElem?_eq_some_iff.1 ho).1
    exact this
  have hc8 : ∀ j, j < 3 → w.cell? ⟨X8, j, none⟩ = W0.cell? ⟨X8, j, none⟩ := fun j _ => World.cell?_of_block (h.old.block X8 (Array.getElem?_eq_some_iff.1 hX8).1 (fun e => by rcases e with e | e | e | e <;> first | exact hX68 e | exact hX78 e | exact hv8 e | exact hw8 e))
  have c80 : w.cell? ⟨X8, 0, none⟩ = some (.string s) := (hc8 0 (by omega)).trans (cellOf hX8)
  have c82 : w.cell? ⟨X8, 2, none⟩ = some (.bool qd) := (hc8 2 (by omega)).trans (cellOf hX8)
  have hzw := h.old.size
  have HH := Lib.hid h
  clear hc8 hX8
  obtain rfl | rfl | rfl | rfl | rfl | rfl | rfl | rfl | rfl | rfl | rfl | rfl : i = 0 ∨ i = 1 ∨ i = 2 ∨ i = 3 ∨ i = 4 ∨ i = 5 ∨ i = 6 ∨ i = 7 ∨ i = 8 ∨ i = 9 ∨ i = 10 ∨ i = 11 := by omega
  · have f0 : b0 = false := hlt
    obtain ⟨c, h2⟩ := HH.out.s0 f0
    refine wpOpIn_via (o := { dst := some 20, op := .load 23 (.tmp 6), type := y0, pos := p0, after := a0, guard := none }) rfl rfl (fun K hK => ?_)
    go_simp
    refine hK _ _ ?_
    exact ⟨true, b1, b2, b3, b4, b5, b6, b7, b8, b9, b10, b11, vo, u21, u22, u23, u24, u25, u26, u27, u28, u29, rfl, rfl, h2⟩
  · refine wpOpIn_via (o := { dst := some 21, op := .fieldAddr 58 (.tmp 8) 0, type := y1, pos := p1, after := a1, guard := none }) rfl rfl (fun K hK => ?_)
    go_simp
    refine hK _ _ ?_
    exact ⟨b0, true, b2, b3, b4, b5, b6, b7, b8, b9, b10, b11, u20, _, u22, u23, u24, u25, u26, u27, u28, u29, rfl, rfl, HH.out.s1⟩
  · have e1 : b1 = true := dep_of hi (o := { dst := some 22, op := .load 9 (.tmp 21), type := y2, pos := p2, after := a2, guard := none }) rfl hd.d2_1
    obtain rfl := (HH.out.v1 e1).symm
    refine wpOpIn_via (o := { dst := some 22, op := .load 9 (.tmp 21), type := y2, pos := p2, after := a2, guard := none }) rfl rfl (fun K hK => ?_)
    go_simp
    refine hK _ _ ?_
    exact ⟨b0, b1, true, b3, b4, b5, b6, b7, b8, b9, b10, b11, u20, _, _, u23, u24, u25, u26, u27, u28, u29, rfl, rfl, HH.out.s2⟩
  · have e2 : b2 = true := dep_of hi (o := { dst := some 23, op := .buildSlice 23 1 #[(0, .tmp 22)], type := y3, pos := p3, after := a3, guard := none }) rfl hd.d3_2
    obtain rfl := (HH.out.v2 e2).symm
    have f3 : b3 = false := hlt
    have f4 : b4 = false := by
      cases e : b4 with
      | false => rfl
      | true => rw [HH.out.c43 e] at f3; cases f3
    refine wpOpIn_via (o := { dst := some 23, op := .buildSlice 23 1 #[(0, .tmp 22)], type := y3, pos := p3, after := a3, guard := none }) rfl rfl (fun K hK => ?_)
    go_simp
    refine hK _ _ ?_
    exact ⟨b0, b1, b2, true, b4, b5, b6, b7, b8, b9, b10, b11, u20, u21, _, _, u24, u25, u26, u27, u28, u29, rfl, rfl, HH.out.s3 f4 hvo⟩
  · have e0 : b0 = true := dep_of hi (o := { dst := some 24, op := .call { callee := .builtin .append, args := #[.tmp 20, .tmp 23], argTypes := #[23, 23] }, type := y4, pos := p4, after := a4, guard := none }) rfl hd.d4_0
    have e3 : b3 = true := dep_of hi (o := { dst := some 24, op := .call { callee := .builtin .append, args := #[.tmp 20, .tmp 23], argTypes := #[23, 23] }, type := y4, pos := p4, after := a4, guard := none }) rfl hd.d4_3
    have f4 : b4 = false := hlt
    obtain rfl := (HH.out.v0 e0).symm
    obtain ⟨nb, rfl, hnb⟩ := HH.out.v3 e3
    obtain ⟨i0, hi0, hz0, hz1, hz2⟩ := info_parts infoStrW
    have hro := HH.out.ro
    rw [f4] at hro
    obtain ⟨v', w', hrun, r1, r2, r3⟩ := run_append_own (P := Tryz.prog) w n0 23 y4 9 i0 (.string ⟨#[]⟩) 1 16 Tryz.underlying23 hi0 hz0 hz1 hz2 rfl (by omega) vo k so hro ⟨nb, 0, none⟩ 1 1 [.string s] rfl (World.news_of_block (cs := #[.string s]) (hnb f4).1) (by simp [Value.oneCell']) (by unfold maxLen; omega) (by omega) (by omega)
    refine wpOpIn_of (o := { dst := some 24, op := .call { callee := .builtin .append, args := #[.tmp 20, .tmp 23], argTypes := #[23, 23] }, type := y4, pos := p4, after := a4, guard := none }) rfl rfl (wpIn_value (v := v') (w' := w') (by rfl) (fun c hc => by cases hc) (by simp [execOp, resolve, invoke, builtin, Act.eval, hrun, Result.andThen]) ?_)
    exact ⟨b0, b1, b2, b3, true, b5, b6, b7, b8, b9, b10, b11, _, u21, u22, _, v', u25, u26, u27, u28, u29, rfl, rfl, HH.out.s4 e0 e3 f4 r1 r2⟩
  · have f5 : b5 = false := hlt
    obtain ⟨c, h2⟩ := HH.out.s5 f5
    refine wpOpIn_via (o := { dst := some 25, op := .load 24 (.tmp 7), type := y5, pos := p5, after := a5, guard := none }) rfl rfl (fun K hK => ?_)
    go_simp
    refine hK _ _ ?_
    exact ⟨b0, b1, b2, b3, b4, true, b6, b7, b8, b9, b10, b11, u20, u21, u22, u23, u24, vq, u26, u27, u28, u29, rfl, rfl, h2⟩
  · refine wpOpIn_via (o := { dst := some 26, op := .fieldAddr 58 (.tmp 8) 2, type := y6, pos := p6, after := a6, guard := none }) rfl rfl (fun K hK => ?_)
    go_simp
    refine hK _ _ ?_
    exact ⟨b0, b1, b2, b3, b4, b5, true, b7, b8, b9, b10, b11, u20, u21, u22, u23, u24, u25, _, u27, u28, u29, rfl, rfl, HH.out.s6⟩
  · have e6 : b6 = true := dep_of hi (o := { dst := some 27, op := .load 4 (.tmp 26), type := y7, pos := p7, after := a7, guard := none }) rfl hd.d7_6
    obtain rfl := (HH.out.v6 e6).symm
    refine wpOpIn_via (o := { dst := some 27, op := .load 4 (.tmp 26), type := y7, pos := p7, after := a7, guard := none }) rfl rfl (fun K hK => ?_)
    go_simp
    refine hK _ _ ?_
    exact ⟨b0, b1, b2, b3, b4, b5, b6, true, b8, b9, b10, b11, u20, u21, u22, u23, u24, u25, _, _, u28, u29, rfl, rfl, HH.out.s7⟩
  · have e7 : b7 = true := dep_of hi (o := { dst := some 28, op := .buildSlice 24 1 #[(0, .tmp 27)], type := y8, pos := p8, after := a8, guard := none }) rfl hd.d8_7
    obtain rfl := (HH.out.v7 e7).symm
    refine wpOpIn_via (o := { dst := some 28, op := .buildSlice 24 1 #[(0, .tmp 27)], type := y8, pos := p8, after := a8, guard := none }) rfl rfl (fun K hK => ?_)
    go_simp
    refine hK _ _ ?_
    exact ⟨b0, b1, b2, b3, b4, b5, b6, b7, true, b9, b10, b11, u20, u21, u22, u23, u24, u25, u26, _, _, u29, rfl, rfl, HH.out.s8 hvq⟩
  · have e4 : b4 = true := dep_of hi (o := { dst := some 29, op := .call { callee := .builtin .append, args := #[.tmp 25, .tmp 28], argTypes := #[24, 24] }, type := y9, pos := p9, after := a9, guard := none }) rfl hd.d9_4
    have e5 : b5 = true := dep_of hi (o := { dst := some 29, op := .call { callee := .builtin .append, args := #[.tmp 25, .tmp 28], argTypes := #[24, 24] }, type := y9, pos := p9, after := a9, guard := none }) rfl hd.d9_5
    have e8 : b8 = true := dep_of hi (o := { dst := some 29, op := .call { callee := .builtin .append, args := #[.tmp 25, .tmp 28], argTypes := #[24, 24] }, type := y9, pos := p9, after := a9, guard := none }) rfl hd.d9_8
    have f9 : b9 = false := hlt
    obtain rfl := (HH.out.v5 e5).symm
    obtain ⟨nb, rfl, hnb⟩ := HH.out.v8 e8
    obtain ⟨i0, hi0, hz0, hz1, hz2⟩ := info_parts infoBoolW
    have hrq := HH.out.rq
    rw [f9] at hrq
    obtain ⟨v', w', hrun, r1, r2, r3⟩ := run_append_own (P := Tryz.prog) w n0 24 y9 4 i0 (.bool false) 1 1 Tryz.underlying24 hi0 hz0 hz1 hz2 rfl (by omega) vq k sq hrq ⟨nb, 0, none⟩ 1 1 [.bool qd] rfl (World.news_of_block (cs := #[.bool qd]) (hnb f9).1) (by simp [Value.oneCell']) (by unfold maxLen; omega) (by omega) (by omega)
    refine wpOpIn_of (o := { dst := some 29, op := .call { callee := .builtin .append, args := #[.tmp 25, .tmp 28], argTypes := #[24, 24] }, type := y9, pos := p9, after := a9, guard := none }) rfl rfl (wpIn_value (v := v') (w' := w') (by rfl) (fun c hc => by cases hc) (by simp [execOp, resolve, invoke, builtin, Act.eval, hrun, Result.andThen]) ?_)
    exact ⟨b0, b1, b2, b3, b4, b5, b6, b7, b8, true, b10, b11, u20, u21, u22, u23, u24, _, u26, u27, _, v', rfl, rfl, HH.out.s9 e4 e5 f9 r1 r2⟩
  · have e9 : b9 = true := dep_of hi (o := { dst := none, op := .store 23 (.tmp 6) (.tmp 24), type := y10, pos := p10, after := a10, guard := none }) rfl hd.d10_9
    have f10 : b10 = false := hlt
    have e4 := (HH.out.c9 e9).1
    have hro := HH.out.ro
    rw [e4] at hro
    obtain ⟨g, cap, rfl⟩ := ownsRow_succ hro
    have hx := HH.out.x6
    rw [f10] at hx
    have c6 := hx.cell
    have z6 := hx.frozen
    refine wpOpIn_via (o := { dst := none, op := .store 23 (.tmp 6) (.tmp 24), type := y10, pos := p10, after := a10, guard := none }) rfl rfl (fun K hK => ?_)
    go_simp
    refine hK _ _ ?_
    exact ⟨b0, b1, b2, b3, b4, b5, b6, b7, b8, b9, true, b11, u20, u21, u22, u23, _, u25, u26, u27, u28, u29, rfl, rfl, HH.out.s10 e9 f10⟩
  · have e10 : b10 = true := dep_of hi (o := { dst := none, op := .store 24 (.tmp 7) (.tmp 29), type := y11, pos := p11, after := a11, guard := none }) rfl hd.d11_10
    have f11 : b11 = false := hlt
    have e9 := HH.out.c10 e10
    have hrq := HH.out.rq
    rw [e9] at hrq
    obtain ⟨g, cap, rfl⟩ := ownsRow_succ hrq
    have hx := HH.out.x7
    rw [f11] at hx
    have c7 := hx.cell
    have z7 := hx.frozen
    refine wpOpIn_via (o := { dst := none, op := .store 24 (.tmp 7) (.tmp 29), type := y11, pos := p11, after := a11, guard := none }) rfl rfl (fun K hK => ?_)
    go_simp
    refine hK _ _ ?_
    exact ⟨b0, b1, b2, b3, b4, b5, b6, b7, b8, b9, b10, true, u20, u21, u22, u23, u24, u25, u26, u27, u28, _, rfl, rfl, HH.out.s11 e10 f11⟩

/-- All have come up. -/
theorem reg_all {y0 y1 y2 y3 y4 y5 y6 y7 y8 y9 y10 y11 : TypeId} {p0 p1 p2 p3 p4 p5 p6 p7 p8 p9 p10 p11 : String} {a0 a1 a2 a3 a4 a5 a6 a7 a8 a9 a10 a11 : Array Edge} (hd : RegDeps a0 a1 a2 a3 a4 a5 a6 a7 a8 a9 a10 a11) {b0 b1 b2 b3 b4 b5 b6 b7 b8 b9 b10 b11 : Bool} (hr : Region.ready .any (regOps y0 y1 y2 y3 y4 y5 y6 y7 y8 y9 y10 y11 p0 p1 p2 p3 p4 p5 p6 p7 p8 p9 p10 p11 a0 a1 a2 a3 a4 a5 a6 a7 a8 a9 a10 a11) #[b0, b1, b2, b3, b4, b5, b6, b7, b8, b9, b10, b11] = []) : b4 = true ∧ b9 = true ∧ b10 = true ∧ b11 = true := by
  have key : ∀ (i : Nat) (o : Oper), (regOps y0 y1 y2 y3 y4 y5 y6 y7 y8 y9 y10 y11 p0 p1 p2 p3 p4 p5 p6 p7 p8 p9 p10 p11 a0 a1 a2 a3 a4 a5 a6 a7 a8 a9 a10 a11)[i]? = some o → allLt o.after i = true → (∀ j, j < i → (#[b0, b1, b2, b3, b4, b5, b6, b7, b8, b9, b10, b11] : Array Bool).getD j false = true) → (#[b0, b1, b2, b3, b4, b5, b6, b7, b8, b9, b10, b11] : Array Bool).getD i false = true := fun i o ho hz hj => by
    have h := ready_of hr ho (List.all_eq_true.2 fun e he => by
      have := List.all_eq_true.1 hz e he
      rw [hj e.on (by simpa using this)]
      simp)
    have hi : i < 12 := (Array.getElem?_eq_some_iff.1 ho).1
    rw [Array.getD_eq_getD_getElem?, Array.getElem?_eq_getElem (show i < (#[b0, b1, b2, b3, b4, b5, b6, b7, b8, b9, b10, b11] : Array Bool).size from hi)] at h ⊢
    exact h
  have q0 := key 0 { dst := some 20, op := .load 23 (.tmp 6), type := y0, pos := p0, after := a0, guard := none } rfl hd.z0 (fun j hj => by omega)
  have q1 := key 1 { dst := some 21, op := .fieldAddr 58 (.tmp 8) 0, type := y1, pos := p1, after := a1, guard := none } rfl hd.z1 (fun j hj => by have hh : j = 0 := (by omega); rcases hh with rfl <;> assumption)
  have q2 := key 2 { dst := some 22, op := .load 9 (.tmp 21), type := y2, pos := p2, after := a2, guard := none } rfl hd.z2 (fun j hj => by have hh : j = 0 ∨ j = 1 := (by omega); rcases hh with rfl | rfl <;> assumption)
  have q3 := key 3 { dst := some 23, op := .buildSlice 23 1 #[(0, .tmp 22)], type := y3, pos := p3, after := a3, guard := none } rfl hd.z3 (fun j hj => by have hh : j = 0 ∨ j = 1 ∨ j = 2 := (by omega); rcases hh with rfl | rfl | rfl <;> assumption)
  have q4 := key 4 { dst := some 24, op := .call { callee := .builtin .append, args := #[.tmp 20, .tmp 23], argTypes := #[23, 23] }, type := y4, pos := p4, after := a4, guard := none } rfl hd.z4 (fun j hj => by have hh : j = 0 ∨ j = 1 ∨ j = 2 ∨ j = 3 := (by omega); rcases hh with rfl | rfl | rfl | rfl <;> assumption)
  have q5 := key 5 { dst := some 25, op := .load 24 (.tmp 7), type := y5, pos := p5, after := a5, guard := none } rfl hd.z5 (fun j hj => by have hh : j = 0 ∨ j = 1 ∨ j = 2 ∨ j = 3 ∨ j = 4 := (by omega); rcases hh with rfl | rfl | rfl | rfl | rfl <;> assumption)
  have q6 := key 6 { dst := some 26, op := .fieldAddr 58 (.tmp 8) 2, type := y6, pos := p6, after := a6, guard := none } rfl hd.z6 (fun j hj => by have hh : j = 0 ∨ j = 1 ∨ j = 2 ∨ j = 3 ∨ j = 4 ∨ j = 5 := (by omega); rcases hh with rfl | rfl | rfl | rfl | rfl | rfl <;> assumption)
  have q7 := key 7 { dst := some 27, op := .load 4 (.tmp 26), type := y7, pos := p7, after := a7, guard := none } rfl hd.z7 (fun j hj => by have hh : j = 0 ∨ j = 1 ∨ j = 2 ∨ j = 3 ∨ j = 4 ∨ j = 5 ∨ j = 6 := (by omega); rcases hh with rfl | rfl | rfl | rfl | rfl | rfl | rfl <;> assumption)
  have q8 := key 8 { dst := some 28, op := .buildSlice 24 1 #[(0, .tmp 27)], type := y8, pos := p8, after := a8, guard := none } rfl hd.z8 (fun j hj => by have hh : j = 0 ∨ j = 1 ∨ j = 2 ∨ j = 3 ∨ j = 4 ∨ j = 5 ∨ j = 6 ∨ j = 7 := (by omega); rcases hh with rfl | rfl | rfl | rfl | rfl | rfl | rfl | rfl <;> assumption)
  have q9 := key 9 { dst := some 29, op := .call { callee := .builtin .append, args := #[.tmp 25, .tmp 28], argTypes := #[24, 24] }, type := y9, pos := p9, after := a9, guard := none } rfl hd.z9 (fun j hj => by have hh : j = 0 ∨ j = 1 ∨ j = 2 ∨ j = 3 ∨ j = 4 ∨ j = 5 ∨ j = 6 ∨ j = 7 ∨ j = 8 := (by omega); rcases hh with rfl | rfl | rfl | rfl | rfl | rfl | rfl | rfl | rfl <;> assumption)
  have q10 := key 10 { dst := none, op := .store 23 (.tmp 6) (.tmp 24), type := y10, pos := p10, after := a10, guard := none } rfl hd.z10 (fun j hj => by have hh : j = 0 ∨ j = 1 ∨ j = 2 ∨ j = 3 ∨ j = 4 ∨ j = 5 ∨ j = 6 ∨ j = 7 ∨ j = 8 ∨ j = 9 := (by omega); rcases hh with rfl | rfl | rfl | rfl | rfl | rfl | rfl | rfl | rfl | rfl <;> assumption)
  have q11 := key 11 { dst := none, op := .store 24 (.tmp 7) (.tmp 29), type := y11, pos := p11, after := a11, guard := none } rfl hd.z11 (fun j hj => by have hh : j = 0 ∨ j = 1 ∨ j = 2 ∨ j = 3 ∨ j = 4 ∨ j = 5 ∨ j = 6 ∨ j = 7 ∨ j = 8 ∨ j = 9 ∨ j = 10 := (by omega); rcases hh with rfl | rfl | rfl | rfl | rfl | rfl | rfl | rfl | rfl | rfl | rfl <;> assumption)
  exact ⟨q4, q9, q10, q11⟩

theorem region_two {lr n id : Nat} {Q : Exit → Act → World → Prop} {y0 y1 y2 y3 y4 y5 y6 y7 y8 y9 y10 y11 : TypeId} {p0 p1 p2 p3 p4 p5 p6 p7 p8 p9 p10 p11 : String} {a0 a1 a2 a3 a4 a5 a6 a7 a8 a9 a10 a11 : Array Edge} (hd : RegDeps a0 a1 a2 a3 a4 a5 a6 a7 a8 a9 a10 a11)
    {n0 X6 X7 X8 k : Nat} {vo vq : Value} {so sq : List Value} {s : ByteArray} {pl : Int} {qd : Bool} {t0 t1 t2 t3 t4 t5 t9 t10 t11 t12 t13 t14 t15 t16 t17 t18 t19 t30 t31 u20 u21 u22 u23 u24 u25 u26 u27 u28 u29 : Value} {ds : List Deferred} {w : World}
    (h6 : Boxed w X6 23 vo) (h7 : Boxed w X7 24 vq) (ro : w.ownsRow n0 9 1 vo k so) (rq : w.ownsRow n0 4 1 vq k sq) (hk : k ≤ 1000000) (hn0 : n0 ≤ w.heap.size)
    (hX8 : w.heap[X8]? = some (.cells #[.string s, .int .i64 pl, .bool qd] 58 (0, 0)))
    (hQ : ∀ (u20 u21 u22 u23 u24 u25 u26 u27 u28 u29 : Value) (w' : World), OldB w w' (fun j => j = X6 ∨ j = X7 ∨ vo.ownBlock = some j ∨ vq.ownBlock = some j) → Boxed w' X6 23 u24 → Boxed w' X7 24 u29 → w'.ownsRow n0 9 1 u24 (k + 1) (so ++ [.string s]) → w'.ownsRow n0 4 1 u29 (k + 1) (sq ++ [.bool qd]) → Q .normal { tmps := #[t0, t1, t2, t3, t4, t5, .pointer (some ⟨X6, 0, none⟩), .pointer (some ⟨X7, 0, none⟩), .pointer (some ⟨X8, 0, none⟩), t9, t10, t11, t12, t13, t14, t15, t16, t17, t18, t19, u20, u21, u22, u23, u24, u25, u26, u27, u28, u29, t30, t31], defers := ds } w') :
    (Code.region id (regOps y0 y1 y2 y3 y4 y5 y6 y7 y8 y9 y10 y11 p0 p1 p2 p3 p4 p5 p6 p7 p8 p9 p10 p11 a0 a1 a2 a3 a4 a5 a6 a7 a8 a9 a10 a11) true).wpIn (Fence.wide.inRound lr) n Tryz.prog Q { tmps := #[t0, t1, t2, t3, t4, t5, .pointer (some ⟨X6, 0, none⟩), .pointer (some ⟨X7, 0, none⟩), .pointer (some ⟨X8, 0, none⟩), t9, t10, t11, t12, t13, t14, t15, t16, t17, t18, t19, u20, u21, u22, u23, u24, u25, u26, u27, u28, u29, t30, t31], defers := ds } w := by
  refine wpIn_region_any (by kernel_rfl) ?_
  have hlt : ∀ {v : Value} {t : TypeId} {m : Nat} {xs : List Value}, w.ownsRow n0 t 1 v m xs → ∀ j, v.ownBlock = some j → j < w.heap.size := fun h j e => by
    obtain ⟨_, cur, hc⟩ := own_block h e
    exact (Array.getElem?_eq_some_iff.1 hc).1
  have e6 : X8 ≠ X6 := fun e => by have : w.heap[X6]? = _ := h6; rw [← e, hX8] at this; cases this
  have e7 : X8 ≠ X7 := fun e => by have : w.heap[X7]? = _ := h7; rw [← e, hX8] at this; cases this
  have f6 : vo.ownBlock ≠ some X8 := fun e => by obtain ⟨_, cur, hc⟩ := own_block ro e; rw [hX8] at hc; cases hc
  have f7 : vq.ownBlock ≠ some X8 := fun e => by obtain ⟨_, cur, hc⟩ := own_block rq e; rw [hX8] at hc; cases hc
  refine wpAnyIn_inv (I := InvR w.drew n0 X6 X7 X8 k vo vq so sq s qd t0 t1 t2 t3 t4 t5 t9 t10 t11 t12 t13 t14 t15 t16 t17 t18 t19 t30 t31 ds) (fun l a w1 i hI hi => reg_step (W0 := w.drew) (pl := pl) hd (hlt ro) (hlt rq) hk hn0 hX8 e6 e7 f6 f7 l a w1 i hI hi) ?_ _ _ _ _ (by simp [regOps]) ?_
  · rintro l a w1 ⟨b0, b1, b2, b3, b4, b5, b6, b7, b8, b9, b10, b11, u20, u21, u22, u23, u24, u25, u26, u27, u28, u29, rfl, rfl, h⟩ hr
    obtain ⟨rfl, rfl, rfl, rfl⟩ := reg_all hd hr
    have ho := h.old
    exact hQ _ _ _ _ _ _ _ _ _ _ w1 ⟨ho.os, ho.tape, ho.output, ho.size, ho.block⟩ h.x6 h.x7 h.ro h.rq
  · refine ⟨false, false, false, false, false, false, false, false, false, false, false, false, u20, u21, u22, u23, u24, u25, u26, u27, u28, u29, rfl, rfl, ?_⟩
    refine ⟨(fun e => by cases e), (fun e => by cases e), (fun e => by cases e), (fun e => by cases e), (fun e => by cases e), OldB.refl _ _, h6, h7, ro, rq, (fun e => by cases e), (fun e => by cases e), (fun e => by cases e), (fun e => by cases e), (fun e => by cases e), (fun e => by cases e), (fun e => by cases e), (fun e => by cases e)⟩
end Go.Proofs.YtojppincaalibaaGreatDoor
