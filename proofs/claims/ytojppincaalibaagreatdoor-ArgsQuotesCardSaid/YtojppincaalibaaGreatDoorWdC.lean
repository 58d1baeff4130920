/- The walk of args.Words. -/
import Derived.Test.YtojppincaalibaaGreatDoorWdA
import Derived.Test.YtojppincaalibaaGreatDoorWdB
set_option linter.unusedVariables false
set_option linter.unusedSimpArgs false
set_option maxRecDepth 100000
namespace Go.Proofs.YtojppincaalibaaGreatDoor
open Go.Shelf Go.RowKit
attribute [local go_sem] Oper.semAt_some

def strsOf (pre : List Wd) : List Value := pre.map fun x => Value.string (mkS x.s)
def boolsOf (pre : List Wd) : List Value := pre.map fun x => Value.bool x.q
/-- What the body's cells hold between two rounds: R the first of the results' boxes, X of the two slices' boxes. -/
structure WdI (w : World) (R X : Nat) (pre : List Wd) (W : World) : Prop where
  r2 : Boxed W R 23 (.slice none 0 0)
  r3 : Boxed W (R + 1) 24 (.slice none 0 0)
  r4 : Boxed W (R + 1 + 1) 25 (.int .i64 0)
  o : ∃ v, Boxed W X 23 v ∧ W.ownsRow (X + 1 + 1 + 1) 9 1 v pre.length (strsOf pre)
  q : ∃ v, Boxed W (X + 1) 24 v ∧ W.ownsRow (X + 1 + 1 + 1) 4 1 v pre.length (boolsOf pre)
  b : Below w.heap.size w W
  sz : X + 1 + 1 + 1 ≤ W.heap.size
  ok : ∀ x, x ∈ pre → 0 ≤ x.at_
structure WdX (w : World) (R : Nat) (pre : List Wd) (W : World) : Prop where
  r2 : Boxed W R 23 (.slice none 0 0)
  r3 : Boxed W (R + 1) 24 (.slice none 0 0)
  r4 : Boxed W (R + 1 + 1) 25 (.int .i64 250)
  b : Below w.heap.size w W
  bad : ∃ x, x ∈ pre ∧ x.at_ < 0

theorem not_cells_ne {W : World} {B : Nat} {cs : Array Value} {t : TypeId} {fz : Nat × Nat} (h : W.heap[B]? = some (.cells cs t fz)) {row : Option Nat} (hr : ∀ r, row = some r → ∃ o : Obj, W.heap[r]? = some o ∧ o.isCells = false) : some B ≠ row := by
  intro e
  obtain ⟨o, ho, hc⟩ := hr B e.symm
  rw [h] at ho; cases ho; cases hc
theorem boxed_grown {W W' : World} {B : Nat} {t : TypeId} {v : Value} (h : Boxed W B t v) {row : Option Nat} (hg : W.grownBy W' row) (hr : ∀ r, row = some r → ∃ o : Obj, W.heap[r]? = some o ∧ o.isCells = false) : Boxed W' B t v :=
  h.kept hg (not_cells_ne h hr)
theorem row_grown {W W' : World} {base sz n : Nat} {t : TypeId} {v : Value} {xs : List Value} (h : W.ownsRow base t sz v n xs) {row : Option Nat} (hg : W.grownBy W' row) (hr : ∀ r, row = some r → ∃ o : Obj, W.heap[r]? = some o ∧ o.isCells = false) : W'.ownsRow base t sz v n xs := by
  refine h.kept hg ?_
  cases hv : v.ownBlock with
  | none => exact .inl rfl
  | some g =>
    obtain ⟨_, cur, hc⟩ := own_block h hv
    exact .inr (not_cells_ne hc hr)
theorem WdI.alloc {w : World} {R X : Nat} {pre : List Wd} {W : World} (h : WdI w R X pre W) (o : Obj) : WdI w R X pre (W.alloc o) := by
  obtain ⟨v, h1, h2⟩ := h.o
  obtain ⟨u, h3, h4⟩ := h.q
  exact ⟨h.r2.alloc _, h.r3.alloc _, h.r4.alloc _, ⟨v, h1.alloc _, h2.alloc _⟩, ⟨u, h3.alloc _, h4.alloc _⟩, h.b.alloc h.b.size _, by have := h.sz; simp; omega, h.ok⟩
theorem WdI.own (w : World) (R X B : Nat) (hB : w.heap.size ≤ B) : OwnFrom B (WdI w R X) := fun pre A C row h hg hr => by
  have hr' := fun r e => (hr r e).2
  obtain ⟨v, h1, h2⟩ := h.o
  obtain ⟨u, h3, h4⟩ := h.q
  exact ⟨boxed_grown h.r2 hg hr', boxed_grown h.r3 hg hr', boxed_grown h.r4 hg hr', ⟨v, boxed_grown h1 hg hr', row_grown h2 hg hr'⟩, ⟨u, boxed_grown h3 hg hr', row_grown h4 hg hr'⟩, h.b.grown hg h.b.size (fun k e => Nat.le_trans hB (hr k e).1), Nat.le_trans h.sz hg.size, h.ok⟩
theorem WdX.own (w : World) (R B : Nat) (c : Code) (hB : w.heap.size ≤ B) : OwnFrom B (fun pre W => c = .ret ∧ WdX w R pre W) := fun pre A C row h hg hr => by
  have hr' := fun r e => (hr r e).2
  have h' := h.2
  exact ⟨h.1, boxed_grown h'.r2 hg hr', boxed_grown h'.r3 hg hr', boxed_grown h'.r4 hg hr', h'.b.grown hg h'.b.size (fun k e => Nat.le_trans hB (hr k e).1), h'.bad⟩

theorem wsGo_len (L : Nat) : ∀ (f : Nat) (r : Bs), (wsGo L f r).length ≤ f
  | 0, r => Nat.zero_le _
  | f + 1, r => by
    unfold wsGo
    split
    · exact Nat.zero_le _
    · split
      · simp
      · rename_i r' _
        have := wsGo_len L f r'
        simp only [List.length_cons]
        omega
theorem boxed_other {W : World} {B C : Nat} {t : TypeId} {v : Value} (h : Boxed W B t v) (hne : B ≠ C) (u : Value) : Boxed (W.setCell ⟨C, 0, none⟩ u) B t v :=
  h.kept (grownBy_setCell' W C u) (fun e => hne (by cases e; rfl))
/-- The three results are stored. -/
theorem set3 {W : World} {R : Nat} {v u c : Value} (v' u' c' : Value) (b2 : Boxed W R 23 v) (b3 : Boxed W (R + 1) 24 u) (b4 : Boxed W (R + 1 + 1) 25 c) :
    (Boxed (((W.setCell ⟨R, 0, none⟩ v').setCell ⟨R + 1, 0, none⟩ u').setCell ⟨R + 1 + 1, 0, none⟩ c') R 23 v' ∧ Boxed (((W.setCell ⟨R, 0, none⟩ v').setCell ⟨R + 1, 0, none⟩ u').setCell ⟨R + 1 + 1, 0, none⟩ c') (R + 1) 24 u' ∧ Boxed (((W.setCell ⟨R, 0, none⟩ v').setCell ⟨R + 1, 0, none⟩ u').setCell ⟨R + 1 + 1, 0, none⟩ c') (R + 1 + 1) 25 c') ∧
    KeepsOthers W (((W.setCell ⟨R, 0, none⟩ v').setCell ⟨R + 1, 0, none⟩ u').setCell ⟨R + 1 + 1, 0, none⟩ c') ∧ (∀ n, n ≤ R → Below n W (((W.setCell ⟨R, 0, none⟩ v').setCell ⟨R + 1, 0, none⟩ u').setCell ⟨R + 1 + 1, 0, none⟩ c')) :=
  ⟨⟨boxed_other (boxed_other (b2.set v') (by omega) _) (by omega) _, boxed_other ((boxed_other b3 (by omega) _).set u') (by omega) _, (boxed_other (boxed_other b4 (by omega) _) (by omega) _).set c'⟩,
    ((KeepsOthers.setCell _ _ _).trans (KeepsOthers.setCell _ _ _)).trans (KeepsOthers.setCell _ _ _),
    fun n hn => (((Below.refl n W).setCell (p := ⟨R, 0, none⟩) hn _).setCell (p := ⟨R + 1, 0, none⟩) (by show n ≤ R + 1; omega) _).setCell (p := ⟨R + 1 + 1, 0, none⟩) (by show n ≤ R + 1 + 1; omega) _⟩
/-- Rows of two types stay when the results' boxes are stored. -/
theorem row_set3 {W : World} {R : Nat} {v u c : Value} (v' u' c' : Value) (b2 : Boxed W R 23 v) (b3 : Boxed W (R + 1) 24 u) (b4 : Boxed W (R + 1 + 1) 25 c) {base sz n : Nat} {t : TypeId} {x : Value} {xs : List Value} (h : W.ownsRow base t sz x n xs) (h1 : t ≠ 23) (h2 : t ≠ 24) (h3 : t ≠ 25) :
    (((W.setCell ⟨R, 0, none⟩ v').setCell ⟨R + 1, 0, none⟩ u').setCell ⟨R + 1 + 1, 0, none⟩ c').ownsRow base t sz x n xs := by
  have s1 := own_other h (grownBy_setCell' W R v') (fun cur e => by rw [show W.heap[R]? = _ from b2] at e; cases e; exact h1 rfl)
  have b3' := boxed_other b3 (by omega : R + 1 ≠ R) v'
  have s2 := own_other s1 (grownBy_setCell' _ (R + 1) u') (fun cur e => by rw [show (W.setCell ⟨R, 0, none⟩ v').heap[R + 1]? = _ from b3'] at e; cases e; exact h2 rfl)
  have b4' := boxed_other (boxed_other b4 (by omega : R + 1 + 1 ≠ R) v') (by omega : R + 1 + 1 ≠ R + 1) u'
  exact own_other s2 (grownBy_setCell' _ (R + 1 + 1) c') (fun cur e => by rw [show ((W.setCell ⟨R, 0, none⟩ v').setCell ⟨R + 1, 0, none⟩ u').heap[R + 1 + 1]? = _ from b4'] at e; cases e; exact h3 rfl)
theorem ownsRow_base {W : World} {base base' sz n : Nat} {t : TypeId} {x : Value} {xs : List Value} (h : W.ownsRow base t sz x n xs) (hb : base' ≤ base) : W.ownsRow base' t sz x n xs := by
  refine ⟨h.1, ?_⟩
  rcases h.2 with h | ⟨g, cap, cur, e, hD, rest⟩
  · exact .inl h
  · exact .inr ⟨g, cap, cur, e, Nat.le_trans hb hD, rest⟩

theorem own_slice {W : World} {base sz n : Nat} {t : TypeId} {v : Value} {xs : List Value} (h : W.ownsRow base t sz v n xs) : ∃ p m c, v = .slice p m c := by
  rcases h.2 with ⟨rfl, _⟩ | ⟨g, cap, cur, rfl, _⟩
  · exact ⟨_, _, _, rfl⟩
  · exact ⟨_, _, _, rfl⟩

/-- What Words returns. -/
def wordsR (l : Bs) : List Wd × Int :=
  if readableR l ≠ 0 then ([], readableR l) else if (wsGo l.length (l.length + 1) l).any (fun x => decide (x.at_ < 0)) then ([], 250) else (wsGo l.length (l.length + 1) l, 0)
def wordsPost (w : World) (r : List Wd × Int) (e : Ending) (w' : World) : Prop :=
  ∃ v u, e = .returned (.tuple #[v, u, .int .i64 r.2]) ∧ w'.ownsRow w.heap.size 9 1 v r.1.length (strsOf r.1) ∧ w'.ownsRow w.heap.size 4 1 u r.1.length (boolsOf r.1) ∧ Below w.heap.size w w'

theorem words_results (tmps : Array Value) (W : World) (R : Nat) (v u : Value) (c : Int) (h2 : tmps.getD 2 undef = .pointer (some ⟨R, 0, none⟩)) (h3 : tmps.getD 3 undef = .pointer (some ⟨R + 1, 0, none⟩)) (h4 : tmps.getD 4 undef = .pointer (some ⟨R + 1 + 1, 0, none⟩))
    (b2 : Boxed W R 23 v) (b3 : Boxed W (R + 1) 24 u) (b4 : Boxed W (R + 1 + 1) 25 (.int .i64 c)) :
    (results Tryz.f8 tmps).run Tryz.prog W = .ok (.tuple #[v, u, .int .i64 c]) W := by
  have e2 : tmps[2]?.getD undef = .pointer (some ⟨R, 0, none⟩) := by simpa using h2
  have e3 : tmps[3]?.getD undef = .pointer (some ⟨R + 1, 0, none⟩) := by simpa using h3
  have e4 : tmps[4]?.getD undef = .pointer (some ⟨R + 1 + 1, 0, none⟩) := by simpa using h4
  have c2 := b2.cell
  have c3 := b3.cell
  have c4 := b4.cell
  simp [results, Tryz.results8, e2, e3, e4, asAddr, go_sem, c2, c3, c4]

set_option maxHeartbeats 8000000 in
theorem words_calls (line : ByteArray) (hl9 : line.size ≤ 100000) (w : World) :
    Calls Tryz.prog 8 #[.string line] w fun e w' => wordsPost w (wordsR (bl line)) e w' := by
  have hl : line.size ≤ 1000000 := by omega
  refine (callsIn_wide (n := 1)).1 ?_
  have HRD := Lib.hid (readable_calls line hl)
  refine callsIn_of_wp_marks Tryz.func8 rfl trivial ?_ rfl
  simp only [Tryz.ntmps8, List.size_toArray, List.length_cons, List.length_nil, Nat.reduceAdd, Nat.reduceSub, Array.replicate_succ, Array.replicate_zero, List.push_toArray, List.append_toArray, List.nil_append, List.cons_append]
  obtain ⟨wR, hwR⟩ : ∃ wR, ((w.alloc (.cells #[.slice none 0 0] 23)).alloc (.cells #[.slice none 0 0] 24)).alloc (.cells #[.int .i64 0] 25) = wR := ⟨_, rfl⟩
  have bR2 : Boxed wR w.heap.size 23 (.slice none 0 0) := by rw [← hwR]; exact ((Boxed.new w _ _).alloc _).alloc _
  have bR3 : Boxed wR (w.heap.size + 1) 24 (.slice none 0 0) := by
    rw [← hwR]
    have := (Boxed.new (w.alloc (.cells #[.slice none 0 0] 23)) 24 (.slice none 0 0)).alloc (.cells #[.int .i64 0] 25)
    rw [World.size_alloc] at this
    exact this
  have bR4 : Boxed wR (w.heap.size + 1 + 1) 25 (.int .i64 0) := by
    rw [← hwR]
    have := Boxed.new ((w.alloc (.cells #[.slice none 0 0] 23)).alloc (.cells #[.slice none 0 0] 24)) 25 (.int .i64 0)
    rw [World.size_alloc, World.size_alloc] at this
    exact this
  have hBR : Below w.heap.size w wR := by rw [← hwR]; exact (((Below.refl _ w).alloc (Nat.le_refl _) _).alloc (by simp) _).alloc (by simp; omega) _
  have hzR : w.heap.size + 1 + 1 < wR.heap.size := bR4.lt
  have HWR := Lib.hid hwR
  obtain ⟨ec, hec⟩ : ∃ ec, readableR (bl line) = ec := ⟨_, rfl⟩
  have HRD2 : Hid (Calls Tryz.prog 24 #[.string line] wR fun e w' => e = .returned (.int .i64 ec) ∧ Below wR.heap.size wR w') := Lib.hid (by
    have := HRD.out wR
    rw [hec] at this
    exact this)
  have HEC := Lib.hid hec
  clear hwR HRD hec
  by_cases he0 : ec = 0
  · subst he0
    gi_wp2_with fail
    rw [HWR.out]
    refine ⟨trivial, callsIn_wide.2 (HRD2.out.mono ?_)⟩
    rintro e w1 ⟨rfl, b1⟩
    have d2 : Boxed w1 w.heap.size 23 (.slice none 0 0) := (b1.block _ (by omega)).trans bR2
    have d3 : Boxed w1 (w.heap.size + 1) 24 (.slice none 0 0) := (b1.block _ (by omega)).trans bR3
    have d4 : Boxed w1 (w.heap.size + 1 + 1) 25 (.int .i64 0) := (b1.block _ (by omega)).trans bR4
    have hB1 : Below w.heap.size w w1 := hBR.trans (b1.mono hBR.size)
    have hz1 := b1.size
    gi_wp2_with fail
    refine ⟨trivial, (words_in line _).mono ?_⟩
    rintro e w2 ⟨rfl, rfl⟩
    obtain ⟨Ws, hWs⟩ : ∃ Ws, ((w1.alloc (.cells #[.slice none 0 0] 23)).alloc (.cells #[.slice none 0 0] 24)).alloc (.cells #[.string line] 9) = Ws := ⟨_, rfl⟩
    have hsW : Ws.heap.size = w1.heap.size + 1 + 1 + 1 := by rw [← hWs]; simp
    have eO : Boxed Ws w1.heap.size 23 (.slice none 0 0) := by rw [← hWs]; exact ((Boxed.new w1 _ _).alloc _).alloc _
    have eQ : Boxed Ws (w1.heap.size + 1) 24 (.slice none 0 0) := by
      rw [← hWs]
      have := (Boxed.new (w1.alloc (.cells #[.slice none 0 0] 23)) 24 (.slice none 0 0)).alloc (.cells #[.string line] 9)
      rw [World.size_alloc] at this
      exact this
    have eL : Boxed Ws (w1.heap.size + 1 + 1) 9 (.string line) := by
      rw [← hWs]
      have := Boxed.new ((w1.alloc (.cells #[.slice none 0 0] 23)).alloc (.cells #[.slice none 0 0] 24)) 9 (.string line)
      rw [World.size_alloc, World.size_alloc] at this
      exact this
    have e2 : Boxed Ws w.heap.size 23 (.slice none 0 0) := by rw [← hWs]; exact ((d2.alloc _).alloc _).alloc _
    have e3 : Boxed Ws (w.heap.size + 1) 24 (.slice none 0 0) := by rw [← hWs]; exact ((d3.alloc _).alloc _).alloc _
    have e4 : Boxed Ws (w.heap.size + 1 + 1) 25 (.int .i64 0) := by rw [← hWs]; exact ((d4.alloc _).alloc _).alloc _
    have hBs : Below w.heap.size w Ws := by rw [← hWs]; exact ((hB1.alloc hB1.size _).alloc (by have := hB1.size; simp; omega) _).alloc (by have := hB1.size; simp; omega) _
    have HWs := Lib.hid hWs
    have HS := Lib.hid hsW
    have hsz := hB1.size
    rw [World.size_alloc, World.size_alloc]
    clear hWs hsW
    gi_wp2
    rw [HWs.out]
    refine wpIn_rangeFunc_ownH (n := 1) rfl (Nat.le_refl _) (gf := 44) (lb := #[.pointer (some ⟨w1.heap.size + 1 + 1, 0, none⟩)]) rfl trivial (enters_of Tryz.func44 (by kernel_rfl) rfl)
      (words_stops (w1.heap.size + 1 + 1) w.heap.size line hl Ws (by have := HS.out; omega) (by have := HS.out; omega) eL.cell) KpW.t (fun W l o o' hl' ho _ _ => KpW.put W l o o' (by have := HS.out; omega) (by have := HS.out; omega) ho) (Below.refl _ _) (fun _ => rfl)
      (WdI w w.heap.size w1.heap.size) (fun c pre W => c = .ret ∧ WdX w w.heap.size pre W) (WdI.own _ _ _ _ (by have := HS.out; omega)) (fun c => WdX.own _ _ _ _ (by have := HS.out; omega))
      ⟨e2, e3, e4, ⟨_, eO, World.ownsRow_nil _ _ _ _⟩, ⟨_, eQ, World.ownsRow_nil _ _ _ _⟩, hBs, by have := HS.out; omega, fun x hx => by cases hx⟩
      (fun x a' W => ∃ Bx, w1.heap.size + 1 + 1 < Bx ∧ W.heap[Bx]? = some (.cells #[.string (mkS x.s), .int .i64 x.at_, .bool x.q] 58 (0, 0)) ∧ a' = { tmps := #[.string line, undef, .pointer (some ⟨w.heap.size, 0, none⟩), .pointer (some ⟨w.heap.size + 1, 0, none⟩), .pointer (some ⟨w.heap.size + 1 + 1, 0, none⟩), .int .i64 0, .pointer (some ⟨w1.heap.size, 0, none⟩), .pointer (some ⟨w1.heap.size + 1, 0, none⟩), .pointer (some ⟨Bx, 0, none⟩), .string line, .int .i64 0, .int .i64 0, .bool false, undef, .string line, .func (.func 44) #[] #[.pointer (some ⟨w1.heap.size + 1 + 1, 0, none⟩)], x.val, undef, undef, undef, undef, undef, undef, undef, undef, undef, undef, undef, undef, undef, undef, undef], defers := [] })
      (fun x a' _ A C row hs hg hr => by
        obtain ⟨Bx, h1, h2, h3⟩ := hs
        refine ⟨Bx, h1, ?_, h3⟩
        rw [hg.block Bx (Array.getElem?_eq_some_iff.1 h2).1 (not_cells_ne h2 (fun r e => (hr r e).2))]
        exact h2)
      ?assign ?body ?done ?stop
    case assign =>
      rintro l pre ⟨xs, xa, xq⟩ W K hi hK
      have hsz2 := hi.sz
      have HI := Lib.hid hi
      clear hi
      unfold Wd.val
      dsimp only
      gi_wp2
      refine hK _ _ ((KeepsOthers.alloc _ _).from _) (KpW.below ((Below.refl _ W).alloc (Nat.le_refl _) _) (by omega) (by omega)) (HI.out.alloc _) ⟨W.heap.size, by omega, Go.heap_alloc_new W _, rfl⟩
    case body =>
      rintro l pre ⟨xs, xa, xq⟩ a' W hl' ⟨r, hr⟩ hi ⟨Bx, hBx, bX, rfl⟩ hlt
      have hsz2 := hi.sz
      have HI := Lib.hid hi
      have x1 : W.cell? ⟨Bx, 1, none⟩ = some (.int .i64 xa) := cellOf bX
      have y2 := hi.r2.cell
      have y3 := hi.r3.cell
      have y4 := hi.r4.cell
      have z2 := hi.r2.frozen
      have z3 := hi.r3.frozen
      have z4 := hi.r4.frozen
      clear hi
      unfold Wd.val
      dsimp only
      by_cases hneg : xa < 0
      · have hd : decide (xa < 0) = true := by simpa using hneg
        have HNEG := Lib.hid hneg
        clear hneg
        gi_wp2
        have hi := HI.out
        obtain ⟨⟨k2, k3, k4⟩, ko, kb⟩ := set3 (.slice none 0 0) (.slice none 0 0) (.int .i64 250) hi.r2 hi.r3 hi.r4
        exact ⟨ko.from _, rfl, ⟨k2, k3, k4, hi.b.trans (kb _ (Nat.le_refl _)), ⟨xs, xa, xq⟩, by simp, HNEG.out⟩⟩
      · have hd : decide (xa < 0) = false := by simpa using hneg
        have HNEG := Lib.hid hneg
        clear hneg
        obtain ⟨vo, ho1, ho2⟩ := HI.out.o
        obtain ⟨vq, hq1, hq2⟩ := HI.out.q
        have HO := Lib.hid (And.intro ho1 (And.intro ho2 (And.intro hq1 hq2)))
        clear ho1 ho2 hq1 hq2
        have hwl := wsGo_len line.size (line.size + 1) (bl line)
        gi_wp2
        refine region_two (pl := xa) (n0 := w1.heap.size + 1 + 1 + 1) (k := pre.length) (by constructor <;> rfl) HO.out.1 HO.out.2.2.1 HO.out.2.1 HO.out.2.2.2 (by omega) (by omega) bX ?_
        intro u20 u21 u22 u23 u24 u25 u26 u27 u28 u29 w' hOld k6 k7 rO rQ
        have hi := HI.out
        have hne : ∀ j, j < w1.heap.size + 1 + 1 + 1 → j ≠ w1.heap.size → j ≠ w1.heap.size + 1 → w'.heap[j]? = W.heap[j]? := fun j hj h1 h2 => hOld.block j (by omega) (fun e => by
          rcases e with e | e | e | e
          · exact h1 e
          · exact h2 e
          · have := (own_block HO.out.2.1 e).1; omega
          · have := (own_block HO.out.2.2.2 e).1; omega)
        have hBel : Below w.heap.size W w' := ⟨hOld.os, hOld.tape, hOld.output, hOld.size, fun j hj => hne j (by omega) (by omega) (by omega)⟩
        refine ⟨⟨hOld.size, fun j o hj ho hc => ?_⟩, ⟨hne _ (by omega) (by omega) (by omega), hBel⟩, ⟨(hne _ (by omega) (by omega) (by omega)).trans hi.r2, (hne _ (by omega) (by omega) (by omega)).trans hi.r3, (hne _ (by omega) (by omega) (by omega)).trans hi.r4, ⟨u24, k6, ?_⟩, ⟨u29, k7, ?_⟩, hi.b.trans hBel, Nat.le_trans hsz2 hOld.size, fun x hx => ?_⟩⟩
        · refine (hOld.block j (Array.getElem?_eq_some_iff.1 ho).1 (fun e => ?_)).trans ho
          rcases e with e | e | e | e
          · have h1 : W.heap[w1.heap.size]? = _ := HO.out.1; rw [← e, ho] at h1; cases h1; cases hc
          · have h1 : W.heap[w1.heap.size + 1]? = _ := HO.out.2.2.1; rw [← e, ho] at h1; cases h1; cases hc
          · obtain ⟨_, cur, h1⟩ := own_block HO.out.2.1 e; rw [ho] at h1; cases h1; cases hc
          · obtain ⟨_, cur, h1⟩ := own_block HO.out.2.2.2 e; rw [ho] at h1; cases h1; cases hc
        · unfold strsOf at rO ⊢
          rw [List.length_append, List.map_append]
          exact rO
        · unfold boolsOf at rQ ⊢
          rw [List.length_append, List.map_append]
          exact rQ
        · rcases List.mem_append.1 hx with hx | hx
          · exact hi.ok x hx
          · have : x = ⟨xs, xa, xq⟩ := by simpa using hx
            subst this
            have := HNEG.out
            show 0 ≤ xa
            omega
    case done =>
      rintro D ys W hD rfl hi hK
      have HI := Lib.hid hi
      obtain ⟨vo, ho1, ho2⟩ := hi.o
      obtain ⟨vq, hq1, hq2⟩ := hi.q
      have y2 := hi.r2.cell
      have y3 := hi.r3.cell
      have y4 := hi.r4.cell
      have z2 := hi.r2.frozen
      have z3 := hi.r3.frozen
      have z4 := hi.r4.frozen
      have c6 := ho1.cell
      have c7 := hq1.cell
      clear hi
      obtain ⟨po, mo, co, rfl⟩ := own_slice ho2
      obtain ⟨pq, mq, cq, rfl⟩ := own_slice hq2
      have HO := Lib.hid (And.intro ho1 (And.intro ho2 (And.intro hq1 hq2)))
      clear ho1 ho2 hq1 hq2
      gi_wp2
      gi_region
      all_goals gi_wp2
      have hi := HI.out
      obtain ⟨ho1, ho2, hq1, hq2⟩ := HO.out
      obtain ⟨⟨k2, k3, k4⟩, ko, kb⟩ := set3 (.slice po mo co) (.slice pq mq cq) (.int .i64 0) hi.r2 hi.r3 hi.r4
      have rO := row_set3 (.slice po mo co) (.slice pq mq cq) (.int .i64 0) hi.r2 hi.r3 hi.r4 ho2 (by decide) (by decide) (by decide)
      have rQ := row_set3 (.slice po mo co) (.slice pq mq cq) (.int .i64 0) hi.r2 hi.r3 hi.r4 hq2 (by decide) (by decide) (by decide)
      have kB := hi.b.trans (kb _ (Nat.le_refl _))
      obtain ⟨W4, hW4⟩ : ∃ W4, ((W.setCell ⟨w.heap.size, 0, none⟩ (.slice po mo co)).setCell ⟨w.heap.size + 1, 0, none⟩ (.slice pq mq cq)).setCell ⟨w.heap.size + 1 + 1, 0, none⟩ (.int .i64 0) = W4 := ⟨_, rfl⟩
      rw [hW4] at k2 k3 k4 ko rO rQ kB
      rw [hW4]
      have hK4 : W4.drew.heap[D]? = some (.deferred (some [])) := ko.same D _ hK rfl
      refine ⟨by simp, .inl ⟨_, _, rfl, run_takeDeferred hK4, ?_⟩⟩
      have hg := grownBy_putObj' W4.drew D (.deferred none)
      have hrow : ∀ r, (some D : Option Nat) = some r → ∃ o : Obj, W4.drew.heap[r]? = some o ∧ o.isCells = false := fun r e => by cases e; exact ⟨_, hK4, rfl⟩
      refine ⟨_, words_results _ _ w.heap.size (.slice po mo co) (.slice pq mq cq) 0 rfl rfl rfl (boxed_grown (W := W4.drew) k2 hg hrow) (boxed_grown (W := W4.drew) k3 hg hrow) (boxed_grown (W := W4.drew) k4 hg hrow), ?_⟩
      have HR : wordsR (bl line) = (wsGo line.size (line.size + 1) (bl line), 0) := by
        unfold wordsR
        rw [HEC.out, if_neg (by simp), if_neg, bl_len]
        intro h
        rw [bl_len] at h
        obtain ⟨x, hx1, hx2⟩ := List.any_eq_true.1 h
        have := hi.ok x hx1
        simp at hx2
        omega
      rw [HR]
      exact ⟨_, _, rfl, ownsRow_base (row_grown (W := W4.drew) rO hg hrow) (by omega), ownsRow_base (row_grown (W := W4.drew) rQ hg hrow) (by omega), kB.drew.grown hg kB.drew.size (fun k e => by cases e; have := HS.out; omega)⟩
    case stop =>
      rintro D c pre W hD hS ⟨rfl, hX⟩ hK
      gi_wp2
      refine ⟨by simp, .inl ⟨_, _, rfl, run_takeDeferred hK, ?_⟩⟩
      have hg := grownBy_putObj' W D (.deferred none)
      have hrow : ∀ r, (some D : Option Nat) = some r → ∃ o : Obj, W.heap[r]? = some o ∧ o.isCells = false := fun r e => by cases e; exact ⟨_, hK, rfl⟩
      refine ⟨_, words_results _ _ w.heap.size (.slice none 0 0) (.slice none 0 0) 250 rfl rfl rfl (boxed_grown hX.r2 hg hrow) (boxed_grown hX.r3 hg hrow) (boxed_grown hX.r4 hg hrow), ?_⟩
      have HR : wordsR (bl line) = ([], 250) := by
        unfold wordsR
        rw [HEC.out, if_neg (by simp), if_pos]
        obtain ⟨x, hx1, hx2⟩ := hX.bad
        rw [bl_len]
        exact List.any_eq_true.2 ⟨x, hS.subset hx1, by simpa using hx2⟩
      rw [HR]
      exact ⟨_, _, rfl, World.ownsRow_nil _ _ _ _, World.ownsRow_nil _ _ _ _, hX.b.grown hg hX.b.size (fun k e => by cases e; have := HS.out; omega)⟩
  · have hcn : (ec != 0) = true := by simpa using he0
    have HR : Hid (wordsR (bl line) = ([], ec)) := Lib.hid (by unfold wordsR; rw [HEC.out, if_pos he0])
    clear he0
    gi_wp2_with fail
    rw [HWR.out]
    refine ⟨trivial, callsIn_wide.2 (HRD2.out.mono ?_)⟩
    rintro e w1 ⟨rfl, b1⟩
    have c2 : w1.cell? ⟨w.heap.size, 0, none⟩ = some (.slice none 0 0) := (b1.cell (p := ⟨w.heap.size, 0, none⟩) (by show w.heap.size < _; omega)).trans bR2.cell
    have c3 : w1.cell? ⟨w.heap.size + 1, 0, none⟩ = some (.slice none 0 0) := (b1.cell (p := ⟨w.heap.size + 1, 0, none⟩) (by show w.heap.size + 1 < _; omega)).trans bR3.cell
    have c4 : w1.cell? ⟨w.heap.size + 1 + 1, 0, none⟩ = some (.int .i64 0) := (b1.cell (p := ⟨w.heap.size + 1 + 1, 0, none⟩) (by show w.heap.size + 1 + 1 < _; omega)).trans bR4.cell
    have z2 : w1.frozen? ⟨w.heap.size, 0, none⟩ = false := (b1.frozen (p := ⟨w.heap.size, 0, none⟩) (by show w.heap.size < _; omega)).trans bR2.frozen
    have z3 : w1.frozen? ⟨w.heap.size + 1, 0, none⟩ = false := (b1.frozen (p := ⟨w.heap.size + 1, 0, none⟩) (by show w.heap.size + 1 < _; omega)).trans bR3.frozen
    have z4 : w1.frozen? ⟨w.heap.size + 1 + 1, 0, none⟩ = false := (b1.frozen (p := ⟨w.heap.size + 1 + 1, 0, none⟩) (by show w.heap.size + 1 + 1 < _; omega)).trans bR4.frozen
    gi_wp2
    obtain ⟨⟨k2, k3, k4⟩, ko, kb⟩ := set3 (.slice none 0 0) (.slice none 0 0) (.int .i64 ec) (show Boxed w1 w.heap.size 23 (.slice none 0 0) from (b1.block _ (by omega)).trans bR2) (show Boxed w1 (w.heap.size + 1) 24 (.slice none 0 0) from (b1.block _ (by omega)).trans bR3) (show Boxed w1 (w.heap.size + 1 + 1) 25 (.int .i64 0) from (b1.block _ (by omega)).trans bR4)
    refine ⟨_, words_results _ _ w.heap.size (.slice none 0 0) (.slice none 0 0) ec rfl rfl rfl k2 k3 k4, ?_⟩
    rw [HR.out]
    exact ⟨_, _, rfl, World.ownsRow_nil _ _ _ _, World.ownsRow_nil _ _ _ _, (hBR.trans (b1.mono hBR.size)).trans (kb _ (Nat.le_refl _))⟩
end Go.Proofs.YtojppincaalibaaGreatDoor
