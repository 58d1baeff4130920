/- The memory of a fitter; the walk of (*args.fitter).give. -/
import Derived.Test.YtojppincaalibaaGreatDoorFitA
import Derived.Deep.RegionHeld3
import Derived.StillTailTactics
import Derived.Deep.AppendLies
set_option linter.unusedVariables false
set_option linter.unusedSimpArgs false
set_option maxRecDepth 100000
namespace Go.Proofs.YtojppincaalibaaGreatDoor
open Go.Shelf Go.RowKit

def strC (l : List Bs) : List Value := l.map fun x => Value.string (mkS x)

/-- A row of arguments at block G: vs are their slices of values. -/
structure ArgRow (w : World) (B G cap : Nat) (C : Array Value) (vs : List Value) (ag : List Ag) : Prop where
  hB : B ≤ G
  heap : w.heap[G]? = some (.cells C 69 (0, 0))
  size : C.size = cap * 3
  len : vs.length = ag.length
  le : ag.length ≤ cap
  at0 : ∀ i (h : i < ag.length), C[i * 3]? = some (.string (mkS ag[i].name))
  at1 : ∀ i (h : i < ag.length) (h' : i < vs.length), C[i * 3 + 1]? = some vs[i]
  at2 : ∀ i (h : i < ag.length), C[i * 3 + 2]? = some (.bool ag[i].set)
  own : ∀ i (h : i < ag.length) (h' : i < vs.length), w.ownsRow B 9 1 vs[i] ag[i].vals.length (strC ag[i].vals)
  apart : ∀ i j (h : i < vs.length) (h' : j < vs.length), i ≠ j → vs[i].ownBlock = none ∨ vs[i].ownBlock ≠ vs[j].ownBlock
def ArgsM (w : World) (B : Nat) (ov : Value) (ag : List Ag) : Prop :=
  (ag = [] ∧ ov = .slice none 0 0) ∨ ∃ G cap C vs, ov = .slice (some ⟨G, 0, none⟩) ag.length cap ∧ ArgRow w B G cap C vs ag
def NamedM (w : World) (B : Nat) (nv : Value) (nm : List Bool) : Prop :=
  ∃ nb cap N, nv = .slice (some ⟨nb, 0, none⟩) nm.length cap ∧ B ≤ nb ∧ w.heap[nb]? = some (.cells N 4 (0, 0)) ∧ ∀ i (h : i < nm.length), N[i]? = some (.bool nm[i])

/-- The fitter at block F. -/
structure FS (w : World) (B D F : Nat) (iv : Value) (bs : List Nat) (xs : List It) (line : ByteArray) (st : FSt) (ov nv : Value) : Prop where
  it : ItemsR w B iv bs xs
  le : st.r.length ≤ line.size
  suf : st.r = (bl line).drop (line.size - st.r.length)
  hF : B ≤ D ∧ D ≤ F
  fb : w.heap[F]? = some (.cells #[iv, .string line, .int .i64 ((line.size : Int) - st.r.length), ov, nv] 86 (0, 0))
  itF : (∀ b, b ∈ bs → b < D) ∧ (∀ g, iv.ownBlock = some g → g < D)
  ar : ArgsM w D ov st.ag
  nr : NamedM w D nv st.nm
  la : st.ag.length = xs.length
  ln : st.nm.length = xs.length
  vb : ∀ a, a ∈ st.ag → a.vals.length + st.r.length ≤ line.size
  l1 : line.size ≤ 1000
  xl : xs.length ≤ 1000000
  xn : ∀ x, x ∈ xs → x.names.length ≤ 2000000

theorem own_below {w w' : World} {B n : Nat} {t : TypeId} {sz : Nat} {v : Value} {xs : List Value} (h : w.ownsRow B t sz v n xs) (hb : Below w.heap.size w w') : w'.ownsRow B t sz v n xs :=
  h.kept (grown_of_below (B := 0) hb) (by cases v.ownBlock <;> simp)
theorem ArgRow.below {w w' : World} {B G cap : Nat} {C : Array Value} {vs : List Value} {ag : List Ag} (h : ArgRow w B G cap C vs ag) (hb : Below w.heap.size w w') : ArgRow w' B G cap C vs ag :=
  ⟨h.hB, (hb.block _ (Array.getElem?_eq_some_iff.1 h.heap).1).trans h.heap, h.size, h.len, h.le, h.at0, h.at1, h.at2, fun i a b => own_below (h.own i a b) hb, h.apart⟩
theorem ArgsM.below {w w' : World} {B : Nat} {ov : Value} {ag : List Ag} (h : ArgsM w B ov ag) (hb : Below w.heap.size w w') : ArgsM w' B ov ag := by
  rcases h with h | ⟨G, cap, C, vs, h1, h2⟩
  · exact .inl h
  · exact .inr ⟨G, cap, C, vs, h1, h2.below hb⟩
theorem NamedM.below {w w' : World} {B : Nat} {nv : Value} {nm : List Bool} (h : NamedM w B nv nm) (hb : Below w.heap.size w w') : NamedM w' B nv nm := by
  obtain ⟨nb, cap, N, h1, h2, h3, h4⟩ := h
  exact ⟨nb, cap, N, h1, h2, (hb.block _ (Array.getElem?_eq_some_iff.1 h3).1).trans h3, h4⟩
theorem FS.below {w w' : World} {B D F : Nat} {iv : Value} {bs : List Nat} {xs : List It} {line : ByteArray} {st : FSt} {ov nv : Value} (h : FS w B D F iv bs xs line st ov nv) (hb : Below w.heap.size w w') : FS w' B D F iv bs xs line st ov nv :=
  ⟨h.it.below hb, h.le, h.suf, h.hF, (hb.block _ (Array.getElem?_eq_some_iff.1 h.fb).1).trans h.fb, h.itF, h.ar.below hb, h.nr.below hb, h.la, h.ln, h.vb, h.l1, h.xl, h.xn⟩

theorem FS.f0 {w : World} {B D F : Nat} {iv : Value} {bs : List Nat} {xs : List It} {line : ByteArray} {st : FSt} {ov nv : Value} (h : FS w B D F iv bs xs line st ov nv) :
    w.cell? ⟨F, 0, none⟩ = some iv ∧ w.cell? ⟨F, 1, none⟩ = some (.string line) ∧ w.cell? ⟨F, 2, none⟩ = some (.int .i64 ((line.size : Int) - st.r.length)) ∧ w.cell? ⟨F, 3, none⟩ = some ov ∧ w.cell? ⟨F, 4, none⟩ = some nv :=
  ⟨cellOf h.fb, cellOf h.fb, cellOf h.fb, cellOf h.fb, cellOf h.fb⟩

theorem ItemsR.belowF {w w' : World} {B F : Nat} {v : Value} {bs : List Nat} {xs : List It} (h : ItemsR w B v bs xs) (hF : (∀ b, b ∈ bs → b < F) ∧ (∀ g, v.ownBlock = some g → g < F)) (hb : Below F w w') : ItemsR w' B v bs xs := by
  refine ⟨h.1, ?_, fun i hi hi' => ?_⟩
  · refine ⟨h.2.1.1, ?_⟩
    rcases h.2.1.2 with hn | ⟨g, cap, cur, rfl, hB, hh, rest⟩
    · exact .inl hn
    · exact .inr ⟨g, cap, cur, rfl, hB, (hb.block g (hF.2 g rfl)).trans hh, rest⟩
  · obtain ⟨h1, h2, h3⟩ := h.2.2 i hi hi'
    exact ⟨h1, Nat.lt_of_lt_of_le h2 hb.size, h3.below hb (hF.1 _ (List.getElem_mem _))⟩

def fsPost (B D F : Nat) (iv : Value) (bs : List Nat) (xs : List It) (line : ByteArray) (ov nv : Value) (r : Option FSt) (e : Ending) (w' : World) : Prop :=
  match r with
  | none => e = .returned (.bool false)
  | some st' => e = .returned (.bool true) ∧ FS w' B D F iv bs xs line st' ov nv

/-- The memory of an item, read out of the row. -/
theorem ItemsR.c7 {w : World} {B g n cap : Nat} {bs : List Nat} {xs : List It} (h : ItemsR w B (.slice (some ⟨g, 0, none⟩) n cap) bs xs) (i : Nat) (hi : i < xs.length) :
    ∃ (b : Nat) (c0 c1 c2 c3 c4 c5 : Bool), B ≤ b ∧ b < w.heap.size ∧ StrB w b xs[i].names ∧ itC b xs[i] = [.slice (some ⟨b, 0, none⟩) xs[i].names.length xs[i].names.length, .bool c0, .bool c1, .bool c2, .bool c3, .bool c4, .bool c5] ∧
      (xs[i].m.testBit 0 = c0 ∧ xs[i].m.testBit 1 = c1 ∧ xs[i].m.testBit 2 = c2 ∧ xs[i].m.testBit 3 = c3 ∧ xs[i].m.testBit 4 = c4 ∧ xs[i].m.testBit 5 = c5) ∧
      (w.cell? ⟨g, i * 7, none⟩ = some (.slice (some ⟨b, 0, none⟩) xs[i].names.length xs[i].names.length) ∧ w.cell? ⟨g, i * 7 + 1, none⟩ = some (.bool c0) ∧ w.cell? ⟨g, i * 7 + 2, none⟩ = some (.bool c1) ∧ w.cell? ⟨g, i * 7 + 3, none⟩ = some (.bool c2) ∧ w.cell? ⟨g, i * 7 + 4, none⟩ = some (.bool c3) ∧ w.cell? ⟨g, i * 7 + 5, none⟩ = some (.bool c4) ∧ w.cell? ⟨g, i * 7 + 6, none⟩ = some (.bool c5)) := by
  have hib : i < bs.length := by rw [h.1]; exact hi
  obtain ⟨h1, h2, h3⟩ := h.2.2 i hi hib
  have hc := h.cells i hi hib
  exact ⟨bs[i], _, _, _, _, _, _, h1, h2, h3, rfl, ⟨rfl, rfl, rfl, rfl, rfl, rfl⟩, hc 0 _ rfl, hc 1 _ rfl, hc 2 _ rfl, hc 3 _ rfl, hc 4 _ rfl, hc 5 _ rfl, hc 6 _ rfl⟩

theorem grown_set (w : World) (a : Addr) (u : Value) : w.grownBy (w.setCell a u) (some a.block) :=
  ⟨rfl, rfl, rfl, by simp, fun k hk hne => Go.heap_setCell_other w a k u (fun e => hne (by rw [e]))⟩
theorem own_block {w : World} {B n : Nat} {t : TypeId} {sz : Nat} {v : Value} {xs : List Value} (h : w.ownsRow B t sz v n xs) {g : Nat} (hv : v.ownBlock = some g) : B ≤ g ∧ ∃ cur, w.heap[g]? = some (.cells cur t (0, 0)) := by
  rcases h.2 with ⟨rfl, _⟩ | ⟨g', cap, cur, rfl, hb, hh, _⟩
  · simp [Value.ownBlock] at hv
  · have : g' = g := by simpa [Value.ownBlock] using hv
    subst this
    exact ⟨hb, cur, hh⟩
/-- A row stays when a block of another type is turned. -/
theorem own_other {w w' : World} {B n g : Nat} {t : TypeId} {sz : Nat} {v : Value} {xs : List Value} (h : w.ownsRow B t sz v n xs) (hg : w.grownBy w' (some g)) (ho : ∀ cur, w.heap[g]? ≠ some (.cells cur t (0, 0))) : w'.ownsRow B t sz v n xs := by
  refine h.kept hg ?_
  cases hv : v.ownBlock with
  | none => exact .inl rfl
  | some g' =>
    refine .inr fun e => ?_
    cases e
    obtain ⟨_, cur, hc⟩ := own_block h hv
    exact ho cur hc
theorem strC_snoc (l : List Bs) (x : Bs) : strC l ++ [.string (mkS x)] = strC (l ++ [x]) := by simp [strC]

theorem ArgRow.give {w wA w8 : World} {B G cap : Nat} {C : Array Value} {vs : List Value} {ag : List Ag} (h : ArgRow w B G cap C vs ag) (i : Nat) (hi : i < ag.length) (hiv : i < vs.length) (v : Bs) (o : Obj)
    (hwA : wA.heap = ((w.setCell ⟨G, i * 3 + 2, none⟩ (.bool true)).alloc o).heap) {g' cap' n : Nat} (hn : n = ag[i].vals.length) (ho : w8.ownsRow B 9 1 (.slice (some ⟨g', 0, none⟩) (n + 1) cap') (n + 1) (strC ag[i].vals ++ [.string (mkS v)]))
    (hg : wA.grownBy w8 vs[i].ownBlock) (hat : vs[i].ownBlock = some g' ∨ g' = wA.heap.size) :
    ArgRow (w8.setCell ⟨G, i * 3 + 1, none⟩ (.slice (some ⟨g', 0, none⟩) (n + 1) cap')) B G cap ((C.setIfInBounds (i * 3 + 2) (.bool true)).setIfInBounds (i * 3 + 1) (.slice (some ⟨g', 0, none⟩) (n + 1) cap')) (vs.set i (.slice (some ⟨g', 0, none⟩) (n + 1) cap')) (ag.set i ⟨ag[i].name, ag[i].vals ++ [v], true⟩) := by
  subst hn
  have hszA : wA.heap.size = w.heap.size + 1 := by rw [hwA]; simp
  have hGl := (Array.getElem?_eq_some_iff.1 h.heap).1
  have hG7 := heapSet (i := i * 3 + 2) (.bool true) h.heap
  have hGA : ((w.setCell ⟨G, i * 3 + 2, none⟩ (.bool true)).alloc o).heap[G]? = some (.cells (C.setIfInBounds (i * 3 + 2) (.bool true)) 69 (0, 0)) := by
    rw [Lib.alloc_old _ _ _ (by simpa using hGl)]; exact hG7
  have hne : ∀ j (hj : j < ag.length) (hjv : j < vs.length), some G ≠ vs[j].ownBlock := fun j hj hjv => type_ne_own (h.own j hj hjv) (by decide) h.heap
  have hG8 : w8.heap[G]? = some (.cells (C.setIfInBounds (i * 3 + 2) (.bool true)) 69 (0, 0)) := (hg.block G (by omega) (hne i hi hiv)).trans (by rw [hwA]; exact hGA)
  have hsz := h.size
  have hle := h.le
  have hC2 : ∀ k, (C.setIfInBounds (i * 3 + 2) (.bool true))[k]? = if k = i * 3 + 2 then some (.bool true) else C[k]? := fun k => by
    rw [Array.getElem?_setIfInBounds]
    by_cases e : k = i * 3 + 2
    · subst e; simp; omega
    · rw [if_neg (Ne.symm e), if_neg e]
  have hC1 : ∀ k u, ((C.setIfInBounds (i * 3 + 2) (.bool true)).setIfInBounds (i * 3 + 1) u)[k]? = if k = i * 3 + 1 then some u else if k = i * 3 + 2 then some (.bool true) else C[k]? := fun k u => by
    rw [Array.getElem?_setIfInBounds]
    by_cases e : k = i * 3 + 1
    · subst e; simp; omega
    · rw [if_neg (Ne.symm e), if_neg e, hC2]
  refine ⟨h.hB, heapSet _ hG8, by simpa using hsz, by simpa using h.len, by simpa using hle, ?_, ?_, ?_, ?_, ?_⟩
  · intro j hj
    rw [List.length_set] at hj
    rw [hC1, if_neg (by omega), if_neg (by omega), h.at0 j hj, List.getElem_set]
    split
    · rename_i e; subst e; rfl
    · rfl
  · intro j hj hjv
    rw [List.length_set] at hj hjv
    rw [hC1, List.getElem_set]
    by_cases e : i = j
    · subst e; rw [if_pos rfl, if_pos rfl]
    · rw [if_neg (by omega), if_neg (by omega), if_neg e, h.at1 j hj hjv]
  · intro j hj
    rw [List.length_set] at hj
    rw [hC1, if_neg (by omega), List.getElem_set]
    by_cases e : i = j
    · subst e; rw [if_pos rfl, if_pos rfl]
    · rw [if_neg (by omega), if_neg e, h.at2 j hj]
  · intro j hj hjv
    rw [List.length_set] at hj hjv
    have hoth : ∀ cur, w8.heap[G]? ≠ some (.cells cur 9 (0, 0)) := fun cur e => by rw [hG8] at e; cases e
    have hoth0 : ∀ cur, w.heap[G]? ≠ some (.cells cur 9 (0, 0)) := fun cur e => by rw [h.heap] at e; cases e
    by_cases e : i = j
    · subst e
      have e1 : (vs.set i (.slice (some ⟨g', 0, none⟩) (ag[i].vals.length + 1) cap'))[i]'(by rw [List.length_set]; exact hiv) = .slice (some ⟨g', 0, none⟩) (ag[i].vals.length + 1) cap' := by rw [List.getElem_set_self]
      have e2 : (ag.set i ⟨ag[i].name, ag[i].vals ++ [v], true⟩)[i]'(by rw [List.length_set]; exact hi) = ⟨ag[i].name, ag[i].vals ++ [v], true⟩ := by rw [List.getElem_set_self]
      rw [e1, e2]
      show World.ownsRow _ _ _ _ _ (ag[i].vals ++ [v]).length (strC (ag[i].vals ++ [v]))
      rw [← strC_snoc, List.length_append]
      exact own_other ho (grown_set _ _ _) hoth
    · rw [List.getElem_set_ne e, List.getElem_set_ne e]
      have o7 := own_other (h.own j hj hjv) (grown_set w ⟨G, i * 3 + 2, none⟩ (.bool true)) hoth0
      have oA : wA.ownsRow B 9 1 vs[j] ag[j].vals.length (strC ag[j].vals) := by
        have := o7.alloc o
        unfold World.ownsRow at this ⊢
        rw [hwA]; exact this
      have o8 := oA.kept hg (by
        rcases h.apart j i hjv hiv (Ne.symm e) with h1 | h1
        · exact .inl h1
        · exact .inr h1)
      exact own_other o8 (grown_set _ _ _) hoth
  · intro j k hj hk hjk
    rw [List.length_set] at hj hk
    rw [List.getElem_set, List.getElem_set]
    have hnew : ∀ l (hl : l < vs.length), l ≠ i → vs[l].ownBlock = none ∨ vs[l].ownBlock ≠ some g' := fun l hl hli => by
      rcases hat with hat | hat
      · rw [← hat]; exact h.apart l i hl hiv hli
      · cases hv : vs[l].ownBlock with
        | none => exact .inl rfl
        | some b =>
          refine .inr fun e => ?_
          cases e
          obtain ⟨_, cur, hc⟩ := own_block (h.own l (by rw [← h.len]; exact hl) hl) hv
          have := (Array.getElem?_eq_some_iff.1 hc).1
          omega
    by_cases e1 : i = j
    · rw [if_pos e1]
      have hki : k ≠ i := fun e => hjk (by rw [← e1, e])
      rw [if_neg (Ne.symm hki)]
      right
      show some g' ≠ _
      rcases hnew k hk hki with h1 | h1
      · rw [h1]; simp
      · exact Ne.symm h1
    · rw [if_neg e1]
      by_cases e2 : i = k
      · rw [if_pos e2]
        exact hnew j hj (Ne.symm e1)
      · rw [if_neg e2]
        exact h.apart j k hj hk hjk

/-- The fitter behind a value given to an argument. -/
theorem FS.give {w wA w8 : World} {B D F : Nat} {iv : Value} {bs : List Nat} {xs : List It} {line : ByteArray} {st : FSt} {G cap : Nat} {nv : Value} {C : Array Value} {vs : List Value}
    (h : FS w B D F iv bs xs line st (.slice (some ⟨G, 0, none⟩) xs.length cap) nv) (hA : ArgRow w D G cap C vs st.ag) (i : Nat) (hi : i < st.ag.length) (hiv : i < vs.length) (v : Bs) (o : Obj) {a : Ag} (ha : st.ag[i] = a) {vv : Value} (hvv : vs[i] = vv)
    (hvb : ∀ a, a ∈ st.ag → a.vals.length + st.r.length < line.size) (hwA : wA.heap = ((w.setCell ⟨G, i * 3 + 2, none⟩ (.bool true)).alloc o).heap) (hbA : Below D w wA) {g' cap' : Nat}
    (ho : w8.ownsRow D 9 1 (.slice (some ⟨g', 0, none⟩) (a.vals.length + 1) cap') (a.vals.length + 1) (strC a.vals ++ [.string (mkS v)]))
    (hg : wA.grownBy w8 vv.ownBlock) (hat : vv.ownBlock = some g' ∨ g' = wA.heap.size) :
    FS (w8.setCell ⟨G, i * 3 + 1, none⟩ (.slice (some ⟨g', 0, none⟩) (a.vals.length + 1) cap')) B D F iv bs xs line { st with ag := st.ag.set i ⟨a.name, a.vals ++ [v], true⟩ } (.slice (some ⟨G, 0, none⟩) xs.length cap) nv ∧
    Below D w (w8.setCell ⟨G, i * 3 + 1, none⟩ (.slice (some ⟨g', 0, none⟩) (a.vals.length + 1) cap')) := by
  have hrow := hA.give i hi hiv v o hwA (n := a.vals.length) (by rw [ha]) (by rw [ha]; exact ho) (by rw [hvv]; exact hg) (by rw [hvv]; exact hat)
  rw [ha] at hrow
  have hown := hA.own i hi hiv
  rw [hvv] at hown
  have hszA : wA.heap.size = w.heap.size + 1 := by rw [hwA]; simp
  have hFl := (Array.getElem?_eq_some_iff.1 h.fb).1
  have hF := h.hF
  have hvF : ∀ k, vv.ownBlock = some k → D ≤ k := fun k e => (own_block hown e).1
  have hB : Below D w (w8.setCell ⟨G, i * 3 + 1, none⟩ (.slice (some ⟨g', 0, none⟩) (a.vals.length + 1) cap')) := (hbA.grown hg (by omega) hvF).setCell (p := ⟨G, i * 3 + 1, none⟩) hA.hB _
  refine ⟨?_, hB⟩
  have hmove : ∀ (g : Nat) (o' : Obj), w.heap[g]? = some o' → g ≠ G → (∀ cur, o' ≠ .cells cur 9 (0, 0)) → (w8.setCell ⟨G, i * 3 + 1, none⟩ (.slice (some ⟨g', 0, none⟩) (a.vals.length + 1) cap')).heap[g]? = some o' := fun g o' hgo hgG hno => by
    have hgl := (Array.getElem?_eq_some_iff.1 hgo).1
    rw [Go.heap_setCell_other _ _ _ _ hgG, hg.block g (by omega) (fun e => ?_), hwA, Lib.alloc_old _ _ _ (by simpa using hgl), Go.heap_setCell_other _ _ _ _ hgG]
    · exact hgo
    · obtain ⟨_, cur, hc⟩ := own_block hown e.symm
      rw [hgo] at hc
      cases hc
      exact hno _ rfl
  have hFG : F ≠ G := fun e => by have := h.fb; rw [e, hA.heap] at this; cases this
  refine ⟨h.it.belowF h.itF hB, h.le, h.suf, h.hF, hmove F _ h.fb hFG (fun cur e => by cases e), h.itF, .inr ⟨G, cap, _, _, by rw [List.length_set, h.la], hrow⟩, ?_, by rw [List.length_set]; exact h.la, h.ln, ?_, h.l1, h.xl, h.xn⟩
  · obtain ⟨nb, nc, N, h1, h2, h3, h4⟩ := h.nr
    exact ⟨nb, nc, N, h1, h2, hmove nb _ h3 (fun e => by rw [e, hA.heap] at h3; cases h3) (fun cur e => by cases e), h4⟩
  · intro b hb
    rcases List.mem_or_eq_of_mem_set hb with hb | rfl
    · exact h.vb b hb
    · have := hvb a (by rw [← ha]; exact List.getElem_mem _)
      show (a.vals ++ [v]).length + _ ≤ _
      rw [List.length_append]
      simp only [List.length_cons, List.length_nil]
      omega
end Go.Proofs.YtojppincaalibaaGreatDoor
