/- The walk of (*args.fitter).rest. -/
import Derived.Test.YtojppincaalibaaGreatDoorFitC
import Derived.Test.YtojppincaalibaaGreatDoorFitD
set_option linter.unusedVariables false
set_option linter.unusedSimpArgs false
set_option maxRecDepth 100000
namespace Go.Proofs.YtojppincaalibaaGreatDoor
open Go.Shelf Go.RowKit

/-- The rows stay when a block of another type is turned. -/
theorem ArgRow.other {w w' : World} {B G cap g : Nat} {C : Array Value} {vs : List Value} {ag : List Ag} (h : ArgRow w B G cap C vs ag) (hg : w.grownBy w' (some g)) (h1 : ∀ cur, w.heap[g]? ≠ some (.cells cur 69 (0, 0))) (h2 : ∀ cur, w.heap[g]? ≠ some (.cells cur 9 (0, 0))) : ArgRow w' B G cap C vs ag := by
  have hGl := (Array.getElem?_eq_some_iff.1 h.heap).1
  exact ⟨h.hB, (hg.block G hGl (fun e => by injection e with e; exact h1 _ (by rw [← e]; exact h.heap))).trans h.heap, h.size, h.len, h.le, h.at0, h.at1, h.at2, fun i a b => own_other (h.own i a b) hg h2, h.apart⟩
theorem ArgsM.other {w w' : World} {B g : Nat} {ov : Value} {ag : List Ag} (h : ArgsM w B ov ag) (hg : w.grownBy w' (some g)) (h1 : ∀ cur, w.heap[g]? ≠ some (.cells cur 69 (0, 0))) (h2 : ∀ cur, w.heap[g]? ≠ some (.cells cur 9 (0, 0))) : ArgsM w' B ov ag := by
  rcases h with h | ⟨G, cap, C, vs, h3, h4⟩
  · exact .inl h
  · exact .inr ⟨G, cap, C, vs, h3, h4.other hg h1 h2⟩
theorem NamedM.other {w w' : World} {B g : Nat} {nv : Value} {nm : List Bool} (h : NamedM w B nv nm) (hg : w.grownBy w' (some g)) (h1 : ∀ cur, w.heap[g]? ≠ some (.cells cur 4 (0, 0))) : NamedM w' B nv nm := by
  obtain ⟨nb, cap, N, h2, h3, h4, h5⟩ := h
  exact ⟨nb, cap, N, h2, h3, (hg.block nb (Array.getElem?_eq_some_iff.1 h4).1 (fun e => by injection e with e; exact h1 _ (by rw [← e]; exact h4))).trans h4, h5⟩

/-- The place of the fitter is set. -/
theorem FS.setAt {w : World} {B D F : Nat} {iv : Value} {bs : List Nat} {xs : List It} {line : ByteArray} {st : FSt} {ov nv : Value} (h : FS w B D F iv bs xs line st ov nv) (r' : Bs) (h1 : r'.length ≤ st.r.length) (h2 : r' = (bl line).drop (line.size - r'.length)) {v : Int} (hv : v = (line.size : Int) - r'.length) :
    FS (w.setCell ⟨F, 2, none⟩ (.int .i64 v)) B D F iv bs xs line { st with r := r' } ov nv ∧ Below D w (w.setCell ⟨F, 2, none⟩ (.int .i64 v)) := by
  subst hv
  have hB : Below D w (w.setCell ⟨F, 2, none⟩ (.int .i64 ((line.size : Int) - r'.length))) := (Below.refl D w).setCell (p := ⟨F, 2, none⟩) h.hF.2 _
  have hg := grown_set w ⟨F, 2, none⟩ (.int .i64 ((line.size : Int) - r'.length))
  have hle := h.le
  refine ⟨⟨h.it.belowF h.itF hB, by show r'.length ≤ _; omega, h2, h.hF, heapSet _ h.fb, h.itF, h.ar.other hg (fun cur e => by rw [h.fb] at e; cases e) (fun cur e => by rw [h.fb] at e; cases e), h.nr.other hg (fun cur e => by rw [h.fb] at e; cases e), h.la, h.ln, fun a ha => ?_, h.l1, h.xl, h.xn⟩, hB⟩
  have := h.vb a ha
  show _ + r'.length ≤ _
  omega

theorem trimR_len (l : Bs) : (trimR l).length ≤ l.length := by
  unfold trimR Lib.trimRightB
  rw [List.length_reverse]
  have := (List.dropWhile_suffix (l := l.reverse) (· == 32)).length_le
  rw [List.length_reverse] at this
  exact this

set_option maxHeartbeats 2000000 in
theorem rest_calls (B D F : Nat) (iv : Value) (bs : List Nat) (xs : List It) (line : ByteArray) (st : FSt) (ov nv : Value) (i p : Nat) (hi : i < xs.length) (hp : p ≤ line.size) (hpr : line.size - p ≤ st.r.length) (w : World) (hFS : FS w B D F iv bs xs line st ov nv) (hG : Glob w) (hB64 : 9 ≤ B) :
    Calls Tryz.prog 82 #[.pointer (some ⟨F, 0, none⟩), .int .i64 i, .int .i64 p] w fun e w' => fsPost B D F iv bs xs line ov nv (restS xs i st ((bl line).drop p)) e w' ∧ Below D w w' := by
  obtain ⟨f0, f1, f2, f3, f4⟩ := hFS.f0
  have hl1 := hFS.l1
  have hFl := (Array.getElem?_eq_some_iff.1 hFS.fb).1
  obtain ⟨t, ht⟩ : ∃ t, trimR ((bl line).drop p) = t := ⟨_, rfl⟩
  have htl := trimR_len ((bl line).drop p)
  rw [ht, drop_len] at htl
  have hTR := Tryz.strings_TrimRight_one (line.extract p line.size) 32 (by decide) w (by rw [ByteArray.size_extract]; omega)
  have hex : (line.extract p line.size).data.toList = (bl line).drop p := by
    have := bl_extract line p line.size hp (Nat.le_refl _)
    rw [List.take_of_length_le (by rw [drop_len]; omega)] at this
    exact this
  rw [hex, show Lib.trimRightB ((bl line).drop p) 32 = t from ht] at hTR
  have HTR := Lib.hid hTR
  obtain ⟨hS2, hBS⟩ := hFS.setAt [] (Nat.zero_le _) (by rw [List.length_nil, Nat.sub_zero]; exact (drop_end line _ (Nat.le_refl _)).symm) (v := (line.size : Int)) (by simp)
  obtain ⟨w2, hw2⟩ : ∃ w2, w.setCell ⟨F, 2, none⟩ (.int .i64 (line.size : Int)) = w2 := ⟨_, rfl⟩
  rw [hw2] at hS2 hBS
  have HRS : Hid (restS xs i st ((bl line).drop p) = if t.isEmpty then none else giveS xs i { st with r := [] } t) := Lib.hid (by unfold restS; rw [ht])
  have HW2 := Lib.hid hw2
  have z2 := frozOf (i := 2) hFS.fb
  clear hTR hex hw2 ht
  cases hte : t.isEmpty with
  | true =>
    have HFS := Lib.hid hFS
    clear hFS
    go_enter Tryz.func82, Tryz.ntmps82
    go_wp2_with fail
    refine HTR.out.mono ?_
    rintro e w3 ⟨rfl, rfl⟩
    go_wp2
    go_ret
    rw [HRS.out, hte]
    exact ⟨rfl, by rw [HW2.out]; exact hBS⟩
  | false =>
    have hne : t ≠ [] := by intro e; rw [e] at hte; cases hte
    have htp : 0 < t.length := List.length_pos_iff.2 hne
    have hGV := Lib.hid (give_calls B D F iv bs xs line { st with r := [] } ov nv i hi ⟨t.toArray⟩ (by show t.toArray.size ≤ _; rw [List.size_toArray]; omega) w2 hS2 (hG.below (by have := hFS.hF; omega) hBS) hB64 (fun a ha => by
      have := hFS.vb a ha
      show a.vals.length + 0 < _
      omega))
    have HFS := Lib.hid hFS
    clear hFS hS2
    go_enter Tryz.func82, Tryz.ntmps82
    go_wp2_with fail
    refine HTR.out.mono ?_
    rintro e w3 ⟨rfl, rfl⟩
    go_wp2_with fail
    rw [HW2.out]
    refine hGV.out.mono ?_
    rintro e w4 ⟨hq, b4⟩
    rw [show bl ⟨t.toArray⟩ = t from bl_mkS t] at hq
    have HR2 : Hid (restS xs i st ((bl line).drop p) = giveS xs i { st with r := [] } t) := Lib.hid (by rw [HRS.out, hte]; rfl)
    cases hgv : giveS xs i { st with r := [] } t with
    | none =>
      rw [hgv] at hq
      obtain rfl := hq
      go_wp2
      go_ret
      rw [HR2.out, hgv]
      exact ⟨rfl, hBS.trans b4⟩
    | some st' =>
      rw [hgv] at hq
      obtain ⟨rfl, hq⟩ := hq
      have HQ := Lib.hid hq
      clear hq
      go_wp2
      go_ret
      rw [HR2.out, hgv]
      exact ⟨⟨rfl, HQ.out⟩, hBS.trans b4⟩
end Go.Proofs.YtojppincaalibaaGreatDoor
