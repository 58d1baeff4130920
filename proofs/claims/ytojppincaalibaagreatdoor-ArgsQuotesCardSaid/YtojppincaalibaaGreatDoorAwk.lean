/- The walk of bluebelllaw25.awake. -/
import Derived.Test.YtojppincaalibaaGreatDoorFitJ
import Derived.Test.YtojppincaalibaaGreatDoorEqS
set_option linter.unusedVariables false
set_option linter.unusedSimpArgs false
set_option maxRecDepth 100000
namespace Go.Proofs.YtojppincaalibaaGreatDoor
open Go.Shelf Go.RowKit

theorem ArgRow.sls {w : World} {B G cap : Nat} {C : Array Value} {vs : List Value} {ag : List Ag} (h : ArgRow w B G cap C vs ag) (i : Nat) (hi : i < ag.length) (hi' : i < vs.length) : SlS w vs[i] ag[i].vals :=
  SlS.own (h.own i hi hi')

set_option maxHeartbeats 4000000 in
theorem awake_calls (w : World) (hG : Glob w) : Calls Tryz.prog 15 #[] w fun e w' => e = .returned (.bool true) ∧ Below w.heap.size w w' := by
  have hF := fit_calls ⟨#[102, 114, 111, 109, 47, 97, 44, 116, 111, 47, 107, 44, 113, 117, 105, 101, 116, 47, 115]⟩ ⟨#[120, 32, 116, 111, 32, 121]⟩ (by decide) (by decide) w hG
  rw [show fitR (bl ⟨#[102, 114, 111, 109, 47, 97, 44, 116, 111, 47, 107, 44, 113, 117, 105, 101, 116, 47, 115]⟩) (bl ⟨#[120, 32, 116, 111, 32, 121]⟩) = _ from fit_awake] at hF
  have HF := Lib.hid hF
  clear hF
  go_enter Tryz.func15, Tryz.ntmps15
  go_wp2_with fail
  refine HF.out.mono ?_
  rintro e w1 ⟨⟨ov, rfl, hA⟩, b1⟩
  rcases hA with ⟨h0, _⟩ | ⟨G, cap, C, vs, rfl, hR⟩
  · cases h0
  · have hl : vs.length = 3 := hR.len
    have q0 : w1.cell? ⟨G, 1, none⟩ = some (vs[0]'(by omega)) := (cellOf hR.heap).trans (hR.at1 0 (by decide) (by omega))
    have q1 : w1.cell? ⟨G, 4, none⟩ = some (vs[1]'(by omega)) := (cellOf hR.heap).trans (hR.at1 1 (by decide) (by omega))
    have q2 : w1.cell? ⟨G, 5, none⟩ = some (.bool true) := (cellOf hR.heap).trans (hR.at2 1 (by decide))
    have q3 : w1.cell? ⟨G, 8, none⟩ = some (.bool false) := (cellOf hR.heap).trans (hR.at2 2 (by decide))
    have s0 : Hid (SlS w1 (vs[0]'(by omega)) [[120]]) := Lib.hid (hR.sls 0 (by decide) (by omega))
    have s1 : Hid (SlS w1 (vs[1]'(by omega)) [[121]]) := Lib.hid (hR.sls 1 (by decide) (by omega))
    obtain ⟨v0, hv0⟩ : ∃ v, vs[0]'(by omega) = v := ⟨_, rfl⟩
    obtain ⟨v1, hv1⟩ : ∃ v, vs[1]'(by omega) = v := ⟨_, rfl⟩
    rw [hv0] at q0 s0
    rw [hv1] at q1 s1
    have hGl := (Array.getElem?_eq_some_iff.1 hR.heap).1
    clear hR hv0 hv1
    have hnew : ∀ (W : World) (l : Bs), SlS (W.alloc (.cells #[.string ⟨l.toArray⟩] 9)) (.slice (some ⟨W.heap.size, 0, none⟩) 1 1) [l] := fun W l =>
      .inr ⟨W.heap.size, 0, 1, rfl, by simp, strs_new W [l] 9⟩
    have HNW := Lib.hid hnew
    clear hnew
    go_wp2_with fail
    refine (eqs_calls v0 _ [[120]] [[120]] _ (s0.out.below ((Below.refl _ _).alloc (Nat.le_refl _) _)) (HNW.out _ [120]) (by decide) (by decide)).mono ?_
    rintro e w2 ⟨rfl, b2⟩
    have hz2 := b2.size
    rw [World.size_alloc] at hz2
    have hB2 : Below w1.heap.size w1 w2 := ((Below.refl _ w1).alloc (Nat.le_refl _) _).trans (b2.mono (by simp))
    have q1' := (hB2.cell (p := ⟨G, 4, none⟩) hGl).trans q1
    have q2' := (hB2.cell (p := ⟨G, 5, none⟩) hGl).trans q2
    have q3' := (hB2.cell (p := ⟨G, 8, none⟩) hGl).trans q3
    have HD0 : Hid (decide (([[120]] : List Bs) = [[120]]) = true) := Lib.hid (by decide)
    rw [HD0.out]
    go_wp2_with fail
    refine (eqs_calls v1 _ [[121]] [[121]] _ ((s1.out.below hB2).below ((Below.refl _ _).alloc (Nat.le_refl _) _)) (HNW.out _ [121]) (by decide) (by decide)).mono ?_
    rintro e w3 ⟨rfl, b3⟩
    have hz3 := b3.size
    rw [World.size_alloc] at hz3
    have hB3 : Below w1.heap.size w1 w3 := (hB2.alloc (by omega) _).trans (b3.mono (by simp; omega))
    have q2'' := (hB3.cell (p := ⟨G, 5, none⟩) hGl).trans q2
    have q3'' := (hB3.cell (p := ⟨G, 8, none⟩) hGl).trans q3
    have HD1 : Hid (decide (([[121]] : List Bs) = [[121]]) = true) := Lib.hid (by decide)
    rw [HD1.out]
    go_wp2
    go_ret
    exact ⟨rfl, b1.trans (hB3.mono b1.size)⟩
end Go.Proofs.YtojppincaalibaaGreatDoor
