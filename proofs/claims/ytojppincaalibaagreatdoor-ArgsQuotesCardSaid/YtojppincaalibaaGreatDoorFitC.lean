/- The walk of (*args.fitter).give. -/
import Derived.Test.YtojppincaalibaaGreatDoorFitB
set_option linter.unusedVariables false
set_option linter.unusedSimpArgs false
set_option maxRecDepth 100000
namespace Go.Proofs.YtojppincaalibaaGreatDoor
open Go.Shelf Go.RowKit

set_option maxHeartbeats 4000000 in
theorem give_calls (B D F : Nat) (iv : Value) (bs : List Nat) (xs : List It) (line : ByteArray) (st : FSt) (ov nv : Value) (i : Nat) (hi : i < xs.length) (v : ByteArray) (hv : v.size ≤ 1000000) (w : World) (hFS : FS w B D F iv bs xs line st ov nv)
    (hG : Glob w) (hB64 : 9 ≤ B) (hvb : ∀ a, a ∈ st.ag → a.vals.length + st.r.length < line.size) :
    Calls Tryz.prog 84 #[.pointer (some ⟨F, 0, none⟩), .int .i64 i, .string v] w fun e w' => fsPost B D F iv bs xs line ov nv (giveS xs i st (bl v)) e w' ∧ Below D w w' := by
  obtain ⟨i0, hi0, hz0, hz1, hz2⟩ := info_parts infoStr
  have hia : i < st.ag.length := by rw [hFS.la]; exact hi
  have hsb : Hid (giveS xs i st (bl v) = (giveR xs[i] st.ag[i] (bl v)).map fun a' => { st with ag := st.ag.set i a' }) := Lib.hid (by
    unfold giveS; rw [List.getElem?_eq_getElem hi, List.getElem?_eq_getElem hia])
  obtain ⟨g, icap, rfl, hBg, hgl⟩ : ∃ g cap, iv = .slice (some ⟨g, 0, none⟩) xs.length cap ∧ B ≤ g ∧ g < w.heap.size := by
    rcases hFS.it.form with ⟨rfl, _⟩ | h
    · exact absurd hi (Nat.not_lt_zero _)
    · exact h
  obtain ⟨G, cap, C, vs, rfl, hAR⟩ : ∃ G cap C vs, ov = .slice (some ⟨G, 0, none⟩) xs.length cap ∧ ArgRow w D G cap C vs st.ag := by
    rcases hFS.ar with ⟨h0, _⟩ | ⟨G, cap, C, vs, h1, h2⟩
    · rw [h0] at hia; exact absurd hia (Nat.not_lt_zero _)
    · exact ⟨G, cap, C, vs, by rw [h1, hFS.la], h2⟩
  obtain ⟨b, c0, c1, c2, c3, c4, c5, hb1, hb2, hb3, hic, ⟨e0, e1, e2, e3, e4, e5⟩, d0, d1, d2, d3, d4, d5, d6⟩ := hFS.it.c7 i hi
  obtain ⟨f0, f1, f2, f3, f4⟩ := hFS.f0
  have hiv : i < vs.length := by rw [hAR.len]; exact hia
  have a1 : w.cell? ⟨G, i * 3 + 1, none⟩ = some vs[i] := (cellOf hAR.heap).trans (hAR.at1 i hia hiv)
  have a2 : w.cell? ⟨G, i * 3 + 2, none⟩ = some (.bool st.ag[i].set) := (cellOf hAR.heap).trans (hAR.at2 i hia)
  obtain ⟨a, ha⟩ : ∃ a, st.ag[i] = a := ⟨_, rfl⟩
  obtain ⟨x, hx⟩ : ∃ x, xs[i] = x := ⟨_, rfl⟩
  rw [ha] at a2 hsb
  rw [hx] at hsb hb3 hic e0 e1 e2 e3 e4 e5 d0
  have hiz : decide ((i : Int) < (xs.length : Int)) = true := by simp; omega
  have hFl := (Array.getElem?_eq_some_iff.1 hFS.fb).1
  have hGl := (Array.getElem?_eq_some_iff.1 hAR.heap).1
  have hFG : F ≠ G := fun e => by subst e; have := hFS.fb; rw [hAR.heap] at this; cases this
  have hxl := hFS.xl
  have hBw : D ≤ w.heap.size := by have := hFS.hF; omega
  have hDF := hFS.hF
  obtain ⟨aset, hsv⟩ : ∃ c, a.set = c := ⟨_, rfl⟩
  rw [hsv] at a2
  have HFS := Lib.hid hFS
  have HAR := Lib.hid hAR
  have HX := Lib.hid (And.intro hb1 (And.intro hb2 (And.intro hb3 (And.intro hic (And.intro e0 (And.intro e1 (And.intro e2 (And.intro e3 (And.intro e4 (And.intro e5 (And.intro hsv (And.intro ha hx))))))))))))
  clear hFS hAR hb1 hb2 hb3 hic e0 e1 e2 e3 e4 e5 hsv ha hx
  obtain ⟨wa, hwa⟩ : ∃ wa, w.alloc (.cells #[.slice (some ⟨b, 0, none⟩) x.names.length x.names.length, .bool c0, .bool c1, .bool c2, .bool c3, .bool c4, .bool c5] 42) = wa := ⟨_, rfl⟩
  have hBa : Below w.heap.size w wa := by rw [← hwa]; exact (Below.refl _ w).alloc (Nat.le_refl _) _
  have hca : wa.cell? ⟨w.heap.size, 4, none⟩ = some (.bool c3) := by rw [← hwa]; simp [go_sem]
  have hza : w.heap.size < wa.heap.size := by rw [← hwa]; simp
  obtain ⟨cd, hcd⟩ : ∃ k, (numR (bl v)).2 = k := ⟨_, rfl⟩
  have hNC := number_calls v wa hv (hG.below' hBa)
  rw [hcd] at hNC
  have HNC := Lib.hid hNC
  have HCD := Lib.hid hcd
  have HWA := Lib.hid hwa
  have hgv : Hid (giveR x a (bl v) = if aset && !c4 then none else if c3 && decide (cd ≠ 0) then none else some ⟨a.name, a.vals ++ [bl v], true⟩) := Lib.hid (by
    obtain ⟨-, -, -, -, e0, e1, e2, e3, e4, e5, hsv, -, -⟩ := HX.out
    unfold giveR; rw [e3, e4, hsv, HCD.out])
  clear hNC hcd hwa
  go_enter Tryz.func84, Tryz.ntmps84
  cases aset with
  | true =>
    cases c4 with
    | false =>
      go_wp2
      go_ret
      rw [hsb.out, hgv.out, HWA.out]
      exact ⟨rfl, hBa.mono (hBw)⟩
    | true =>
      go_wp2_with fail
      rw [HWA.out]
      refine HNC.out.mono ?_
      rintro e w2 ⟨rfl, b2⟩
      have hc2 := (b2.cell (p := ⟨w.heap.size, 4, none⟩) hza).trans hca
      have hB2 := hBa.trans (b2.mono hBa.size)
      have HFS2 := Lib.hid (HFS.out.below hB2)
      have HAR2 := Lib.hid (HAR.out.below hB2)
      have hzw2 := hB2.size
      obtain ⟨f0', f1', f2', f3', f4'⟩ := HFS2.out.f0
      have a1' := (hB2.cell (p := ⟨G, i * 3 + 1, none⟩) hGl).trans a1
      have a2' := (hB2.cell (p := ⟨G, i * 3 + 2, none⟩) hGl).trans a2
      have z2 := frozOf (i := i * 3 + 2) HAR2.out.heap
      cases c3 with
      | true =>
        by_cases hcz : cd = 0
        · have hcn : (cd != 0) = false := by simp [hcz]
          go_wp2_with fail
          obtain ⟨w7, hw7⟩ : ∃ w7, w2.setCell ⟨G, i * 3 + 2, none⟩ (.bool true) = w7 := ⟨_, rfl⟩
          have HW7 := Lib.hid hw7
          have k1 : w7.cell? ⟨F, 3, none⟩ = some (.slice (some ⟨G, 0, none⟩) xs.length cap) := by rw [← hw7]; simp [go_sem, f3', hFG]
          have k2 : w7.cell? ⟨G, i * 3 + 1, none⟩ = some vs[i] := by rw [← hw7]; simp [go_sem, a1']
          have HOW := Lib.hid (own_other (HAR2.out.own i hia hiv) (grown_set w2 ⟨G, i * 3 + 2, none⟩ (.bool true)) (fun cur e => by rw [HAR2.out.heap] at e; cases e))
          rw [hw7] at HOW
          rw [hw7]
          have hz7 : w2.heap.size ≤ w7.heap.size ∧ w7.heap.size ≤ w2.heap.size := by rw [← hw7]; simp
          have z7 : w7.frozen? ⟨G, i * 3 + 1, none⟩ = false := by rw [← hw7]; exact frozOf (heapSet (i := i * 3 + 2) (.bool true) HAR2.out.heap)
          clear hw7
          have ha' := HX.out.2.2.2.2.2.2.2.2.2.2.2.1
          have hvl : a.vals.length ≤ 1000 := by
            have h1 := hvb a (by rw [← ha']; exact List.getElem_mem _)
            have h2 := HFS.out.l1
            omega
          have aG : vs[i].ownBlock ≠ some G := Ne.symm (type_ne_own (HAR2.out.own i hia hiv) (by decide) HAR2.out.heap)
          have aF : vs[i].ownBlock ≠ some F := Ne.symm (type_ne_own (HAR2.out.own i hia hiv) (by decide) HFS2.out.fb)
          rw [ha'] at HOW
          obtain ⟨vv, hvv⟩ : ∃ vv, vs[i] = vv := ⟨_, rfl⟩
          rw [hvv] at HOW k2 aG aF
          have HVV := Lib.hid hvv
          clear hvv a1 a1'
          have zA : ∀ o, (w7.alloc o).drew.frozen? ⟨G, i * 3 + 1, none⟩ = false := fun o => (((Below.refl w7.heap.size w7).alloc (Nat.le_refl _) o).drew.frozen (p := ⟨G, i * 3 + 1, none⟩) (by show G < _; omega)).trans z7
          have zA : ∀ o, (w7.alloc o).drew.frozen? ⟨G, i * 3 + 1, none⟩ = false := fun o => (((Below.refl w7.heap.size w7).alloc (Nat.le_refl _) o).drew.frozen (p := ⟨G, i * 3 + 1, none⟩) (by show G < _; omega)).trans z7
          have hbA : Below D w2 (w7.alloc (Obj.cells #[.string v] 9)).drew := by
            have := (Below.refl D w2).setCell (p := ⟨G, i * 3 + 2, none⟩) HAR2.out.hB (.bool true)
            rw [HW7.out] at this
            exact (this.alloc (by omega) _).drew
          have hwA : (w7.alloc (Obj.cells #[.string v] 9)).drew.heap = ((w2.setCell ⟨G, i * 3 + 2, none⟩ (.bool true)).alloc (Obj.cells #[.string v] 9)).heap := by rw [HW7.out]; rfl
          have hGV : giveS xs i st (bl v) = some { st with ag := st.ag.set i ⟨a.name, a.vals ++ [bl v], true⟩ } := by rw [hsb.out, hgv.out]; simp [hcz]
          have HE : Hid (∀ (gg capg : Nat) (w8 : World), w8.ownsRow D 9 1 (.slice (some ⟨gg, 0, none⟩) (a.vals.length + 1) capg) (a.vals.length + 1) (strC a.vals ++ [.string v]) → (w7.alloc (Obj.cells #[.string v] 9)).drew.grownBy w8 vv.ownBlock → (vv.ownBlock = some gg ∨ gg = w7.heap.size + 1) →
              fsPost B D F (.slice (some ⟨g, 0, none⟩) xs.length icap) bs xs line (.slice (some ⟨G, 0, none⟩) xs.length cap) nv (giveS xs i st (bl v)) (.returned (.bool true)) (w8.setCell ⟨G, i * 3 + 1, none⟩ (.slice (some ⟨gg, 0, none⟩) (a.vals.length + 1) capg)) ∧ Below D w (w8.setCell ⟨G, i * 3 + 1, none⟩ (.slice (some ⟨gg, 0, none⟩) (a.vals.length + 1) capg))) := Lib.hid (fun gg capg w8 h1 h2 h3 => by
            have E := HFS2.out.give HAR2.out i hia hiv (bl v) (Obj.cells #[.string v] 9) ha' HVV.out hvb hwA hbA (g' := gg) (cap' := capg) (by rw [mkS_bl]; exact h1) h2 (by rcases h3 with h3 | h3; exact .inl h3; exact .inr (by show gg = (w7.alloc (Obj.cells #[.string v] 9)).heap.size; rw [World.size_alloc, h3]))
            rw [hGV]
            exact ⟨⟨rfl, E.1⟩, (hB2.mono hBw).trans E.2⟩)
          clear hbA hwA hGV
          have kA : ∀ o, (w7.alloc o).drew.cell? ⟨G, i * 3 + 1, none⟩ = some vv := fun o => (((Below.refl w7.heap.size w7).alloc (Nat.le_refl _) o).drew.cell (p := ⟨G, i * 3 + 1, none⟩) (by show G < _; omega)).trans k2
          have kF : ∀ o, (w7.alloc o).drew.cell? ⟨F, 3, none⟩ = some (.slice (some ⟨G, 0, none⟩) xs.length cap) := fun o => (((Below.refl w7.heap.size w7).alloc (Nat.le_refl _) o).drew.cell (p := ⟨F, 3, none⟩) (by show F < _; omega)).trans k1
          go_region_law (refine step_append_lies _ (by rfl) _ _ _ (by rfl) D 9 i0 (.string ⟨#[]⟩) 1 16 Tryz.underlying23 hi0 hz0 hz1 hz2 rfl (by omega) vv a.vals.length (strC a.vals) (by rfl) ((HOW.out.alloc (Obj.cells #[.string v] 9)).drew) ⟨w7.heap.size, 0, none⟩ 1 1 [.string v] (by rfl) (by rfl) (World.news_of_block (cs := #[.string v]) (t := 9) (fr := (0, 0)) (heap_alloc_new w7 _)) (by simp [Value.oneCell']) (by omega) (by unfold maxLen; omega) (by omega) (by simp; omega) (w7.heap.size + 1) (by simp) ?_; intro gg capg w8 hown8 hgrow hat hlt; have k8 : w8.cell? ⟨G, i * 3 + 1, none⟩ = some vv := (hgrow.cell_far (a := ⟨G, i * 3 + 1, none⟩) (by simp; omega) (Ne.symm aG)).trans (kA _); have z8 : w8.frozen? ⟨G, i * 3 + 1, none⟩ = false := (hgrow.frozen_far (a := ⟨G, i * 3 + 1, none⟩) (by simp; omega) (Ne.symm aG)).trans (zA _); have k9 : w8.cell? ⟨F, 3, none⟩ = some (.slice (some ⟨G, 0, none⟩) xs.length cap) := (hgrow.cell_far (a := ⟨F, 3, none⟩) (by simp; omega) (Ne.symm aF)).trans (kF _))
          all_goals go_wp2
          all_goals go_ret
          all_goals exact HE.out gg capg w8 hown8 hgrow hat
        · have hcn : (cd != 0) = true := by simpa using hcz
          go_wp2
          go_ret
          rw [hsb.out, hgv.out]
          refine ⟨?_, hB2.mono (hBw)⟩
          simp [fsPost, hcz]
      | false =>
        go_wp2_with fail
        obtain ⟨w7, hw7⟩ : ∃ w7, w2.setCell ⟨G, i * 3 + 2, none⟩ (.bool true) = w7 := ⟨_, rfl⟩
        have HW7 := Lib.hid hw7
        have k1 : w7.cell? ⟨F, 3, none⟩ = some (.slice (some ⟨G, 0, none⟩) xs.length cap) := by rw [← hw7]; simp [go_sem, f3', hFG]
        have k2 : w7.cell? ⟨G, i * 3 + 1, none⟩ = some vs[i] := by rw [← hw7]; simp [go_sem, a1']
        have HOW := Lib.hid (own_other (HAR2.out.own i hia hiv) (grown_set w2 ⟨G, i * 3 + 2, none⟩ (.bool true)) (fun cur e => by rw [HAR2.out.heap] at e; cases e))
        rw [hw7] at HOW
        rw [hw7]
        have hz7 : w2.heap.size ≤ w7.heap.size ∧ w7.heap.size ≤ w2.heap.size := by rw [← hw7]; simp
        have z7 : w7.frozen? ⟨G, i * 3 + 1, none⟩ = false := by rw [← hw7]; exact frozOf (heapSet (i := i * 3 + 2) (.bool true) HAR2.out.heap)
        clear hw7
        have ha' := HX.out.2.2.2.2.2.2.2.2.2.2.2.1
        have hvl : a.vals.length ≤ 1000 := by
          have h1 := hvb a (by rw [← ha']; exact List.getElem_mem _)
          have h2 := HFS.out.l1
          omega
        have aG : vs[i].ownBlock ≠ some G := Ne.symm (type_ne_own (HAR2.out.own i hia hiv) (by decide) HAR2.out.heap)
        have aF : vs[i].ownBlock ≠ some F := Ne.symm (type_ne_own (HAR2.out.own i hia hiv) (by decide) HFS2.out.fb)
        rw [ha'] at HOW
        obtain ⟨vv, hvv⟩ : ∃ vv, vs[i] = vv := ⟨_, rfl⟩
        rw [hvv] at HOW k2 aG aF
        have HVV := Lib.hid hvv
        clear hvv a1 a1'
        have zA : ∀ o, (w7.alloc o).drew.frozen? ⟨G, i * 3 + 1, none⟩ = false := fun o => (((Below.refl w7.heap.size w7).alloc (Nat.le_refl _) o).drew.frozen (p := ⟨G, i * 3 + 1, none⟩) (by show G < _; omega)).trans z7
        have zA : ∀ o, (w7.alloc o).drew.frozen? ⟨G, i * 3 + 1, none⟩ = false := fun o => (((Below.refl w7.heap.size w7).alloc (Nat.le_refl _) o).drew.frozen (p := ⟨G, i * 3 + 1, none⟩) (by show G < _; omega)).trans z7
        have hbA : Below D w2 (w7.alloc (Obj.cells #[.string v] 9)).drew := by
          have := (Below.refl D w2).setCell (p := ⟨G, i * 3 + 2, none⟩) HAR2.out.hB (.bool true)
          rw [HW7.out] at this
          exact (this.alloc (by omega) _).drew
        have hwA : (w7.alloc (Obj.cells #[.string v] 9)).drew.heap = ((w2.setCell ⟨G, i * 3 + 2, none⟩ (.bool true)).alloc (Obj.cells #[.string v] 9)).heap := by rw [HW7.out]; rfl
        have hGV : giveS xs i st (bl v) = some { st with ag := st.ag.set i ⟨a.name, a.vals ++ [bl v], true⟩ } := by rw [hsb.out, hgv.out]; simp
        have HE : Hid (∀ (gg capg : Nat) (w8 : World), w8.ownsRow D 9 1 (.slice (some ⟨gg, 0, none⟩) (a.vals.length + 1) capg) (a.vals.length + 1) (strC a.vals ++ [.string v]) → (w7.alloc (Obj.cells #[.string v] 9)).drew.grownBy w8 vv.ownBlock → (vv.ownBlock = some gg ∨ gg = w7.heap.size + 1) →
            fsPost B D F (.slice (some ⟨g, 0, none⟩) xs.length icap) bs xs line (.slice (some ⟨G, 0, none⟩) xs.length cap) nv (giveS xs i st (bl v)) (.returned (.bool true)) (w8.setCell ⟨G, i * 3 + 1, none⟩ (.slice (some ⟨gg, 0, none⟩) (a.vals.length + 1) capg)) ∧ Below D w (w8.setCell ⟨G, i * 3 + 1, none⟩ (.slice (some ⟨gg, 0, none⟩) (a.vals.length + 1) capg))) := Lib.hid (fun gg capg w8 h1 h2 h3 => by
          have E := HFS2.out.give HAR2.out i hia hiv (bl v) (Obj.cells #[.string v] 9) ha' HVV.out hvb hwA hbA (g' := gg) (cap' := capg) (by rw [mkS_bl]; exact h1) h2 (by rcases h3 with h3 | h3; exact .inl h3; exact .inr (by show gg = (w7.alloc (Obj.cells #[.string v] 9)).heap.size; rw [World.size_alloc, h3]))
          rw [hGV]
          exact ⟨⟨rfl, E.1⟩, (hB2.mono hBw).trans E.2⟩)
        clear hbA hwA hGV
        have kA : ∀ o, (w7.alloc o).drew.cell? ⟨G, i * 3 + 1, none⟩ = some vv := fun o => (((Below.refl w7.heap.size w7).alloc (Nat.le_refl _) o).drew.cell (p := ⟨G, i * 3 + 1, none⟩) (by show G < _; omega)).trans k2
        have kF : ∀ o, (w7.alloc o).drew.cell? ⟨F, 3, none⟩ = some (.slice (some ⟨G, 0, none⟩) xs.length cap) := fun o => (((Below.refl w7.heap.size w7).alloc (Nat.le_refl _) o).drew.cell (p := ⟨F, 3, none⟩) (by show F < _; omega)).trans k1
        go_region_law (refine step_append_lies _ (by rfl) _ _ _ (by rfl) D 9 i0 (.string ⟨#[]⟩) 1 16 Tryz.underlying23 hi0 hz0 hz1 hz2 rfl (by omega) vv a.vals.length (strC a.vals) (by rfl) ((HOW.out.alloc (Obj.cells #[.string v] 9)).drew) ⟨w7.heap.size, 0, none⟩ 1 1 [.string v] (by rfl) (by rfl) (World.news_of_block (cs := #[.string v]) (t := 9) (fr := (0, 0)) (heap_alloc_new w7 _)) (by simp [Value.oneCell']) (by omega) (by unfold maxLen; omega) (by omega) (by simp; omega) (w7.heap.size + 1) (by simp) ?_; intro gg capg w8 hown8 hgrow hat hlt; have k8 : w8.cell? ⟨G, i * 3 + 1, none⟩ = some vv := (hgrow.cell_far (a := ⟨G, i * 3 + 1, none⟩) (by simp; omega) (Ne.symm aG)).trans (kA _); have z8 : w8.frozen? ⟨G, i * 3 + 1, none⟩ = false := (hgrow.frozen_far (a := ⟨G, i * 3 + 1, none⟩) (by simp; omega) (Ne.symm aG)).trans (zA _); have k9 : w8.cell? ⟨F, 3, none⟩ = some (.slice (some ⟨G, 0, none⟩) xs.length cap) := (hgrow.cell_far (a := ⟨F, 3, none⟩) (by simp; omega) (Ne.symm aF)).trans (kF _))
        all_goals go_wp2
        all_goals go_ret
        all_goals exact HE.out gg capg w8 hown8 hgrow hat
  | false =>
    go_wp2_with fail
    rw [HWA.out]
    refine HNC.out.mono ?_
    rintro e w2 ⟨rfl, b2⟩
    have hc2 := (b2.cell (p := ⟨w.heap.size, 4, none⟩) hza).trans hca
    have hB2 := hBa.trans (b2.mono hBa.size)
    have HFS2 := Lib.hid (HFS.out.below hB2)
    have HAR2 := Lib.hid (HAR.out.below hB2)
    have hzw2 := hB2.size
    obtain ⟨f0', f1', f2', f3', f4'⟩ := HFS2.out.f0
    have a1' := (hB2.cell (p := ⟨G, i * 3 + 1, none⟩) hGl).trans a1
    have a2' := (hB2.cell (p := ⟨G, i * 3 + 2, none⟩) hGl).trans a2
    have z2 := frozOf (i := i * 3 + 2) HAR2.out.heap
    cases c3 with
    | true =>
      by_cases hcz : cd = 0
      · have hcn : (cd != 0) = false := by simp [hcz]
        go_wp2_with fail
        obtain ⟨w7, hw7⟩ : ∃ w7, w2.setCell ⟨G, i * 3 + 2, none⟩ (.bool true) = w7 := ⟨_, rfl⟩
        have HW7 := Lib.hid hw7
        have k1 : w7.cell? ⟨F, 3, none⟩ = some (.slice (some ⟨G, 0, none⟩) xs.length cap) := by rw [← hw7]; simp [go_sem, f3', hFG]
        have k2 : w7.cell? ⟨G, i * 3 + 1, none⟩ = some vs[i] := by rw [← hw7]; simp [go_sem, a1']
        have HOW := Lib.hid (own_other (HAR2.out.own i hia hiv) (grown_set w2 ⟨G, i * 3 + 2, none⟩ (.bool true)) (fun cur e => by rw [HAR2.out.heap] at e; cases e))
        rw [hw7] at HOW
        rw [hw7]
        have hz7 : w2.heap.size ≤ w7.heap.size ∧ w7.heap.size ≤ w2.heap.size := by rw [← hw7]; simp
        have z7 : w7.frozen? ⟨G, i * 3 + 1, none⟩ = false := by rw [← hw7]; exact frozOf (heapSet (i := i * 3 + 2) (.bool true) HAR2.out.heap)
        clear hw7
        have ha' := HX.out.2.2.2.2.2.2.2.2.2.2.2.1
        have hvl : a.vals.length ≤ 1000 := by
          have h1 := hvb a (by rw [← ha']; exact List.getElem_mem _)
          have h2 := HFS.out.l1
          omega
        have aG : vs[i].ownBlock ≠ some G := Ne.symm (type_ne_own (HAR2.out.own i hia hiv) (by decide) HAR2.out.heap)
        have aF : vs[i].ownBlock ≠ some F := Ne.symm (type_ne_own (HAR2.out.own i hia hiv) (by decide) HFS2.out.fb)
        rw [ha'] at HOW
        obtain ⟨vv, hvv⟩ : ∃ vv, vs[i] = vv := ⟨_, rfl⟩
        rw [hvv] at HOW k2 aG aF
        have HVV := Lib.hid hvv
        clear hvv a1 a1'
        have zA : ∀ o, (w7.alloc o).drew.frozen? ⟨G, i * 3 + 1, none⟩ = false := fun o => (((Below.refl w7.heap.size w7).alloc (Nat.le_refl _) o).drew.frozen (p := ⟨G, i * 3 + 1, none⟩) (by show G < _; omega)).trans z7
        have zA : ∀ o, (w7.alloc o).drew.frozen? ⟨G, i * 3 + 1, none⟩ = false := fun o => (((Below.refl w7.heap.size w7).alloc (Nat.le_refl _) o).drew.frozen (p := ⟨G, i * 3 + 1, none⟩) (by show G < _; omega)).trans z7
        have hbA : Below D w2 (w7.alloc (Obj.cells #[.string v] 9)).drew := by
          have := (Below.refl D w2).setCell (p := ⟨G, i * 3 + 2, none⟩) HAR2.out.hB (.bool true)
          rw [HW7.out] at this
          exact (this.alloc (by omega) _).drew
        have hwA : (w7.alloc (Obj.cells #[.string v] 9)).drew.heap = ((w2.setCell ⟨G, i * 3 + 2, none⟩ (.bool true)).alloc (Obj.cells #[.string v] 9)).heap := by rw [HW7.out]; rfl
        have hGV : giveS xs i st (bl v) = some { st with ag := st.ag.set i ⟨a.name, a.vals ++ [bl v], true⟩ } := by rw [hsb.out, hgv.out]; simp [hcz]
        have HE : Hid (∀ (gg capg : Nat) (w8 : World), w8.ownsRow D 9 1 (.slice (some ⟨gg, 0, none⟩) (a.vals.length + 1) capg) (a.vals.length + 1) (strC a.vals ++ [.string v]) → (w7.alloc (Obj.cells #[.string v] 9)).drew.grownBy w8 vv.ownBlock → (vv.ownBlock = some gg ∨ gg = w7.heap.size + 1) →
            fsPost B D F (.slice (some ⟨g, 0, none⟩) xs.length icap) bs xs line (.slice (some ⟨G, 0, none⟩) xs.length cap) nv (giveS xs i st (bl v)) (.returned (.bool true)) (w8.setCell ⟨G, i * 3 + 1, none⟩ (.slice (some ⟨gg, 0, none⟩) (a.vals.length + 1) capg)) ∧ Below D w (w8.setCell ⟨G, i * 3 + 1, none⟩ (.slice (some ⟨gg, 0, none⟩) (a.vals.length + 1) capg))) := Lib.hid (fun gg capg w8 h1 h2 h3 => by
          have E := HFS2.out.give HAR2.out i hia hiv (bl v) (Obj.cells #[.string v] 9) ha' HVV.out hvb hwA hbA (g' := gg) (cap' := capg) (by rw [mkS_bl]; exact h1) h2 (by rcases h3 with h3 | h3; exact .inl h3; exact .inr (by show gg = (w7.alloc (Obj.cells #[.string v] 9)).heap.size; rw [World.size_alloc, h3]))
          rw [hGV]
          exact ⟨⟨rfl, E.1⟩, (hB2.mono hBw).trans E.2⟩)
        clear hbA hwA hGV
        have kA : ∀ o, (w7.alloc o).drew.cell? ⟨G, i * 3 + 1, none⟩ = some vv := fun o => (((Below.refl w7.heap.size w7).alloc (Nat.le_refl _) o).drew.cell (p := ⟨G, i * 3 + 1, none⟩) (by show G < _; omega)).trans k2
        have kF : ∀ o, (w7.alloc o).drew.cell? ⟨F, 3, none⟩ = some (.slice (some ⟨G, 0, none⟩) xs.length cap) := fun o => (((Below.refl w7.heap.size w7).alloc (Nat.le_refl _) o).drew.cell (p := ⟨F, 3, none⟩) (by show F < _; omega)).trans k1
        go_region_law (refine step_append_lies _ (by rfl) _ _ _ (by rfl) D 9 i0 (.string ⟨#[]⟩) 1 16 Tryz.underlying23 hi0 hz0 hz1 hz2 rfl (by omega) vv a.vals.length (strC a.vals) (by rfl) ((HOW.out.alloc (Obj.cells #[.string v] 9)).drew) ⟨w7.heap.size, 0, none⟩ 1 1 [.string v] (by rfl) (by rfl) (World.news_of_block (cs := #[.string v]) (t := 9) (fr := (0, 0)) (heap_alloc_new w7 _)) (by simp [Value.oneCell']) (by omega) (by unfold maxLen; omega) (by omega) (by simp; omega) (w7.heap.size + 1) (by simp) ?_; intro gg capg w8 hown8 hgrow hat hlt; have k8 : w8.cell? ⟨G, i * 3 + 1, none⟩ = some vv := (hgrow.cell_far (a := ⟨G, i * 3 + 1, none⟩) (by simp; omega) (Ne.symm aG)).trans (kA _); have z8 : w8.frozen? ⟨G, i * 3 + 1, none⟩ = false := (hgrow.frozen_far (a := ⟨G, i * 3 + 1, none⟩) (by simp; omega) (Ne.symm aG)).trans (zA _); have k9 : w8.cell? ⟨F, 3, none⟩ = some (.slice (some ⟨G, 0, none⟩) xs.length cap) := (hgrow.cell_far (a := ⟨F, 3, none⟩) (by simp; omega) (Ne.symm aF)).trans (kF _))
        all_goals go_wp2
        all_goals go_ret
        all_goals exact HE.out gg capg w8 hown8 hgrow hat
      · have hcn : (cd != 0) = true := by simpa using hcz
        go_wp2
        go_ret
        rw [hsb.out, hgv.out]
        refine ⟨?_, hB2.mono (hBw)⟩
        simp [fsPost, hcz]
    | false =>
      go_wp2_with fail
      obtain ⟨w7, hw7⟩ : ∃ w7, w2.setCell ⟨G, i * 3 + 2, none⟩ (.bool true) = w7 := ⟨_, rfl⟩
      have HW7 := Lib.hid hw7
      have k1 : w7.cell? ⟨F, 3, none⟩ = some (.slice (some ⟨G, 0, none⟩) xs.length cap) := by rw [← hw7]; simp [go_sem, f3', hFG]
      have k2 : w7.cell? ⟨G, i * 3 + 1, none⟩ = some vs[i] := by rw [← hw7]; simp [go_sem, a1']
      have HOW := Lib.hid (own_other (HAR2.out.own i hia hiv) (grown_set w2 ⟨G, i * 3 + 2, none⟩ (.bool true)) (fun cur e => by rw [HAR2.out.heap] at e; cases e))
      rw [hw7] at HOW
      rw [hw7]
      have hz7 : w2.heap.size ≤ w7.heap.size ∧ w7.heap.size ≤ w2.heap.size := by rw [← hw7]; simp
      have z7 : w7.frozen? ⟨G, i * 3 + 1, none⟩ = false := by rw [← hw7]; exact frozOf (heapSet (i := i * 3 + 2) (.bool true) HAR2.out.heap)
      clear hw7
      have ha' := HX.out.2.2.2.2.2.2.2.2.2.2.2.1
      have hvl : a.vals.length ≤ 1000 := by
        have h1 := hvb a (by rw [← ha']; exact List.getElem_mem _)
        have h2 := HFS.out.l1
        omega
      have aG : vs[i].ownBlock ≠ some G := Ne.symm (type_ne_own (HAR2.out.own i hia hiv) (by decide) HAR2.out.heap)
      have aF : vs[i].ownBlock ≠ some F := Ne.symm (type_ne_own (HAR2.out.own i hia hiv) (by decide) HFS2.out.fb)
      rw [ha'] at HOW
      obtain ⟨vv, hvv⟩ : ∃ vv, vs[i] = vv := ⟨_, rfl⟩
      rw [hvv] at HOW k2 aG aF
      have HVV := Lib.hid hvv
      clear hvv a1 a1'
      have zA : ∀ o, (w7.alloc o).drew.frozen? ⟨G, i * 3 + 1, none⟩ = false := fun o => (((Below.refl w7.heap.size w7).alloc (Nat.le_refl _) o).drew.frozen (p := ⟨G, i * 3 + 1, none⟩) (by show G < _; omega)).trans z7
      have zA : ∀ o, (w7.alloc o).drew.frozen? ⟨G, i * 3 + 1, none⟩ = false := fun o => (((Below.refl w7.heap.size w7).alloc (Nat.le_refl _) o).drew.frozen (p := ⟨G, i * 3 + 1, none⟩) (by show G < _; omega)).trans z7
      have hbA : Below D w2 (w7.alloc (Obj.cells #[.string v] 9)).drew := by
        have := (Below.refl D w2).setCell (p := ⟨G, i * 3 + 2, none⟩) HAR2.out.hB (.bool true)
        rw [HW7.out] at this
        exact (this.alloc (by omega) _).drew
      have hwA : (w7.alloc (Obj.cells #[.string v] 9)).drew.heap = ((w2.setCell ⟨G, i * 3 + 2, none⟩ (.bool true)).alloc (Obj.cells #[.string v] 9)).heap := by rw [HW7.out]; rfl
      have hGV : giveS xs i st (bl v) = some { st with ag := st.ag.set i ⟨a.name, a.vals ++ [bl v], true⟩ } := by rw [hsb.out, hgv.out]; simp
      have HE : Hid (∀ (gg capg : Nat) (w8 : World), w8.ownsRow D 9 1 (.slice (some ⟨gg, 0, none⟩) (a.vals.length + 1) capg) (a.vals.length + 1) (strC a.vals ++ [.string v]) → (w7.alloc (Obj.cells #[.string v] 9)).drew.grownBy w8 vv.ownBlock → (vv.ownBlock = some gg ∨ gg = w7.heap.size + 1) →
          fsPost B D F (.slice (some ⟨g, 0, none⟩) xs.length icap) bs xs line (.slice (some ⟨G, 0, none⟩) xs.length cap) nv (giveS xs i st (bl v)) (.returned (.bool true)) (w8.setCell ⟨G, i * 3 + 1, none⟩ (.slice (some ⟨gg, 0, none⟩) (a.vals.length + 1) capg)) ∧ Below D w (w8.setCell ⟨G, i * 3 + 1, none⟩ (.slice (some ⟨gg, 0, none⟩) (a.vals.length + 1) capg))) := Lib.hid (fun gg capg w8 h1 h2 h3 => by
        have E := HFS2.out.give HAR2.out i hia hiv (bl v) (Obj.cells #[.string v] 9) ha' HVV.out hvb hwA hbA (g' := gg) (cap' := capg) (by rw [mkS_bl]; exact h1) h2 (by rcases h3 with h3 | h3; exact .inl h3; exact .inr (by show gg = (w7.alloc (Obj.cells #[.string v] 9)).heap.size; rw [World.size_alloc, h3]))
        rw [hGV]
        exact ⟨⟨rfl, E.1⟩, (hB2.mono hBw).trans E.2⟩)
      clear hbA hwA hGV
      have kA : ∀ o, (w7.alloc o).drew.cell? ⟨G, i * 3 + 1, none⟩ = some vv := fun o => (((Below.refl w7.heap.size w7).alloc (Nat.le_refl _) o).drew.cell (p := ⟨G, i * 3 + 1, none⟩) (by show G < _; omega)).trans k2
      have kF : ∀ o, (w7.alloc o).drew.cell? ⟨F, 3, none⟩ = some (.slice (some ⟨G, 0, none⟩) xs.length cap) := fun o => (((Below.refl w7.heap.size w7).alloc (Nat.le_refl _) o).drew.cell (p := ⟨F, 3, none⟩) (by show F < _; omega)).trans k1
      go_region_law (refine step_append_lies _ (by rfl) _ _ _ (by rfl) D 9 i0 (.string ⟨#[]⟩) 1 16 Tryz.underlying23 hi0 hz0 hz1 hz2 rfl (by omega) vv a.vals.length (strC a.vals) (by rfl) ((HOW.out.alloc (Obj.cells #[.string v] 9)).drew) ⟨w7.heap.size, 0, none⟩ 1 1 [.string v] (by rfl) (by rfl) (World.news_of_block (cs := #[.string v]) (t := 9) (fr := (0, 0)) (heap_alloc_new w7 _)) (by simp [Value.oneCell']) (by omega) (by unfold maxLen; omega) (by omega) (by simp; omega) (w7.heap.size + 1) (by simp) ?_; intro gg capg w8 hown8 hgrow hat hlt; have k8 : w8.cell? ⟨G, i * 3 + 1, none⟩ = some vv := (hgrow.cell_far (a := ⟨G, i * 3 + 1, none⟩) (by simp; omega) (Ne.symm aG)).trans (kA _); have z8 : w8.frozen? ⟨G, i * 3 + 1, none⟩ = false := (hgrow.frozen_far (a := ⟨G, i * 3 + 1, none⟩) (by simp; omega) (Ne.symm aG)).trans (zA _); have k9 : w8.cell? ⟨F, 3, none⟩ = some (.slice (some ⟨G, 0, none⟩) xs.length cap) := (hgrow.cell_far (a := ⟨F, 3, none⟩) (by simp; omega) (Ne.symm aF)).trans (kF _))
      all_goals go_wp2
      all_goals go_ret
      all_goals exact HE.out gg capg w8 hown8 hgrow hat
end Go.Proofs.YtojppincaalibaaGreatDoor
