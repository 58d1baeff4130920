/- The walk of (*args.fitter).step. -/
import Derived.Test.YtojppincaalibaaGreatDoorFitG
set_option linter.unusedVariables false
set_option linter.unusedSimpArgs false
set_option maxRecDepth 100000
namespace Go.Proofs.YtojppincaalibaaGreatDoor
open Go.Shelf Go.RowKit

theorem freeGo_lt : ∀ (xs : List It) (ag : List Ag) (i : Nat) (s : Int), -1 ≤ s → s < i + xs.length → -1 ≤ freeGo xs ag i s ∧ freeGo xs ag i s < i + xs.length
  | [], ag, i, s, h0, h1 => by cases ag <;> exact ⟨h0, h1⟩
  | x :: xs, [], i, s, h0, h1 => ⟨h0, h1⟩
  | x :: xs, a :: ag, i, s, h0, h1 => by
    simp only [List.length_cons] at h1 ⊢
    unfold freeGo
    split
    · split
      · have := freeGo_lt xs ag (i + 1) i (by omega) (by omega)
        omega
      · split
        · have := freeGo_lt xs ag (i + 1) s h0 (by omega)
          omega
        · omega
    · have := freeGo_lt xs ag (i + 1) s h0 (by omega)
      omega
theorem freeR_lt (xs : List It) (ag : List Ag) : -1 ≤ freeR xs ag ∧ freeR xs ag < max 1 xs.length := by
  have h := freeGo_lt xs ag 0 (-1) (by omega) (by omega)
  unfold freeR
  omega
theorem freeR_nil (ag : List Ag) : freeR [] ag = -1 := by cases ag <;> rfl
theorem findR_lt (xs : List It) (n : Bs) : -1 ≤ findR xs n ∧ findR xs n < xs.length := by
  unfold findR
  split
  · omega
  · exact idxOf_ge _ xs

/-- The step behind the word. -/
def stepU (xs : List It) (st : FSt) (yw : Bs) (yq : Bool) (yr : Option Bs) (fr : Int) : Option FSt :=
  if decide (0 ≤ fr) && (match xs[fr.toNat]? with | some x => x.m.testBit 5 | none => false) then restS xs fr.toNat st st.r
    else if fr < 0 then none else match yr with
      | none => none
      | some r' => if yw = [61] ∧ yq = false then none else giveS xs fr.toNat { st with r := r' } yw
def stepT (xs : List It) (st : FSt) (yw : Bs) (yq : Bool) (yr : Option Bs) (fi fr : Int) : Option FSt :=
  if 0 ≤ (if yq then -1 else fi) then (match yr with | none => none | some r' => nameS xs (if yq then -1 else fi : Int).toNat { st with r := r' })
  else stepU xs st yw yq yr fr
def endI (n : Nat) (yr : Option Bs) : Int := match yr with | some r' => (n : Int) - r'.length | none => -1
theorem stepS_of (xs : List It) (st : FSt) (yw : Bs) (yq : Bool) (yr : Option Bs) (h : nx st.r = some ⟨yw, yq, yr⟩) :
    stepS xs st = stepT xs st yw yq yr (findR xs yw) (freeR xs st.ag) := by
  unfold stepS
  simp only [h]
  rfl

set_option maxHeartbeats 8000000 in
theorem step_calls (B D F : Nat) (iv : Value) (bs : List Nat) (xs : List It) (line : ByteArray) (st : FSt) (ov nv : Value) (c : UInt8) (t : Bs) (hs : skipB st.r = c :: t) (p : Nat) (hp : line.size - (c :: t).length = p) (w : World) (hFS : FS w B D F iv bs xs line st ov nv)
    (hG : Glob w) (hB64 : 9 ≤ B) :
    Calls Tryz.prog 43 #[.pointer (some ⟨F, 0, none⟩), .int .i64 p] w fun e w' => fsPost B D F iv bs xs line ov nv (stepS xs { st with r := c :: t }) e w' ∧ Below D w w' := by
  have hl1 := hFS.l1
  have hxl := hFS.xl
  have hFl := (Array.getElem?_eq_some_iff.1 hFS.fb).1
  have hF := hFS.hF
  have hc := skip_head _ _ _ hs
  have hSuf : Suf line (c :: t) := by rw [← hs]; exact hFS.suf'.of_suffix (skip_suffix _)
  have hsl := (skip_suffix st.r).length_le
  rw [hs, List.length_cons] at hsl
  obtain ⟨⟨yw, yq, yr⟩, hny⟩ : ∃ y, nx (c :: t) = some y := ⟨_, rfl⟩
  have hle := hSuf.1
  rw [List.length_cons] at hle
  have hwl : yw.length ≤ 1000 := by have := nx_len hny; rw [List.length_cons] at this; change yw.length ≤ _ at this; omega
  have HU : Hid (yq = false → ∃ r, yr = some r) := Lib.hid (nx_unq hny)
  have HRL : Hid (∀ r', yr = some r' → Suf line r' ∧ r'.length < line.size ∧ r'.length ≤ t.length) := Lib.hid (fun r' e => by
    have h1 := nx_suffix hc hny e
    have h2 := h1.length_le
    exact ⟨hSuf.of_suffix (h1.trans (List.suffix_cons c t)), by omega, h2⟩)
  obtain ⟨en, hen⟩ : ∃ en : Int, endI line.size yr = en := ⟨_, rfl⟩
  have hNX := next_left line (c :: t) p hSuf hp (by omega) w
  rw [skipB_cons_ne hc, hny, show (line.size : Int) - (c :: t).length = p by rw [List.length_cons] at hp ⊢; omega] at hNX
  have HNX : Hid (Calls Tryz.prog 45 #[.string line, .int .i64 p] w fun e w' => e = .returned (.tuple #[.agg #[.string (mkS yw), .int .i64 p, .bool yq], .int .i64 en]) ∧ Below w.heap.size w w') := Lib.hid (by rw [← hen]; exact hNX)
  obtain ⟨fi, hfi⟩ : ∃ fi, findR xs yw = fi := ⟨_, rfl⟩
  obtain ⟨fr, hfr⟩ : ∃ fr, freeR xs st.ag = fr := ⟨_, rfl⟩
  have hST := stepS_of xs { st with r := c :: t } yw yq yr hny
  simp only [hfi, hfr] at hST
  have HST := Lib.hid hST
  have hfib := findR_lt xs yw
  have hfrb := freeR_lt xs st.ag
  rw [hfi] at hfib
  rw [hfr] at hfrb
  have HFI := Lib.hid hfi
  have HFR := Lib.hid hfr
  obtain ⟨f0, f1, f2, f3, f4⟩ := hFS.f0
  have HFS := Lib.hid hFS
  have HEN := Lib.hid hen
  have HP := Lib.hid hp
  have HSK := Lib.hid hs
  clear hFS hen hNX hny hs hp hST hfi hfr
  go_enter Tryz.func43, Tryz.ntmps43
  go_wp2_with fail
  refine HNX.out.mono ?_
  rintro e w1 ⟨rfl, b1⟩
  obtain ⟨wb, hwb⟩ : ∃ wb, w1.alloc (.cells #[.string (mkS yw), .int .i64 p, .bool yq] 58) = wb := ⟨_, rfl⟩
  have hz1 := b1.size
  have hBb : Below w.heap.size w wb := by rw [← hwb]; exact b1.alloc (by omega) _
  have hzb : w1.heap.size < wb.heap.size := by rw [← hwb]; simp
  have n0 : wb.cell? ⟨w1.heap.size, 0, none⟩ = some (.string (mkS yw)) := by rw [← hwb]; simp [go_sem]
  have n1 : wb.cell? ⟨w1.heap.size, 1, none⟩ = some (.int .i64 p) := by rw [← hwb]; simp [go_sem]
  have n2 : wb.cell? ⟨w1.heap.size, 2, none⟩ = some (.bool yq) := by rw [← hwb]; simp [go_sem]
  have HWB := Lib.hid hwb
  clear hwb
  have HHT : Hid (¬ 0 ≤ (if yq then -1 else fi) → stepS xs { st with r := c :: t } = stepU xs { st with r := c :: t } yw yq yr fr) := Lib.hid (fun h => by
    rw [HST.out]; unfold stepT; rw [if_neg h])
  cases yq with
  | false =>
    obtain ⟨r', rfl⟩ := HU.out rfl
    obtain ⟨hSf3, hrl3, hrt3⟩ := HRL.out r' rfl
    obtain ⟨q3, rfl⟩ : ∃ q3 : Nat, en = q3 := ⟨line.size - r'.length, by rw [← HEN.out]; unfold endI; have := hSf3.1; simp only; omega⟩
    obtain ⟨wd, hwd⟩ : ∃ wd, wb.drew = wd := ⟨_, rfl⟩
    have hBd : Below w.heap.size w wd := by rw [← hwd]; exact hBb.drew
    have hBd' : Below wb.heap.size wb wd := by rw [← hwd]; exact (Below.refl _ _).drew
    have HWD := Lib.hid hwd
    have HFC : Hid (Calls Tryz.prog 38 #[iv, .string (mkS yw)] wd fun e w' => e = .returned (.int .i64 fi) ∧ Below wd.heap.size wd w') := Lib.hid (by
      have := find_calls B iv bs xs (mkS yw) wd (HFS.out.below hBd).it HFS.out.xn hxl (by rw [mkS_size]; omega)
      rw [bl_mkS, HFI.out] at this
      exact this)
    clear hwd
    go_wp2
    rw [HWB.out]
    have f0b := (hBb.cell (p := ⟨F, 0, none⟩) hFl).trans f0
    go_still_tail 6, (by kernel_rfl)
    change wpList _ _ _ _ _ wb.drew
    rw [HWD.out]
    have hzd := hBd'.size
    by_cases hfz : 0 ≤ fi
    · obtain ⟨n, rfl⟩ : ∃ n : Nat, fi = n := ⟨fi.toNat, by omega⟩
      have hn : n < xs.length := by omega
      go_wp2_with fail
      refine HFC.out.mono ?_
      rintro e w2 ⟨rfl, b2⟩
      have hz2 := b2.size
      have hB2 : Below w.heap.size w w2 := hBd.trans (b2.mono (by omega))
      have hS2 := HFS.out.below hB2
      have z2 := frozOf (i := 2) hS2.fb
      have c2 := hS2.f0.2.2.1
      obtain ⟨hS3, hb3⟩ := hS2.setAt r' (by omega) hSf3.2 (v := (q3 : Int)) (by have := HEN.out; unfold endI at this; simp only at this; omega)
      obtain ⟨w3, hw3⟩ : ∃ w3, w2.setCell ⟨F, 2, none⟩ (.int .i64 q3) = w3 := ⟨_, rfl⟩
      rw [hw3] at hS3 hb3
      have HB3 : Hid (Below D w w3) := Lib.hid ((hB2.mono (by omega)).trans hb3)
      have HNM := Lib.hid (name_calls B D F iv bs xs line { st with r := r' } ov nv n hn w3 hS3 (hG.below (by omega) HB3.out) hB64)
      have HW3 := Lib.hid hw3
      clear hS2 hS3 hb3 hw3
      go_wp2_with fail
      rw [HW3.out]
      refine HNM.out.mono ?_
      rintro e w7 ⟨hp, b7⟩
      obtain ⟨ok, rfl, HP⟩ := hp.split
      go_wp2
      go_ret
      have hE := HP.out
      have hN : stepS xs { st with r := c :: t } = nameS xs n { st with r := r' } := by rw [HST.out]; unfold stepT; rw [if_pos (by simp)]; simp
      rw [hN]
      exact ⟨hE, HB3.out.trans b7⟩
    · have hfd : decide (0 ≤ fi) = false := by simpa using hfz
      have HT : Hid (stepS xs { st with r := c :: t } = stepU xs { st with r := c :: t } yw false (some r') fr) := Lib.hid (HHT.out (by simpa using hfz))
      go_wp2_with fail
      refine HFC.out.mono ?_
      rintro e wf ⟨rfl, b2⟩
      have hz2 := b2.size
      have hBf : Below w.heap.size w wf := hBd.trans (b2.mono (by omega))
      have hBf' : Below wb.heap.size wb wf := hBd'.trans (b2.mono (by omega))
      go_wp2_with fail
      have hSf := HFS.out.below hBf
      have HFRC : Hid (Calls Tryz.prog 81 #[.pointer (some ⟨F, 0, none⟩)] wf fun e w' => e = .returned (.int .i64 fr) ∧ Below wf.heap.size wf w') := Lib.hid (by
        have := free_calls B D F iv bs xs line st ov nv wf hSf
        rw [HFR.out] at this
        exact this)
      clear hSf
      refine HFRC.out.mono ?_
      rintro e w3 ⟨rfl, b3⟩
      have hzf := hBf.size
      have hzf' := hBf'.size
      have hz3 := b3.size
      have hB3 : Below w.heap.size w w3 := hBf.trans (b3.mono (by omega))
      have hB3' : Below wb.heap.size wb w3 := hBf'.trans (b3.mono (by omega))
      have HS3 := Lib.hid (HFS.out.below hB3)
      have m0 := (hB3'.cell (p := ⟨w1.heap.size, 0, none⟩) hzb).trans n0
      have m1 := (hB3'.cell (p := ⟨w1.heap.size, 1, none⟩) hzb).trans n1
      have m2 := (hB3'.cell (p := ⟨w1.heap.size, 2, none⟩) hzb).trans n2
      have HG3 := Lib.hid (hG.below' hB3)
      have g0 := HS3.out.f0.1
      by_cases hf0 : 0 ≤ fr
      · obtain ⟨n, rfl⟩ : ∃ n : Nat, fr = n := ⟨fr.toNat, by omega⟩
        have hne : xs ≠ [] := by
          intro e
          have := HFR.out
          rw [e, freeR_nil] at this
          omega
        have hlen := List.length_pos_iff.2 hne
        have hn : n < xs.length := by omega
        obtain ⟨g, icap, hiv⟩ : ∃ g cap, iv = .slice (some ⟨g, 0, none⟩) xs.length cap := by
          rcases HS3.out.it.form with ⟨h, _⟩ | ⟨g, cap, h, _⟩
          · exact absurd h hne
          · exact ⟨g, cap, h⟩
        subst hiv
        obtain ⟨b, c0, c1, c2, c3, c4, c5, -, -, -, -, ⟨e0, e1, e2, e3, e4, e5⟩, d0, d1, d2, d3, d4, d5, d6⟩ := HS3.out.it.c7 n hn
        have HT5 : Hid ((match xs[(n : Int).toNat]? with | some x => x.m.testBit 5 | none => false) = c5) := Lib.hid (by
          rw [Int.toNat_natCast, List.getElem?_eq_getElem hn]; exact e5)
        clear e0 e1 e2 e3 e4 e5 d0 d1 d2 d3 d4 d5 hne
        cases c5 with
        | true =>
          have HRC := Lib.hid (rest_calls B D F (.slice (some ⟨g, 0, none⟩) xs.length icap) bs xs line st ov nv n p hn (by have := HP.out; omega) (by have := HP.out; rw [List.length_cons] at this; omega) w3 HS3.out HG3.out hB64)
          go_wp2_with fail
          refine HRC.out.mono ?_
          rintro e w4 ⟨hp, b4⟩
          obtain ⟨ok, rfl, HPP⟩ := hp.split
          go_wp2
          go_ret
          have hE := HPP.out
          have h1 : (bl line).drop p = c :: t := by rw [← HP.out, ← hSuf.2]
          have hN : stepS xs { st with r := c :: t } = restS xs n st (c :: t) := by
            rw [HT.out]; unfold stepU; rw [HT5.out]; rfl
          rw [h1] at hE
          rw [hN]
          exact ⟨hE, (hB3.mono (by omega)).trans b4⟩
        | false =>
          have hN4 : stepS xs { st with r := c :: t } = if yw = [61] ∧ false = false then none else giveS xs n { st with r := r' } yw := by
            rw [HT.out]; unfold stepU; rw [HT5.out]; rfl
          obtain ⟨sg, HN5, HIS⟩ : ∃ sg, Hid (stepS xs { st with r := c :: t } = if sg = true then none else giveS xs n { st with r := r' } yw) ∧ Hid (∀ W, Calls Tryz.prog 83 #[.agg #[.string (mkS yw), .int .i64 p, .bool false]] W fun e w' => e = .returned (.bool sg) ∧ Below W.heap.size W w') := by
            refine ⟨decide (yw = [61] ∧ false = false), ?_, Lib.hid (isSign_calls yw p false)⟩
            by_cases hP : yw = [61] ∧ false = false
            · rw [if_pos hP] at hN4; rw [decide_eq_true hP]; exact Lib.hid hN4
            · rw [if_neg hP] at hN4; rw [decide_eq_false hP]; exact Lib.hid hN4
          clear hN4
          have hq0 : ¬ (q3 : Int) < 0 := by omega
          cases sg with
          | true =>
            go_wp2_with fail
            refine (HIS.out _).mono ?_
            rintro e w5 ⟨rfl, b5⟩
            go_wp2
            go_ret
            have hN6 : stepS xs { st with r := c :: t } = none := HN5.out
            rw [hN6]
            exact ⟨rfl, (hB3.mono (by omega)).trans (b5.mono (by omega))⟩
          | false =>
            go_wp2_with fail
            refine (HIS.out _).mono ?_
            rintro e w5 ⟨rfl, b5⟩
            have hS5 := HS3.out.below b5
            have z2' := frozOf (i := 2) hS5.fb
            have hz5 := b5.size
            have k0 := (b5.cell (p := ⟨w1.heap.size, 0, none⟩) (by show w1.heap.size < _; omega)).trans m0
            obtain ⟨hS6, hb6⟩ := hS5.setAt r' (by omega) hSf3.2 (v := (q3 : Int)) (by have := HEN.out; unfold endI at this; simp only at this; omega)
            have k2 := hS5.f0.2.2.1
            obtain ⟨w6, hw6⟩ : ∃ w6, w5.setCell ⟨F, 2, none⟩ (.int .i64 q3) = w6 := ⟨_, rfl⟩
            rw [hw6] at hS6 hb6
            have k0' : w6.cell? ⟨w1.heap.size, 0, none⟩ = some (.string (mkS yw)) := by
              rw [← hw6, World.cell?_setCell_other]
              · exact k0
              · intro e; injection e; omega
            have HB6 : Hid (Below D w w6) := Lib.hid (((hB3.mono (by omega)).trans (b5.mono (by omega))).trans hb6)
            have HGV := Lib.hid (give_calls B D F (.slice (some ⟨g, 0, none⟩) xs.length icap) bs xs line { st with r := r' } ov nv n hn (mkS yw) (by rw [mkS_size]; omega) w6 hS6 (hG.below (by omega) HB6.out) hB64 (fun a ha => by
              have := HFS.out.vb a ha
              show a.vals.length + r'.length < _
              omega))
            have HW6 := Lib.hid hw6
            clear hS5 hS6 hb6 hw6
            go_wp2_with fail
            rw [HW6.out]
            refine HGV.out.mono ?_
            rintro e w7 ⟨hp, b7⟩
            obtain ⟨ok, rfl, HPP⟩ := hp.split
            go_wp2
            go_ret
            have hN6 : stepS xs { st with r := c :: t } = giveS xs n { st with r := r' } yw := HN5.out
            rw [hN6]
            have hE := HPP.out
            rw [bl_mkS] at hE
            exact ⟨hE, HB6.out.trans b7⟩
      · have hfd1 : decide (0 ≤ fr) = false := by simpa using hf0
        have hfd2 : decide (fr < 0) = true := by simp; omega
        go_wp2
        go_ret
        have hN : stepS xs { st with r := c :: t } = none := by
          rw [HT.out]; unfold stepU; rw [hfd1, if_neg (by simp), if_pos (by omega)]
        rw [hN]
        exact ⟨rfl, hB3.mono (by omega)⟩
  | true =>
    have HT : Hid (stepS xs { st with r := c :: t } = stepU xs { st with r := c :: t } yw true yr fr) := Lib.hid (HHT.out (by simp))
    go_wp2_with fail
    rw [HWB.out]
    obtain ⟨wf, hwf⟩ : ∃ wf, wb = wf := ⟨_, rfl⟩
    have hBf' : Below wb.heap.size wb wf := by rw [hwf]; exact Below.refl _ _
    have hBf := hBb
    rw [hwf] at hBf
    rw [hwf]
    clear hwf
    cases yr with
    | none =>
      obtain rfl : en = -1 := by rw [← HEN.out]; rfl
      have hSf := HFS.out.below hBf
      have HFRC : Hid (Calls Tryz.prog 81 #[.pointer (some ⟨F, 0, none⟩)] wf fun e w' => e = .returned (.int .i64 fr) ∧ Below wf.heap.size wf w') := Lib.hid (by
        have := free_calls B D F iv bs xs line st ov nv wf hSf
        rw [HFR.out] at this
        exact this)
      clear hSf
      refine HFRC.out.mono ?_
      rintro e w3 ⟨rfl, b3⟩
      have hzf := hBf.size
      have hzf' := hBf'.size
      have hz3 := b3.size
      have hB3 : Below w.heap.size w w3 := hBf.trans (b3.mono (by omega))
      have hB3' : Below wb.heap.size wb w3 := hBf'.trans (b3.mono (by omega))
      have HS3 := Lib.hid (HFS.out.below hB3)
      have m0 := (hB3'.cell (p := ⟨w1.heap.size, 0, none⟩) hzb).trans n0
      have m1 := (hB3'.cell (p := ⟨w1.heap.size, 1, none⟩) hzb).trans n1
      have m2 := (hB3'.cell (p := ⟨w1.heap.size, 2, none⟩) hzb).trans n2
      have HG3 := Lib.hid (hG.below' hB3)
      have g0 := HS3.out.f0.1
      by_cases hf0 : 0 ≤ fr
      · obtain ⟨n, rfl⟩ : ∃ n : Nat, fr = n := ⟨fr.toNat, by omega⟩
        have hne : xs ≠ [] := by
          intro e
          have := HFR.out
          rw [e, freeR_nil] at this
          omega
        have hlen := List.length_pos_iff.2 hne
        have hn : n < xs.length := by omega
        obtain ⟨g, icap, hiv⟩ : ∃ g cap, iv = .slice (some ⟨g, 0, none⟩) xs.length cap := by
          rcases HS3.out.it.form with ⟨h, _⟩ | ⟨g, cap, h, _⟩
          · exact absurd h hne
          · exact ⟨g, cap, h⟩
        subst hiv
        obtain ⟨b, c0, c1, c2, c3, c4, c5, -, -, -, -, ⟨e0, e1, e2, e3, e4, e5⟩, d0, d1, d2, d3, d4, d5, d6⟩ := HS3.out.it.c7 n hn
        have HT5 : Hid ((match xs[(n : Int).toNat]? with | some x => x.m.testBit 5 | none => false) = c5) := Lib.hid (by
          rw [Int.toNat_natCast, List.getElem?_eq_getElem hn]; exact e5)
        clear e0 e1 e2 e3 e4 e5 d0 d1 d2 d3 d4 d5 hne
        cases c5 with
        | true =>
          have HRC := Lib.hid (rest_calls B D F (.slice (some ⟨g, 0, none⟩) xs.length icap) bs xs line st ov nv n p hn (by have := HP.out; omega) (by have := HP.out; rw [List.length_cons] at this; omega) w3 HS3.out HG3.out hB64)
          go_wp2_with fail
          refine HRC.out.mono ?_
          rintro e w4 ⟨hp, b4⟩
          obtain ⟨ok, rfl, HPP⟩ := hp.split
          go_wp2
          go_ret
          have hE := HPP.out
          have h1 : (bl line).drop p = c :: t := by rw [← HP.out, ← hSuf.2]
          have hN : stepS xs { st with r := c :: t } = restS xs n st (c :: t) := by
            rw [HT.out]; unfold stepU; rw [HT5.out]; rfl
          rw [h1] at hE
          rw [hN]
          exact ⟨hE, (hB3.mono (by omega)).trans b4⟩
        | false =>
          have HN4 : Hid (stepS xs { st with r := c :: t } = none) := Lib.hid (by
            rw [HT.out]; unfold stepU; rw [HT5.out]; simp)
          go_wp2
          go_ret
          rw [HN4.out]
          exact ⟨rfl, hB3.mono (by omega)⟩
      · have hfd1 : decide (0 ≤ fr) = false := by simpa using hf0
        have hfd2 : decide (fr < 0) = true := by simp; omega
        go_wp2
        go_ret
        have hN : stepS xs { st with r := c :: t } = none := by
          rw [HT.out]; unfold stepU; rw [hfd1, if_neg (by simp), if_pos (by omega)]
        rw [hN]
        exact ⟨rfl, hB3.mono (by omega)⟩
    | some r' =>
      obtain ⟨hSf3, hrl3, hrt3⟩ := HRL.out r' rfl
      obtain ⟨q3, rfl⟩ : ∃ q3 : Nat, en = q3 := ⟨line.size - r'.length, by rw [← HEN.out]; unfold endI; have := hSf3.1; simp only; omega⟩
      have hSf := HFS.out.below hBf
      have HFRC : Hid (Calls Tryz.prog 81 #[.pointer (some ⟨F, 0, none⟩)] wf fun e w' => e = .returned (.int .i64 fr) ∧ Below wf.heap.size wf w') := Lib.hid (by
        have := free_calls B D F iv bs xs line st ov nv wf hSf
        rw [HFR.out] at this
        exact this)
      clear hSf
      refine HFRC.out.mono ?_
      rintro e w3 ⟨rfl, b3⟩
      have hzf := hBf.size
      have hzf' := hBf'.size
      have hz3 := b3.size
      have hB3 : Below w.heap.size w w3 := hBf.trans (b3.mono (by omega))
      have hB3' : Below wb.heap.size wb w3 := hBf'.trans (b3.mono (by omega))
      have HS3 := Lib.hid (HFS.out.below hB3)
      have m0 := (hB3'.cell (p := ⟨w1.heap.size, 0, none⟩) hzb).trans n0
      have m1 := (hB3'.cell (p := ⟨w1.heap.size, 1, none⟩) hzb).trans n1
      have m2 := (hB3'.cell (p := ⟨w1.heap.size, 2, none⟩) hzb).trans n2
      have HG3 := Lib.hid (hG.below' hB3)
      have g0 := HS3.out.f0.1
      by_cases hf0 : 0 ≤ fr
      · obtain ⟨n, rfl⟩ : ∃ n : Nat, fr = n := ⟨fr.toNat, by omega⟩
        have hne : xs ≠ [] := by
          intro e
          have := HFR.out
          rw [e, freeR_nil] at this
          omega
        have hlen := List.length_pos_iff.2 hne
        have hn : n < xs.length := by omega
        obtain ⟨g, icap, hiv⟩ : ∃ g cap, iv = .slice (some ⟨g, 0, none⟩) xs.length cap := by
          rcases HS3.out.it.form with ⟨h, _⟩ | ⟨g, cap, h, _⟩
          · exact absurd h hne
          · exact ⟨g, cap, h⟩
        subst hiv
        obtain ⟨b, c0, c1, c2, c3, c4, c5, -, -, -, -, ⟨e0, e1, e2, e3, e4, e5⟩, d0, d1, d2, d3, d4, d5, d6⟩ := HS3.out.it.c7 n hn
        have HT5 : Hid ((match xs[(n : Int).toNat]? with | some x => x.m.testBit 5 | none => false) = c5) := Lib.hid (by
          rw [Int.toNat_natCast, List.getElem?_eq_getElem hn]; exact e5)
        clear e0 e1 e2 e3 e4 e5 d0 d1 d2 d3 d4 d5 hne
        cases c5 with
        | true =>
          have HRC := Lib.hid (rest_calls B D F (.slice (some ⟨g, 0, none⟩) xs.length icap) bs xs line st ov nv n p hn (by have := HP.out; omega) (by have := HP.out; rw [List.length_cons] at this; omega) w3 HS3.out HG3.out hB64)
          go_wp2_with fail
          refine HRC.out.mono ?_
          rintro e w4 ⟨hp, b4⟩
          obtain ⟨ok, rfl, HPP⟩ := hp.split
          go_wp2
          go_ret
          have hE := HPP.out
          have h1 : (bl line).drop p = c :: t := by rw [← HP.out, ← hSuf.2]
          have hN : stepS xs { st with r := c :: t } = restS xs n st (c :: t) := by
            rw [HT.out]; unfold stepU; rw [HT5.out]; rfl
          rw [h1] at hE
          rw [hN]
          exact ⟨hE, (hB3.mono (by omega)).trans b4⟩
        | false =>
          have hN4 : stepS xs { st with r := c :: t } = if yw = [61] ∧ true = false then none else giveS xs n { st with r := r' } yw := by
            rw [HT.out]; unfold stepU; rw [HT5.out]; rfl
          obtain ⟨sg, HN5, HIS⟩ : ∃ sg, Hid (stepS xs { st with r := c :: t } = if sg = true then none else giveS xs n { st with r := r' } yw) ∧ Hid (∀ W, Calls Tryz.prog 83 #[.agg #[.string (mkS yw), .int .i64 p, .bool true]] W fun e w' => e = .returned (.bool sg) ∧ Below W.heap.size W w') := by
            refine ⟨decide (yw = [61] ∧ true = false), ?_, Lib.hid (isSign_calls yw p true)⟩
            by_cases hP : yw = [61] ∧ true = false
            · rw [if_pos hP] at hN4; rw [decide_eq_true hP]; exact Lib.hid hN4
            · rw [if_neg hP] at hN4; rw [decide_eq_false hP]; exact Lib.hid hN4
          clear hN4
          have hq0 : ¬ (q3 : Int) < 0 := by omega
          cases sg with
          | true =>
            go_wp2_with fail
            refine (HIS.out _).mono ?_
            rintro e w5 ⟨rfl, b5⟩
            go_wp2
            go_ret
            have hN6 : stepS xs { st with r := c :: t } = none := HN5.out
            rw [hN6]
            exact ⟨rfl, (hB3.mono (by omega)).trans (b5.mono (by omega))⟩
          | false =>
            go_wp2_with fail
            refine (HIS.out _).mono ?_
            rintro e w5 ⟨rfl, b5⟩
            have hS5 := HS3.out.below b5
            have z2' := frozOf (i := 2) hS5.fb
            have hz5 := b5.size
            have k0 := (b5.cell (p := ⟨w1.heap.size, 0, none⟩) (by show w1.heap.size < _; omega)).trans m0
            obtain ⟨hS6, hb6⟩ := hS5.setAt r' (by omega) hSf3.2 (v := (q3 : Int)) (by have := HEN.out; unfold endI at this; simp only at this; omega)
            have k2 := hS5.f0.2.2.1
            obtain ⟨w6, hw6⟩ : ∃ w6, w5.setCell ⟨F, 2, none⟩ (.int .i64 q3) = w6 := ⟨_, rfl⟩
            rw [hw6] at hS6 hb6
            have k0' : w6.cell? ⟨w1.heap.size, 0, none⟩ = some (.string (mkS yw)) := by
              rw [← hw6, World.cell?_setCell_other]
              · exact k0
              · intro e; injection e; omega
            have HB6 : Hid (Below D w w6) := Lib.hid (((hB3.mono (by omega)).trans (b5.mono (by omega))).trans hb6)
            have HGV := Lib.hid (give_calls B D F (.slice (some ⟨g, 0, none⟩) xs.length icap) bs xs line { st with r := r' } ov nv n hn (mkS yw) (by rw [mkS_size]; omega) w6 hS6 (hG.below (by omega) HB6.out) hB64 (fun a ha => by
              have := HFS.out.vb a ha
              show a.vals.length + r'.length < _
              omega))
            have HW6 := Lib.hid hw6
            clear hS5 hS6 hb6 hw6
            go_wp2_with fail
            rw [HW6.out]
            refine HGV.out.mono ?_
            rintro e w7 ⟨hp, b7⟩
            obtain ⟨ok, rfl, HPP⟩ := hp.split
            go_wp2
            go_ret
            have hN6 : stepS xs { st with r := c :: t } = giveS xs n { st with r := r' } yw := HN5.out
            rw [hN6]
            have hE := HPP.out
            rw [bl_mkS] at hE
            exact ⟨hE, HB6.out.trans b7⟩
      · have hfd1 : decide (0 ≤ fr) = false := by simpa using hf0
        have hfd2 : decide (fr < 0) = true := by simp; omega
        go_wp2
        go_ret
        have hN : stepS xs { st with r := c :: t } = none := by
          rw [HT.out]; unfold stepU; rw [hfd1, if_neg (by simp), if_pos (by omega)]
        rw [hN]
        exact ⟨rfl, hB3.mono (by omega)⟩
end Go.Proofs.YtojppincaalibaaGreatDoor
