/- The walk of args.Fit. -/
import Derived.Test.YtojppincaalibaaGreatDoorFitI
set_option linter.unusedVariables false
set_option linter.unusedSimpArgs false
set_option maxRecDepth 100000
namespace Go.Proofs.YtojppincaalibaaGreatDoor
open Go.Shelf Go.RowKit

def fitPost (w : World) (r : List Ag × Int) (e : Ending) (w' : World) : Prop :=
  ∃ ov, e = .returned (.tuple #[ov, .int .i64 r.2]) ∧ ArgsM w' w.heap.size ov r.1
theorem fitPost_bad {w : World} {r : List Ag × Int} {c : Int} {w' : World} (h : r = ([], c)) : fitPost w r (.returned (.tuple #[.slice none 0 0, .int .i64 c])) w' := by
  subst h
  exact ⟨_, rfl, .inl ⟨rfl, rfl⟩⟩
/-- The cells of arguments at the begin. -/
def rowA : List It → List Value
  | [] => []
  | x :: xs => [.string (mkS (x.names.headD [])), .slice none 0 0, .bool false] ++ rowA xs
theorem head_of : ∀ (l : List Bs) (h : 0 < l.length), l[0] = l.headD []
  | x :: xs, _ => rfl
theorem rowA_snoc (xs : List It) (x : It) : rowA (xs ++ [x]) = rowA xs ++ [.string (mkS (x.names.headD [])), .slice none 0 0, .bool false] := by
  induction xs with
  | nil => rfl
  | cons y ys ih => simp only [List.cons_append, rowA, ih]; simp
theorem rowA_len (xs : List It) : (rowA xs).length = xs.length * 3 := by
  induction xs with
  | nil => rfl
  | cons y ys ih => simp only [rowA, List.length_append, ih, List.length_cons, List.length_nil]; omega
theorem rowA_at : ∀ (xs : List It) (i j : Nat) (hi : i < xs.length), j < 3 → (rowA xs)[i * 3 + j]? = [Value.string (mkS (xs[i].names.headD [])), .slice none 0 0, .bool false][j]?
  | [], i, j, hi, _ => absurd hi (Nat.not_lt_zero _)
  | x :: xs, 0, j, hi, hj => by
    simp only [rowA, Nat.zero_mul, Nat.zero_add]
    rw [List.getElem?_append_left (by simp; omega)]
    rfl
  | x :: xs, i + 1, j, hi, hj => by
    simp only [rowA]
    rw [List.getElem?_append_right (by simp; omega), show (i + 1) * 3 + j - ([Value.string (mkS (x.names.headD [])), .slice none 0 0, .bool false] : List Value).length = i * 3 + j by simp; omega, rowA_at xs i j (by simpa using hi) hj]
    rfl
theorem argsOfOwn {w : World} {D : Nat} {ov : Value} {xs : List It} (h : w.ownsRow D 69 3 ov xs.length (rowA xs)) : ArgsM w D ov (startAs xs) := by
  rcases h.2 with ⟨rfl, h0⟩ | ⟨G, cap, cur, rfl, hD, hh, hle, -, hsz, htk⟩
  · left
    rw [List.length_eq_zero_iff.1 h0]
    exact ⟨rfl, rfl⟩
  · right
    have hl : (startAs xs).length = xs.length := List.length_map ..
    have hat : ∀ i j, i < xs.length → j < 3 → cur[i * 3 + j]? = (rowA xs)[i * 3 + j]? := fun i j hi hj => by
      rw [← htk, List.getElem?_take_of_lt (by omega), Array.getElem?_toList]
    refine ⟨G, cap, cur, List.replicate xs.length (.slice none 0 0), by rw [hl], hD, hh, hsz, by rw [List.length_replicate, hl], by rw [hl]; exact hle, ?_, ?_, ?_, ?_, ?_⟩
    · intro i hi
      rw [hl] at hi
      have := hat i 0 hi (by omega)
      rw [rowA_at xs i 0 hi (by omega)] at this
      simpa [startAs] using this
    · intro i hi hi'
      rw [hl] at hi
      have := hat i 1 hi (by omega)
      rw [rowA_at xs i 1 hi (by omega)] at this
      simpa using this
    · intro i hi
      rw [hl] at hi
      have := hat i 2 hi (by omega)
      rw [rowA_at xs i 2 hi (by omega)] at this
      simpa [startAs] using this
    · intro i hi hi'
      rw [List.getElem_replicate]
      simp only [startAs, List.getElem_map]
      exact ⟨rfl, .inl ⟨rfl, rfl⟩⟩
    · intro i j hi hj _
      rw [List.getElem_replicate]
      exact .inl rfl
theorem infoBool : (Tryz.prog.info? 4).map (fun i => (i.zero, i.size, i.bytes)) = some (some (.bool false), 1, 1) := by kernel_rfl
theorem infoArg : (Tryz.prog.info? 69).map (fun i => (i.zero, i.size, i.bytes)) = some (some (.agg #[.string ⟨#[]⟩, .slice none 0 0, .bool false]), 3, 48) := by kernel_rfl

theorem make_bools (n : Nat) (hn : n ≤ 20) (w : World) : (Instr.makeSlice 24 (.int .i64 (n : Int)) (.int .i64 (n : Int))).run Tryz.prog w = .ok (.slice (some ⟨w.heap.size, 0, none⟩) n n) (w.alloc (.cells (madeCells #[.bool false] n) 4)) := by
  obtain ⟨i0, hi, hz0, hz1, hz2⟩ := info_parts infoBool
  have := run_makeSlice (w := w) 24 4 i0 (.bool false) Tryz.underlying24 hi hz0 .i64 .i64 n n (by omega) (Int.le_refl _) (by rw [hz1, Int.toNat_natCast]; omega) (by rw [hz2]; omega) (by omega)
  rw [hz1, Int.toNat_natCast, Nat.mul_one] at this
  exact this

theorem ArgsM.base {w : World} {B D : Nat} {ov : Value} {ag : List Ag} (h : ArgsM w D ov ag) (hB : B ≤ D) : ArgsM w B ov ag := by
  rcases h with h | ⟨G, cap, C, vs, h1, h2⟩
  · exact .inl h
  · refine .inr ⟨G, cap, C, vs, h1, ⟨Nat.le_trans hB h2.hB, h2.heap, h2.size, h2.len, h2.le, h2.at0, h2.at1, h2.at2, fun i a b => ?_, h2.apart⟩⟩
    have := h2.own i a b
    refine ⟨this.1, ?_⟩
    rcases this.2 with h | ⟨g, cap, cur, e, hD, rest⟩
    · exact .inl h
    · exact .inr ⟨g, cap, cur, e, Nat.le_trans hB hD, rest⟩

set_option maxHeartbeats 16000000 in
theorem fit_calls (t line : ByteArray) (ht : t.size ≤ 900000) (hl : line.size ≤ 1000000) (w : World) (hG : Glob w) :
    Calls Tryz.prog 22 #[.string t, .string line] w fun e w' => fitPost w (fitR (bl t) (bl line)) e w' ∧ Below w.heap.size w w' := by
  have hbig := hG.big
  by_cases h1000 : 1000 < line.size
  · have HR : Hid (fitR (bl t) (bl line) = ([], 2)) := Lib.hid (by unfold fitR; rw [bl_len, if_pos h1000])
    go_enter Tryz.func22, Tryz.ntmps22
    go_wp2
    go_ret2
    exact ⟨fitPost_bad HR.out, Below.refl _ _⟩
  · obtain ⟨⟨xs, ec⟩, hr⟩ : ∃ r, templateR (bl t) = r := ⟨_, rfl⟩
    have HR : Hid (fitR (bl t) (bl line) = if ec ≠ 0 then ([], ec) else if (bl line).any badByte then ([], 250) else
        match fitGo xs (line.size + 1) ⟨bl line, startAs xs, xs.map fun _ => false⟩ with
        | none => ([], 250)
        | some ag => if lacking xs ag then ([], 250) else (ag, 0)) := Lib.hid (by
      unfold fitR; rw [bl_len, if_neg h1000, hr]; rfl)
    obtain ⟨hx20, hxn⟩ := templateR_items (bl t)
    rw [hr] at hx20 hxn
    simp only at hx20 hxn
    have hTM := template_calls t w ht hG
    rw [hr] at hTM
    have HTM := Lib.hid hTM
    have HXN := Lib.hid hxn
    clear hTM hr hxn
    by_cases hec : ec = 0
    · subst hec
      by_cases hbad : (bl line).any badByte = true
      · have HRD : Hid (∀ W, Calls Tryz.prog 24 #[.string line] W fun e w' => e = .returned (.int .i64 250) ∧ Below W.heap.size W w') := Lib.hid (fun W => by
          have := readable_calls line hl W
          unfold readableR at this
          rw [bl_len, if_neg h1000, if_pos hbad] at this
          exact this)
        have HR2 : Hid (fitR (bl t) (bl line) = ([], 250)) := Lib.hid (by rw [HR.out, if_neg (by simp), if_pos hbad])
        clear hbad HR
        go_enter Tryz.func22, Tryz.ntmps22
        go_wp2_with fail
        refine HTM.out.mono ?_
        rintro e w1 ⟨⟨v, bs, rfl, hIT⟩, b1⟩
        have HIT := Lib.hid hIT
        clear hIT
        go_wp2_with fail
        refine (HRD.out _).mono ?_
        rintro e w2 ⟨rfl, b2⟩
        go_wp2
        go_ret2
        exact ⟨fitPost_bad HR2.out, b1.trans (b2.mono b1.size)⟩
      · have HRD : Hid (∀ W, Calls Tryz.prog 24 #[.string line] W fun e w' => e = .returned (.int .i64 0) ∧ Below W.heap.size W w') := Lib.hid (fun W => by
          have := readable_calls line hl W
          unfold readableR at this
          rw [bl_len, if_neg h1000, if_neg hbad] at this
          exact this)
        have HR2 : Hid (fitR (bl t) (bl line) = match fitGo xs (line.size + 1) ⟨bl line, startAs xs, xs.map fun _ => false⟩ with
          | none => ([], 250)
          | some ag => if lacking xs ag then ([], 250) else (ag, 0)) := Lib.hid (by rw [HR.out, if_neg (by simp), if_neg hbad])
        clear hbad HR
        go_enter Tryz.func22, Tryz.ntmps22
        go_wp2_with fail
        refine HTM.out.mono ?_
        rintro e w1 ⟨⟨v, bs, rfl, hIT⟩, b1⟩
        have HIT := Lib.hid hIT
        have hvf := hIT.form
        clear hIT
        obtain ⟨N, hN⟩ : ∃ N, madeCells #[.bool false] xs.length = N := ⟨_, rfl⟩
        have hmk := make_bools xs.length hx20
        rw [hN] at hmk
        have HN := Lib.hid hN
        clear hN
        rcases hvf with ⟨rfl, rfl⟩ | ⟨g, icap, rfl, hBg, hgl⟩
        · go_wp2_with fail
          refine (HRD.out _).mono ?_
          rintro e w2 ⟨rfl, b2⟩
          simp only [List.length_nil, Int.natCast_zero] at hmk
          have hb1 := b1.size
          have hb2 := b2.size
          obtain ⟨wF, hwF⟩ : ∃ wF, (w2.alloc (.cells N 4)).alloc (.cells #[.slice none 0 0, .string line, .int .i64 0, .slice none 0 0, .slice (some ⟨w2.heap.size, 0, none⟩) 0 0] 86) = wF := ⟨_, rfl⟩
          have hB : Below w2.heap.size w2 wF := by rw [← hwF]; exact ((Below.refl _ _).alloc (Nat.le_refl _) _).alloc (by simp) _
          have HB1 : Hid (wF.heap[w2.heap.size + 1]? = some (.cells #[.slice none 0 0, .string line, .int .i64 0, .slice none 0 0, .slice (some ⟨w2.heap.size, 0, none⟩) 0 0] 86 (0, 0))) := Lib.hid (by
            rw [← hwF]
            have := Go.heap_alloc_new (w2.alloc (.cells N 4)) (.cells #[.slice none 0 0, .string line, .int .i64 0, .slice none 0 0, .slice (some ⟨w2.heap.size, 0, none⟩) 0 0] 86)
            rw [World.size_alloc] at this
            exact this)
          have HB2 : Hid (wF.heap[w2.heap.size]? = some (.cells N 4 (0, 0))) := Lib.hid (by
            rw [← hwF, Lib.alloc_old _ _ _ (by simp)]
            exact Go.heap_alloc_new w2 _)
          have HOW : Hid (wF.ownsRow w2.heap.size 69 3 (.slice none 0 0) 0 (rowA (([] : List It).take ([] : List It).length))) := Lib.hid ⟨rfl, .inl ⟨rfl, rfl⟩⟩
          have HWF := Lib.hid hwF
          have HIT2 := Lib.hid (HIT.out.below b2)
          clear hwF
          go_wp2
          rw [HWF.out]
          go_loopw [40] (fun i wr => i = .int .i64 0 ∧ Hid (wF = wr)) (fun _ _ => 0)
          case atStart => exact ⟨rfl, Lib.hid rfl⟩
          case round =>
            obtain ⟨rfl, HWR⟩ := hrel
            rw [HWR.out] at hB HB1 HB2 HOW

            have HS0 : Hid (FS wr w.heap.size w2.heap.size (w2.heap.size + 1) (.slice none 0 0) bs [] line ⟨bl line, startAs [], ([] : List It).map fun _ => false⟩ (.slice none 0 0) (.slice (some ⟨w2.heap.size, 0, none⟩) 0 0)) := Lib.hid (by
              have hle : (bl line).length = line.size := bl_len line
              refine ⟨HIT2.out.below hB, by rw [hle]; exact Nat.le_refl _, by rw [hle, Nat.sub_self]; rfl, ⟨by omega, by omega⟩, ?_, ⟨?_, ?_⟩, argsOfOwn HOW.out, ?_, List.length_map .., List.length_map .., ?_, by omega, by omega, ?_⟩
              · rw [hle, show (line.size : Int) - (line.size : Nat) = 0 by omega]; exact HB1.out
              · intro b hb
                obtain ⟨i, hi, rfl⟩ := List.getElem_of_mem hb
                have := (HIT.out.2.2 i (by rw [← HIT.out.1]; exact hi) hi).2.1
                omega
              · intro g' e
                have := own_block HIT.out.2.1 e
                obtain ⟨_, cur, hc⟩ := this
                have := (Array.getElem?_eq_some_iff.1 hc).1
                omega
              · refine ⟨w2.heap.size, 0, N, by first | (rw [List.length_map]; done) | (rw [List.length_map]; rfl), Nat.le_refl _, HB2.out, fun i hi => ?_⟩
                rw [List.length_map] at hi
                rw [← HN.out, ← Array.getElem?_toList, toList_madeCells_one, List.getElem?_replicate, if_pos hi]
                first
                  | (simp; done)
                  | exact absurd hi (by simp)
              · intro a ha
                simp only [startAs, List.mem_map] at ha
                obtain ⟨x, _, rfl⟩ := ha
                show 0 + (bl line).length ≤ _
                rw [hle]; omega
              · intro x hx
                have := (HXN.out x hx).2
                rw [bl_len] at this
                omega)
            obtain ⟨wq, hwq⟩ : ∃ wq, wr = wq := ⟨_, rfl⟩
            rw [hwq] at HS0 hB
            have HWQ := Lib.hid hwq
            have f1 := HS0.out.f0.2.1
            have HG2 := Lib.hid (hG.below' (b1.trans (b2.mono (by omega))))
            have HBW : Hid (Below w.heap.size w w2) := Lib.hid (b1.trans (b2.mono (by omega)))
            rw [← hwq] at f1
            clear hwq
            go_wp2_with fail
            refine (blank_left (w2.heap.size + 1) line (bl line) 0 (line.size - (skipB (bl line)).length) ⟨by rw [bl_len]; exact Nat.le_refl _, by rw [bl_len, Nat.sub_self]; rfl⟩ (by rw [bl_len]; omega) rfl (by omega) _ f1 0 rfl).mono ?_
            rintro e w3 ⟨rfl, b3⟩
            rw [HWQ.out] at b3
            clear f1
            have hzq := hB.size
            go_wp2
            go_loopw [12] (fun a wr => ∃ (st : FSt) (n p : Nat), a = .int .i64 p ∧ Hid (line.size - (skipB st.r).length = p) ∧ Hid (FS wr w.heap.size w2.heap.size (w2.heap.size + 1) (.slice none 0 0) bs [] line st (.slice none 0 0) (.slice (some ⟨w2.heap.size, 0, none⟩) 0 0)) ∧ Below w2.heap.size w2 wr ∧ st.r.length ≤ n ∧ Hid (fitGo [] (line.size + 1) ⟨bl line, startAs [], ([] : List It).map fun _ => false⟩ = fitGo [] (n + 1) st)) (fun a _ => (line.size - intOf a).toNat)
            case atStart =>
              refine ⟨⟨bl line, startAs [], ([] : List It).map fun _ => false⟩, line.size, _, rfl, Lib.hid rfl, Lib.hid (HS0.out.below b3), hB.trans (b3.mono (by omega)), by show (bl line).length ≤ _; rw [bl_len]; exact Nat.le_refl _, Lib.hid rfl⟩
            case round =>
              obtain ⟨st, n, p, rfl, HP, HS, hB2, hnr, HF⟩ := hrel
              have hsl := (skip_suffix st.r).length_le
              have hst := HS.out.le
              have HG3 := Lib.hid (HG2.out.below (by omega : 9 ≤ w2.heap.size) hB2)
              have hz2 := (Array.getElem?_eq_some_iff.1 HS.out.fb).1
              cases hsr : skipB st.r with
              | nil =>
                have hp : ¬ p < line.size := by have := HP.out; rw [hsr] at this; simp at this; omega
                have HF2 : Hid (fitGo [] (line.size + 1) ⟨bl line, startAs [], ([] : List It).map fun _ => false⟩ = some st.ag) := Lib.hid (by rw [HF.out]; exact fitGo_end _ _ _ hsr)
                have HR3 : Hid (fitR (bl t) (bl line) = if lacking [] st.ag then ([], 250) else (st.ag, 0)) := Lib.hid (by rw [HR2.out, HF2.out])
                clear hsr HF HF2
                have f3 := HS.out.f0.2.2.2.1
                go_wp2
                have HR4 : Hid (fitR (bl t) (bl line) = (st.ag, 0)) := Lib.hid (by rw [HR3.out]; cases st.ag <;> rfl)
                obtain ⟨wo, rfl⟩ : ∃ wo : World, wo = wr := ⟨_, rfl⟩
                go_loopw [77] (fun i wr => i = .int .i64 0 ∧ Hid (wr = wo)) (fun _ _ => 0)
                case atStart => exact ⟨rfl, Lib.hid rfl⟩
                case round =>
                  obtain ⟨rfl, HW3⟩ := hrel
                  have f3' : wr.cell? ⟨w2.heap.size + 1, 3, none⟩ = some (.slice none 0 0) := by rw [HW3.out]; exact f3
                  go_wp2
                  go_ret2
                  rw [HW3.out]
                  exact ⟨⟨.slice none 0 0, by rw [HR4.out]; rfl, by rw [HR4.out]; exact HS.out.ar.base (by omega)⟩, HBW.out.trans (hB2.mono (by omega))⟩
              | cons c tl =>
                have hp0 := HP.out
                have hc := skip_head _ _ _ hsr
                rw [hsr] at hp0 hsl
                rw [List.length_cons] at hsl hp0
                have hp : p < line.size := by omega
                have HP0 := Lib.hid hp0
                have HST := Lib.hid (step_calls w.heap.size w2.heap.size (w2.heap.size + 1) (.slice none 0 0) bs [] line st (.slice none 0 0) (.slice (some ⟨w2.heap.size, 0, none⟩) 0 0) c tl hsr p (by rw [List.length_cons]; exact hp0) wr HS.out HG3.out hbig)
                have HFS := fitGo_step [] n st c tl hsr
                cases hss : stepS [] { st with r := c :: tl } with
                | none =>
                  rw [hss] at HST HFS
                  have HF2 : Hid (fitR (bl t) (bl line) = ([], 250)) := Lib.hid (by rw [HR2.out, HF.out, HFS])
                  clear hss HFS hsr hp0 HF
                  go_wp2_with fail
                  refine HST.out.mono ?_
                  rintro e w5 ⟨hq, b5⟩
                  obtain rfl := hq
                  go_wp2
                  go_ret2
                  exact ⟨fitPost_bad HF2.out, HBW.out.trans ((hB2.trans b5).mono (by omega))⟩
                | some st' =>
                  rw [hss] at HST HFS
                  have hlen := stepS_len hc hss
                  have HF2 := Lib.hid (HF.out.trans HFS)
                  clear hss HFS hsr hp0
                  go_wp2_with fail
                  refine HST.out.mono ?_
                  rintro e w5 ⟨hq, b5⟩
                  obtain ⟨rfl, hq⟩ := hq
                  have HS5 := Lib.hid hq
                  have f2 := HS5.out.f0.2.2.1
                  have f1 := HS5.out.f0.2.1
                  have hst5 := HS5.out.le
                  have hsl5 := (skip_suffix st'.r).length_le
                  clear hq
                  obtain ⟨n2, rfl⟩ : ∃ n2, n = n2 + 1 := ⟨n - 1, by omega⟩
                  go_wp2_with fail
                  refine (blank_left (w2.heap.size + 1) line st'.r (line.size - st'.r.length) (line.size - (skipB st'.r).length) HS5.out.suf' rfl rfl (by omega) _ f1 _ (by omega)).mono ?_
                  rintro e w6 ⟨rfl, b6⟩
                  have hz5 := (hB2.trans b5).size
                  go_wp2
                  go_roundw
                  case rel => exact ⟨st', n2, _, rfl, Lib.hid rfl, Lib.hid (HS5.out.below b6), (hB2.trans b5).trans (b6.mono (by omega)), by omega, HF2⟩
                  case measure =>
                    have := HP0.out
                    simp [intOf]; omega
        · obtain ⟨i0, hi0, hz0, hz1, hz2⟩ := info_parts infoArg
          go_wp2_with fail
          refine (HRD.out _).mono ?_
          rintro e w2 ⟨rfl, b2⟩
          have hb1 := b1.size
          have hb2 := b2.size
          obtain ⟨wF, hwF⟩ : ∃ wF, (w2.alloc (.cells N 4)).alloc (.cells #[.slice (some ⟨g, 0, none⟩) xs.length icap, .string line, .int .i64 0, .slice none 0 0, .slice (some ⟨w2.heap.size, 0, none⟩) xs.length xs.length] 86) = wF := ⟨_, rfl⟩
          have hBF : Below w2.heap.size w2 wF := by rw [← hwF]; exact ((Below.refl _ _).alloc (Nat.le_refl _) _).alloc (by simp) _
          have hzF : w2.heap.size + 1 < wF.heap.size := by rw [← hwF]; simp
          have HFB : Hid (wF.heap[w2.heap.size + 1]? = some (.cells #[.slice (some ⟨g, 0, none⟩) xs.length icap, .string line, .int .i64 0, .slice none 0 0, .slice (some ⟨w2.heap.size, 0, none⟩) xs.length xs.length] 86 (0, 0))) := Lib.hid (by
            rw [← hwF]
            have := Go.heap_alloc_new (w2.alloc (.cells N 4)) (.cells #[.slice (some ⟨g, 0, none⟩) xs.length icap, .string line, .int .i64 0, .slice none 0 0, .slice (some ⟨w2.heap.size, 0, none⟩) xs.length xs.length] 86)
            rw [World.size_alloc] at this
            exact this)
          have HNB : Hid (wF.heap[w2.heap.size]? = some (.cells N 4 (0, 0))) := Lib.hid (by
            rw [← hwF, Lib.alloc_old _ _ _ (by simp)]
            exact Go.heap_alloc_new w2 _)
          have HWF := Lib.hid hwF
          have HIT2 := Lib.hid (HIT.out.below b2)
          clear hwF
          go_wp2
          rw [HWF.out]
          go_loopw [40] (fun i wr => ∃ (k : Nat) (ov : Value), k ≤ xs.length ∧ i = .int .i64 k ∧ Below w2.heap.size w2 wr ∧ Hid (wr.heap[w2.heap.size + 1]? = some (.cells #[.slice (some ⟨g, 0, none⟩) xs.length icap, .string line, .int .i64 0, ov, .slice (some ⟨w2.heap.size, 0, none⟩) xs.length xs.length] 86 (0, 0))) ∧ Hid (wr.heap[w2.heap.size]? = some (.cells N 4 (0, 0))) ∧ Hid (wr.ownsRow w2.heap.size 69 3 ov k (rowA (xs.take k)))) (fun i _ => (xs.length - intOf i).toNat)
          case atStart => exact ⟨0, .slice none 0 0, by omega, rfl, hBF, HFB, HNB, Lib.hid ⟨rfl, .inl ⟨rfl, rfl⟩⟩⟩
          case round =>
            obtain ⟨k, ov, hk, rfl, hB, HB1, HB2, HOW⟩ := hrel
            by_cases hlt : k < xs.length
            · have hlz : decide ((k : Int) < (xs.length : Int)) = true := by simp; omega
              obtain ⟨b, c0, c1, c2, c3, c4, c5, hbB, hbl, hSB, -, -, d0, d1, d2, d3, d4, d5, d6⟩ := (HIT2.out.below hB).c7 k hlt
              obtain ⟨x, hx⟩ : ∃ x, xs[k] = x := ⟨_, rfl⟩
              rw [hx] at hSB d0
              have hxn := HXN.out x (by rw [← hx]; exact List.getElem_mem _)
              obtain ⟨nm, hnm⟩ : ∃ nm, x.names.headD [] = nm := ⟨_, rfl⟩
              have hn0 : 0 < x.names.length := List.length_pos_iff.2 hxn.1
              have e0 : wr.cell? ⟨b, 0, none⟩ = some (.string (mkS nm)) := by
                have := hSB.strs 0 hn0
                rw [Nat.zero_add] at this
                rw [this, ← hnm, head_of]
              have HRA : Hid (rowA (xs.take (k + 1)) = rowA (xs.take k) ++ [.string (mkS nm), .slice none 0 0, .bool false]) := Lib.hid (by
                rw [List.take_succ_eq_append_getElem hlt, hx, rowA_snoc, hnm])
              clear hxn hnm hx hSB
              obtain ⟨w7, hw7⟩ : ∃ w7, wr.alloc (.cells #[.slice (some ⟨b, 0, none⟩) x.names.length x.names.length, .bool c0, .bool c1, .bool c2, .bool c3, .bool c4, .bool c5] 42) = w7 := ⟨_, rfl⟩
              have hB7 : Below wr.heap.size wr w7 := by rw [← hw7]; exact (Below.refl _ _).alloc (Nat.le_refl _) _
              have h7z : wr.heap.size < w7.heap.size := by rw [← hw7]; simp
              have p0 : w7.cell? ⟨wr.heap.size, 0, none⟩ = some (.slice (some ⟨b, 0, none⟩) x.names.length x.names.length) := by rw [← hw7]; simp [go_sem]
              have p1 := (hB7.cell (p := ⟨b, 0, none⟩) hbl).trans e0
              have hzr := (Array.getElem?_eq_some_iff.1 HB1.out).1
              have HF7 : Hid (w7.heap[w2.heap.size + 1]? = _) := Lib.hid ((hB7.block _ (by omega)).trans HB1.out)
              have p2 : w7.cell? ⟨w2.heap.size + 1, 3, none⟩ = some ov := cellOf HF7.out
              have z2 : w7.frozen? ⟨w2.heap.size + 1, 3, none⟩ = false := frozOf HF7.out
              have HOW7 := Lib.hid (own_below HOW.out hB7)
              have aF : ov.ownBlock ≠ some (w2.heap.size + 1) := fun e => by
                obtain ⟨_, cur, hc⟩ := own_block HOW7.out e
                rw [HF7.out] at hc; cases hc
              have HW7 := Lib.hid hw7
              have kF : ∀ o, (w7.alloc o).drew.cell? ⟨w2.heap.size + 1, 3, none⟩ = some ov := fun o => (((Below.refl w7.heap.size w7).alloc (Nat.le_refl _) o).drew.cell (p := ⟨w2.heap.size + 1, 3, none⟩) (by show w2.heap.size + 1 < _; omega)).trans p2
              have zF : ∀ o, (w7.alloc o).drew.frozen? ⟨w2.heap.size + 1, 3, none⟩ = false := fun o => (((Below.refl w7.heap.size w7).alloc (Nat.le_refl _) o).drew.frozen (p := ⟨w2.heap.size + 1, 3, none⟩) (by show w2.heap.size + 1 < _; omega)).trans z2
              have HE : Hid (∀ (gg capg : Nat) (w8 : World), w8.ownsRow w2.heap.size 69 3 (.slice (some ⟨gg, 0, none⟩) (k + 1) capg) (k + 1) (rowA (xs.take k) ++ [.string (mkS nm), .slice none 0 0, .bool false]) → (w7.alloc (Obj.cells #[.string (mkS nm), .slice none 0 0, .bool false] 69)).drew.grownBy w8 ov.ownBlock →
                  Below w2.heap.size w2 (w8.setCell ⟨w2.heap.size + 1, 3, none⟩ (.slice (some ⟨gg, 0, none⟩) (k + 1) capg)) ∧ Hid ((w8.setCell ⟨w2.heap.size + 1, 3, none⟩ (.slice (some ⟨gg, 0, none⟩) (k + 1) capg)).heap[w2.heap.size + 1]? = some (.cells #[.slice (some ⟨g, 0, none⟩) xs.length icap, .string line, .int .i64 0, .slice (some ⟨gg, 0, none⟩) (k + 1) capg, .slice (some ⟨w2.heap.size, 0, none⟩) xs.length xs.length] 86 (0, 0))) ∧ Hid ((w8.setCell ⟨w2.heap.size + 1, 3, none⟩ (.slice (some ⟨gg, 0, none⟩) (k + 1) capg)).heap[w2.heap.size]? = some (.cells N 4 (0, 0))) ∧ Hid ((w8.setCell ⟨w2.heap.size + 1, 3, none⟩ (.slice (some ⟨gg, 0, none⟩) (k + 1) capg)).ownsRow w2.heap.size 69 3 (.slice (some ⟨gg, 0, none⟩) (k + 1) capg) (k + 1) (rowA (xs.take (k + 1))))) := Lib.hid (fun gg capg w8 h1 h2 => by
                have hA : Below w2.heap.size w2 (w7.alloc (Obj.cells #[.string (mkS nm), .slice none 0 0, .bool false] 69)).drew := ((hB.trans (hB7.mono (by omega))).alloc (by omega) _).drew
                have hold : ∀ j o, j < w7.heap.size → ov.ownBlock ≠ some j → w7.heap[j]? = some o → w8.heap[j]? = some o := fun j o hj hne ho => by
                  rw [h2.block j (by show j < (w7.alloc _).heap.size; simp; omega) (Ne.symm hne)]
                  show (w7.alloc _).heap[j]? = _
                  rw [Lib.alloc_old _ _ _ hj]; exact ho
                have hf8 := hold _ _ (by omega) aF HF7.out
                have hN7 : w7.heap[w2.heap.size]? = some (.cells N 4 (0, 0)) := (hB7.block _ (by omega)).trans HB2.out
                have hn8 := hold _ _ (by omega) (fun e => by
                  obtain ⟨_, cur, hc⟩ := own_block HOW7.out e
                  rw [hN7] at hc; cases hc) hN7
                refine ⟨(hA.grown h2 hA.size (fun j e => (own_block HOW7.out e).1)).setCell (by show w2.heap.size ≤ w2.heap.size + 1; omega) _, Lib.hid (heapSet _ hf8), Lib.hid ?_, Lib.hid ?_⟩
                · rw [Go.heap_setCell_other _ _ _ _ (by show w2.heap.size ≠ w2.heap.size + 1; omega)]; exact hn8
                · rw [HRA.out]
                  exact own_other h1 (grown_set _ _ _) (fun cur e => by rw [hf8] at e; cases e))
              clear hw7
              go_wp2
              rw [HW7.out]
              go_region_law (refine step_append_lies _ (by rfl) _ _ _ (by rfl) w2.heap.size 69 i0 (.agg #[.string ⟨#[]⟩, .slice none 0 0, .bool false]) 3 48 Tryz.underlying45 hi0 hz0 hz1 hz2 rfl (by omega) ov k (rowA (xs.take k)) (by rfl) ((HOW7.out.alloc (Obj.cells #[.string (mkS nm), .slice none 0 0, .bool false] 69)).drew) ⟨w7.heap.size, 0, none⟩ 1 1 [.string (mkS nm), .slice none 0 0, .bool false] (by rfl) (by rfl) (World.news_of_block (cs := #[.string (mkS nm), .slice none 0 0, .bool false]) (t := 69) (fr := (0, 0)) (heap_alloc_new w7 _)) (by simp [Value.oneCell']) (by omega) (by unfold maxLen; omega) (by omega) (by simp; omega) (w7.heap.size + 1) (by simp) ?_; intro gg capg w8 hown8 hgrow hat hlt8; have k8 : w8.cell? ⟨w2.heap.size + 1, 3, none⟩ = some ov := (hgrow.cell_far (a := ⟨w2.heap.size + 1, 3, none⟩) (by simp; omega) (Ne.symm aF)).trans (kF _); have z8 : w8.frozen? ⟨w2.heap.size + 1, 3, none⟩ = false := (hgrow.frozen_far (a := ⟨w2.heap.size + 1, 3, none⟩) (by simp; omega) (Ne.symm aF)).trans (zF _))
              all_goals
                go_wp2
                go_roundw
                case rel => exact ⟨k + 1, _, by omega, by go_num, HE.out gg capg w8 hown8 hgrow⟩
                case measure => simp [intOf]; omega
            · obtain rfl : k = xs.length := by omega
              have HS0 : Hid (FS wr w.heap.size w2.heap.size (w2.heap.size + 1) (.slice (some ⟨g, 0, none⟩) xs.length icap) bs xs line ⟨bl line, startAs xs, (xs : List It).map fun _ => false⟩ ov (.slice (some ⟨w2.heap.size, 0, none⟩) xs.length xs.length)) := Lib.hid (by
                have hle : (bl line).length = line.size := bl_len line
                refine ⟨HIT2.out.below hB, by rw [hle]; exact Nat.le_refl _, by rw [hle, Nat.sub_self]; rfl, ⟨by omega, by omega⟩, ?_, ⟨?_, ?_⟩, argsOfOwn (by rw [List.take_length] at HOW; exact HOW.out), ?_, List.length_map .., List.length_map .., ?_, by omega, by omega, ?_⟩
                · rw [hle, show (line.size : Int) - (line.size : Nat) = 0 by omega]; exact HB1.out
                · intro b hb
                  obtain ⟨i, hi, rfl⟩ := List.getElem_of_mem hb
                  have := (HIT.out.2.2 i (by rw [← HIT.out.1]; exact hi) hi).2.1
                  omega
                · intro g' e
                  have := own_block HIT.out.2.1 e
                  obtain ⟨_, cur, hc⟩ := this
                  have := (Array.getElem?_eq_some_iff.1 hc).1
                  omega
                · refine ⟨w2.heap.size, xs.length, N, by first | (rw [List.length_map]; done) | (rw [List.length_map]; rfl), Nat.le_refl _, HB2.out, fun i hi => ?_⟩
                  rw [List.length_map] at hi
                  rw [← HN.out, ← Array.getElem?_toList, toList_madeCells_one, List.getElem?_replicate, if_pos hi]
                  first
                    | (simp; done)
                    | exact absurd hi (by simp)
                · intro a ha
                  simp only [startAs, List.mem_map] at ha
                  obtain ⟨x, _, rfl⟩ := ha
                  show 0 + (bl line).length ≤ _
                  rw [hle]; omega
                · intro x hx
                  have := (HXN.out x hx).2
                  rw [bl_len] at this
                  omega)
              obtain ⟨wq, hwq⟩ : ∃ wq, wr = wq := ⟨_, rfl⟩
              rw [hwq] at HS0 hB
              have HWQ := Lib.hid hwq
              have f1 := HS0.out.f0.2.1
              have HG2 := Lib.hid (hG.below' (b1.trans (b2.mono (by omega))))
              have HBW : Hid (Below w.heap.size w w2) := Lib.hid (b1.trans (b2.mono (by omega)))
              rw [← hwq] at f1
              clear hwq
              go_wp2_with fail
              refine (blank_left (w2.heap.size + 1) line (bl line) 0 (line.size - (skipB (bl line)).length) ⟨by rw [bl_len]; exact Nat.le_refl _, by rw [bl_len, Nat.sub_self]; rfl⟩ (by rw [bl_len]; omega) rfl (by omega) _ f1 0 rfl).mono ?_
              rintro e w3 ⟨rfl, b3⟩
              rw [HWQ.out] at b3
              clear f1
              have hzq := hB.size
              go_wp2
              go_loopw [12] (fun a wr => ∃ (st : FSt) (n p : Nat), a = .int .i64 p ∧ Hid (line.size - (skipB st.r).length = p) ∧ Hid (FS wr w.heap.size w2.heap.size (w2.heap.size + 1) (.slice (some ⟨g, 0, none⟩) xs.length icap) bs xs line st ov (.slice (some ⟨w2.heap.size, 0, none⟩) xs.length xs.length)) ∧ Below w2.heap.size w2 wr ∧ st.r.length ≤ n ∧ Hid (fitGo xs (line.size + 1) ⟨bl line, startAs xs, (xs : List It).map fun _ => false⟩ = fitGo xs (n + 1) st)) (fun a _ => (line.size - intOf a).toNat)
              case atStart =>
                refine ⟨⟨bl line, startAs xs, (xs : List It).map fun _ => false⟩, line.size, _, rfl, Lib.hid rfl, Lib.hid (HS0.out.below b3), hB.trans (b3.mono (by omega)), by show (bl line).length ≤ _; rw [bl_len]; exact Nat.le_refl _, Lib.hid rfl⟩
              case round =>
                obtain ⟨st, n, p, rfl, HP, HS, hB2, hnr, HF⟩ := hrel
                have hsl := (skip_suffix st.r).length_le
                have hst := HS.out.le
                have HG3 := Lib.hid (HG2.out.below (by omega : 9 ≤ w2.heap.size) hB2)
                have hz2 := (Array.getElem?_eq_some_iff.1 HS.out.fb).1
                cases hsr : skipB st.r with
                | nil =>
                  have hp : ¬ p < line.size := by have := HP.out; rw [hsr] at this; simp at this; omega
                  have HF2 : Hid (fitGo xs (line.size + 1) ⟨bl line, startAs xs, (xs : List It).map fun _ => false⟩ = some st.ag) := Lib.hid (by rw [HF.out]; exact fitGo_end _ _ _ hsr)
                  have HR3 : Hid (fitR (bl t) (bl line) = if lacking xs st.ag then ([], 250) else (st.ag, 0)) := Lib.hid (by rw [HR2.out, HF2.out])
                  clear hsr HF HF2
                  have f3 := HS.out.f0.2.2.2.1
                  go_wp2
                  obtain ⟨wo, rfl⟩ : ∃ wo : World, wo = wr := ⟨_, rfl⟩
                  go_loopw [77] (fun i wr => ∃ k : Nat, k ≤ xs.length ∧ i = .int .i64 k ∧ Below wo.heap.size wo wr ∧ Hid (lacking xs st.ag = lacking (xs.drop k) (st.ag.drop k))) (fun i _ => (xs.length - intOf i).toNat)
                  case atStart => exact ⟨0, by omega, rfl, Below.refl _ _, Lib.hid rfl⟩
                  case round =>
                    obtain ⟨k, hk, rfl, hB3, HL⟩ := hrel
                    have hz3 := hB3.size
                    by_cases hlt : k < xs.length
                    · have hka : k < st.ag.length := by rw [HS.out.la]; exact hlt
                      have HS3 := Lib.hid (HS.out.below hB3)
                      obtain ⟨b, c0, c1, c2, c3, c4, c5, -, -, -, -, ⟨e0, e1, e2, e3, e4, e5⟩, d0, d1, d2, d3, d4, d5, d6⟩ := HS3.out.it.c7 k hlt
                      obtain ⟨G, cap, vv, rfl, hGl, -, a0, a1, a2, z2⟩ := HS3.out.a3 k hlt hka
                      have f3' := HS3.out.f0.2.2.2.1
                      have hzf := (Array.getElem?_eq_some_iff.1 HS3.out.fb).1
                      obtain ⟨x, hx⟩ : ∃ x, xs[k] = x := ⟨_, rfl⟩
                      obtain ⟨aset, has⟩ : ∃ c, st.ag[k].set = c := ⟨_, rfl⟩
                      have hls := lacking_step xs st.ag k hlt hka
                      rw [hx] at d0
                      rw [e0, has] at hls
                      rw [has] at a2
                      have HLS := Lib.hid (HL.out.trans hls)
                      have hB4 : Below w2.heap.size w2 wr := hB2.trans (hB3.mono (by omega))
                      clear hls e0 e1 e2 e3 e4 e5 has hx a0 a1 z2
                      cases c0 with
                      | false =>
                        go_wp2
                        go_roundw
                        case rel => exact ⟨k + 1, by omega, by go_num, hB3.alloc hz3 _, HLS⟩
                        case measure => simp [intOf]; omega
                      | true =>
                        cases aset with
                        | true =>
                          go_wp2
                          go_roundw
                          case rel => exact ⟨k + 1, by omega, by go_num, hB3.alloc hz3 _, HLS⟩
                          case measure => simp [intOf]; omega
                        | false =>
                          have HF3 : Hid (fitR (bl t) (bl line) = ([], 250)) := Lib.hid (by rw [HR3.out, HLS.out]; rfl)
                          go_wp2
                          go_ret2
                          exact ⟨fitPost_bad HF3.out, HBW.out.trans ((hB4.alloc (by omega) _).mono (by omega))⟩
                    · obtain rfl : k = xs.length := by omega
                      have HR4 : Hid (fitR (bl t) (bl line) = (st.ag, 0)) := Lib.hid (by rw [HR3.out, HL.out, lacking_end]; rfl)
                      have HS3 := Lib.hid (HS.out.below hB3)
                      have f3' := HS3.out.f0.2.2.2.1
                      go_wp2
                      go_ret2
                      exact ⟨⟨ov, by rw [HR4.out]; rfl, by rw [HR4.out]; exact HS3.out.ar.base (by omega)⟩, HBW.out.trans ((hB2.trans (hB3.mono (by omega))).mono (by omega))⟩
                | cons c tl =>
                  have hp0 := HP.out
                  have hc := skip_head _ _ _ hsr
                  rw [hsr] at hp0 hsl
                  rw [List.length_cons] at hsl hp0
                  have hp : p < line.size := by omega
                  have HP0 := Lib.hid hp0
                  have HST := Lib.hid (step_calls w.heap.size w2.heap.size (w2.heap.size + 1) (.slice (some ⟨g, 0, none⟩) xs.length icap) bs xs line st ov (.slice (some ⟨w2.heap.size, 0, none⟩) xs.length xs.length) c tl hsr p (by rw [List.length_cons]; exact hp0) wr HS.out HG3.out hbig)
                  have HFS := fitGo_step xs n st c tl hsr
                  cases hss : stepS xs { st with r := c :: tl } with
                  | none =>
                    rw [hss] at HST HFS
                    have HF2 : Hid (fitR (bl t) (bl line) = ([], 250)) := Lib.hid (by rw [HR2.out, HF.out, HFS])
                    clear hss HFS hsr hp0 HF
                    go_wp2_with fail
                    refine HST.out.mono ?_
                    rintro e w5 ⟨hq, b5⟩
                    obtain rfl := hq
                    go_wp2
                    go_ret2
                    exact ⟨fitPost_bad HF2.out, HBW.out.trans ((hB2.trans b5).mono (by omega))⟩
                  | some st' =>
                    rw [hss] at HST HFS
                    have hlen := stepS_len hc hss
                    have HF2 := Lib.hid (HF.out.trans HFS)
                    clear hss HFS hsr hp0
                    go_wp2_with fail
                    refine HST.out.mono ?_
                    rintro e w5 ⟨hq, b5⟩
                    obtain ⟨rfl, hq⟩ := hq
                    have HS5 := Lib.hid hq
                    have f2 := HS5.out.f0.2.2.1
                    have f1 := HS5.out.f0.2.1
                    have hst5 := HS5.out.le
                    have hsl5 := (skip_suffix st'.r).length_le
                    clear hq
                    obtain ⟨n2, rfl⟩ : ∃ n2, n = n2 + 1 := ⟨n - 1, by omega⟩
                    go_wp2_with fail
                    refine (blank_left (w2.heap.size + 1) line st'.r (line.size - st'.r.length) (line.size - (skipB st'.r).length) HS5.out.suf' rfl rfl (by omega) _ f1 _ (by omega)).mono ?_
                    rintro e w6 ⟨rfl, b6⟩
                    have hz5 := (hB2.trans b5).size
                    go_wp2
                    go_roundw
                    case rel => exact ⟨st', n2, _, rfl, Lib.hid rfl, Lib.hid (HS5.out.below b6), (hB2.trans b5).trans (b6.mono (by omega)), by omega, HF2⟩
                    case measure =>
                      have := HP0.out
                      simp [intOf]; omega
    · have hecn : (ec != 0) = true := by simpa using hec
      have HR2 : Hid (fitR (bl t) (bl line) = ([], ec)) := Lib.hid (by rw [HR.out, if_pos hec])
      clear hec HR
      go_enter Tryz.func22, Tryz.ntmps22
      go_wp2_with fail
      refine HTM.out.mono ?_
      rintro e w1 ⟨⟨v, bs, rfl, hIT⟩, b1⟩
      have HIT := Lib.hid hIT
      clear hIT
      go_wp2
      go_ret2
      exact ⟨fitPost_bad HR2.out, b1⟩
end Go.Proofs.YtojppincaalibaaGreatDoor
