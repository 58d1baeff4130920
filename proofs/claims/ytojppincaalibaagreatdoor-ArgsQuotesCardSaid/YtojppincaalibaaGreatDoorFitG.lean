/- The walk of (*args.fitter).name. -/
import Derived.Test.YtojppincaalibaaGreatDoorFitF
set_option linter.unusedVariables false
set_option linter.unusedSimpArgs false
set_option maxRecDepth 100000
namespace Go.Proofs.YtojppincaalibaaGreatDoor
open Go.Shelf Go.RowKit

def nextVals (s : Bs) (p : Int) (q : Bool) (f : Int) : Value := .tuple #[.agg #[.string (mkS s), .int .i64 p, .bool q], .int .i64 f]
/-- next, said by what is left. -/
theorem next_left (line : ByteArray) (r : Bs) (k : Nat) (h : Suf line r) (hk : line.size - r.length = k) (hl : line.size ≤ 1000000) (w : World) :
    Calls Tryz.prog 45 #[.string line, .int .i64 k] w fun e w' => e = .returned (match nx (skipB r) with | none => nextVals [] 0 false 0 | some y => nextVals y.w ((line.size : Int) - (skipB r).length) y.q (match y.rest with | some r' => (line.size : Int) - r'.length | none => -1)) ∧ Below w.heap.size w w' := by
  have := next_calls line k w (by omega) hl
  unfold nextR at this
  rw [← hk, ← h.2] at this
  rw [← hk]
  cases hn : nx (skipB r) with
  | none => rw [hn] at this; exact this
  | some y => rw [hn] at this; exact this
theorem Suf.at' {s : ByteArray} {c : UInt8} {t : Bs} {k : Nat} (h : Suf s (c :: t)) (hk : s.size - (c :: t).length = k) : ∃ (hk : k < s.size), s[k]'hk = c := by
  subst hk; exact h.at
theorem blank_left (F : Nat) (line : ByteArray) (r : Bs) (k k' : Nat) (h : Suf line r) (hk : line.size - r.length = k) (hk' : line.size - (skipB r).length = k') (hl : line.size ≤ 1000000) (w : World) (hc : w.cell? ⟨F, 1, none⟩ = some (.string line)) (ki : Int) (hki : (k : Int) = ki) :
    Calls Tryz.prog 42 #[.pointer (some ⟨F, 0, none⟩), .int .i64 ki] w fun e w' => e = .returned (.int .i64 k') ∧ Below w.heap.size w w' := by
  subst hki
  have := blank_calls F line k (by omega) hl w hc
  rw [← hk, ← h.2] at this
  rw [← hk, ← hk']
  have h2 := (skip_suffix r).length_le
  have h1 := h.1
  rw [show ((line.size - (skipB r).length : Nat) : Int) = (line.size : Int) - (skipB r).length by omega]
  exact this

theorem fsPost.split {B D F : Nat} {iv : Value} {bs : List Nat} {xs : List It} {line : ByteArray} {ov nv : Value} {r : Option FSt} {e : Ending} {w' : World} (h : fsPost B D F iv bs xs line ov nv r e w') :
    ∃ ok, e = .returned (.bool ok) ∧ Hid (fsPost B D F iv bs xs line ov nv r (.returned (.bool ok)) w') := by
  cases r with
  | none => exact ⟨false, h, Lib.hid rfl⟩
  | some st' => exact ⟨true, h.1, Lib.hid ⟨rfl, h.2⟩⟩
theorem nx_len {l : Bs} {y : Nx} (h : nx l = some y) : y.w.length ≤ l.length := by
  cases l with
  | nil => cases h
  | cons c t =>
    unfold nx at h
    simp only [Option.some.injEq] at h
    subst h
    split
    · simp
    · split
      · split
        · rename_i p hp
          have := qt_le _ _ hp
          simp only [List.length_cons]; omega
        · simp
      · have := (List.takeWhile_prefix (l := c :: t) fun b : UInt8 => b ≠ 32 ∧ b ≠ 61).length_le
        exact this
theorem nx_cons_len {l : Bs} {y : Nx} (h : nx (skipB l) = some y) {r : Bs} (hr : y.rest = some r) : r <:+ l ∧ r.length < l.length := by
  cases hs : skipB l with
  | nil => rw [hs] at h; cases h
  | cons c t =>
    rw [hs] at h
    have h1 := nx_suffix (skip_head l c t hs) h hr
    have h2 := skip_suffix l
    rw [hs] at h2
    have h3 := (h1.trans (List.suffix_cons c t)).trans h2
    refine ⟨h3, ?_⟩
    have h4 := h1.length_le
    have h5 := h2.length_le
    simp only [List.length_cons] at h5
    omega
set_option maxHeartbeats 8000000 in
theorem name_calls (B D F : Nat) (iv : Value) (bs : List Nat) (xs : List It) (line : ByteArray) (st : FSt) (ov nv : Value) (i : Nat) (hi : i < xs.length) (w : World) (hFS : FS w B D F iv bs xs line st ov nv)
    (hG : Glob w) (hB64 : 9 ≤ B) :
    Calls Tryz.prog 80 #[.pointer (some ⟨F, 0, none⟩), .int .i64 i] w fun e w' => fsPost B D F iv bs xs line ov nv (nameS xs i st) e w' ∧ Below D w w' := by
  have hia : i < st.ag.length := by rw [hFS.la]; exact hi
  have hin : i < st.nm.length := by rw [hFS.ln]; exact hi
  have hl1 := hFS.l1
  have hxl := hFS.xl
  have hFl := (Array.getElem?_eq_some_iff.1 hFS.fb).1
  have hF := hFS.hF
  obtain ⟨g, icap, rfl, hBg, hgl⟩ : ∃ g cap, iv = .slice (some ⟨g, 0, none⟩) xs.length cap ∧ B ≤ g ∧ g < w.heap.size := by
    rcases hFS.it.form with ⟨rfl, _⟩ | h
    · exact absurd hi (Nat.not_lt_zero _)
    · exact h
  obtain ⟨b, c0, c1, c2, c3, c4, c5, -, -, -, -, ⟨e0, e1, e2, e3, e4, e5⟩, d0, d1, d2, d3, d4, d5, d6⟩ := hFS.it.c7 i hi
  obtain ⟨f0, f1, f2, f3, f4⟩ := hFS.f0
  obtain ⟨G, cap, vv, rfl, hGl, hFG, a0, a1, a2, z2⟩ := hFS.a3 i hi hia
  obtain ⟨nb, ncap, rfl, hnl, hFn, n1, zn⟩ := hFS.n1 i hin
  obtain ⟨a, ha⟩ : ∃ a, st.ag[i] = a := ⟨_, rfl⟩
  obtain ⟨x, hx⟩ : ∃ x, xs[i] = x := ⟨_, rfl⟩
  obtain ⟨nmd, hnm⟩ : ∃ c, st.nm[i] = c := ⟨_, rfl⟩
  obtain ⟨aset, has⟩ : ∃ c, a.set = c := ⟨_, rfl⟩
  have HNS : Hid (nameS xs i st = if nmd || (c2 && aset) then none else if c2 then some ⟨st.r, st.ag.set i { a with set := true }, st.nm.set i true⟩ else if c5 then restS xs i { st with nm := st.nm.set i true } (afterSign st.r)
      else match nx (skipB (afterSign st.r)) with
        | none => none
        | some y => match y.rest with
          | none => none
          | some r' => if y.w = [61] ∧ y.q = false then none else giveS xs i ⟨r', st.ag, st.nm.set i true⟩ y.w) := Lib.hid (by
    unfold nameS
    rw [List.getElem?_eq_getElem hi, List.getElem?_eq_getElem hia, List.getElem?_eq_getElem hin, ha, hnm]
    simp only
    rw [e2, e5, has]
    rfl)
  rw [ha, has] at a2
  rw [hnm] at n1
  rw [hx] at d0
  have HFS := Lib.hid hFS
  have HA := Lib.hid ha
  have hFnb : F ≠ nb := fun e => by
    obtain ⟨nb', _, N, hv, _, hN, _⟩ := HFS.out.nr
    have h1 := HFS.out.fb
    obtain rfl : nb = nb' := by simp at hv; exact hv.1
    rw [e, hN] at h1; cases h1
  have hGnb : G ≠ nb := fun e => by
    obtain ⟨nb', _, N, hv, _, hN, _⟩ := HFS.out.nr
    rcases HFS.out.ar with ⟨_, h1⟩ | ⟨G', _, _, _, h1, h2⟩
    · cases h1
    · have h3 := h2.heap
      obtain rfl : nb = nb' := by simp at hv; exact hv.1
      obtain rfl : G = G' := by simp at h1; exact h1.1
      rw [e, hN] at h3; cases h3
  clear hFS e0 e1 e2 e3 e4 e5 ha hnm hx a0 a1 has
  go_enter Tryz.func80, Tryz.ntmps80
  cases nmd with
  | true =>
    go_wp2
    go_ret
    rw [HNS.out]
    exact ⟨rfl, (Below.refl _ _).alloc (by omega) _⟩
  | false =>
    obtain ⟨hS1, hb1⟩ := HFS.out.setNamed i hin
    cases c2 with
    | true =>
      cases aset with
      | true =>
        go_wp2
        go_ret
        rw [HNS.out]
        exact ⟨rfl, (Below.refl _ _).alloc (by omega) _⟩
      | false =>
        obtain ⟨hS2, hb2⟩ := hS1.setSet i hia HA.out
        have HE := Lib.hid (And.intro hS2 (hb1.trans hb2))
        clear hS1 hb1 hS2 hb2
        go_wp2
        go_ret
        rw [HNS.out]
        obtain ⟨h1, h2⟩ := HE.out
        refine ⟨⟨rfl, h1.below ((Below.refl _ _).alloc (Nat.le_refl _) _)⟩, h2.alloc (by simp; omega) _⟩
    | false =>
      obtain ⟨r, hr⟩ : ∃ r, st.r = r := ⟨_, rfl⟩
      have hSuf : Suf line r := by rw [← hr]; exact HFS.out.suf'
      obtain ⟨k, hk⟩ : ∃ k, line.size - r.length = k := ⟨_, rfl⟩
      obtain ⟨k1, hk1⟩ : ∃ k1, line.size - (skipB r).length = k1 := ⟨_, rfl⟩
      have hrl := hSuf.1
      rw [hr, show ((line.size : Int) - r.length) = (k : Int) by omega] at f2
      obtain ⟨ws, hws⟩ : ∃ ws, w.setCell ⟨nb, i, none⟩ (.bool true) = ws := ⟨_, rfl⟩
      rw [hws] at hS1 hb1
      have hwsz : ws.heap.size = w.heap.size := by rw [← hws]; simp
      obtain ⟨w1, hw1⟩ : ∃ w1, ws.alloc (.cells #[.slice (some ⟨b, 0, none⟩) x.names.length x.names.length, .bool c0, .bool c1, .bool false, .bool c3, .bool c4, .bool c5] 42) = w1 := ⟨_, rfl⟩
      have HWS := Lib.hid hws
      have HW1 := Lib.hid hw1
      have hB1 : Below D w w1 := by rw [← hw1]; exact hb1.alloc (by omega) _
      have HS1 : Hid (FS w1 B D F (.slice (some ⟨g, 0, none⟩) xs.length icap) bs xs line { st with nm := st.nm.set i true } (.slice (some ⟨G, 0, none⟩) xs.length cap) (.slice (some ⟨nb, 0, none⟩) xs.length ncap)) := Lib.hid (by
        rw [← hw1]; exact hS1.below ((Below.refl _ _).alloc (Nat.le_refl _) _))
      have n6 : w1.cell? ⟨w.heap.size, 6, none⟩ = some (.bool c5) := by rw [← hw1, ← hwsz]; simp [go_sem]
      have hz1 : w.heap.size < w1.heap.size := by rw [← hw1]; simp; omega
      have HN2 : Hid (nameS xs i st = if c5 then restS xs i { st with nm := st.nm.set i true } (afterSign r)
          else match nx (skipB (afterSign r)) with
            | none => none
            | some y => match y.rest with
              | none => none
              | some r' => if y.w = [61] ∧ y.q = false then none else giveS xs i ⟨r', st.ag, st.nm.set i true⟩ y.w) := Lib.hid (by rw [HNS.out, hr]; rfl)
      have hsk := skip_suffix r
      have hskl := hsk.length_le
      have HSZ := Lib.hid hwsz
      have HKK := Lib.hid hk
      have f1' := HS1.out.f0.2.1
      clear hw1 hws hS1 HNS hwsz hb1
      cases hsr : skipB r
      case' nil =>
        have HBL := Lib.hid (blank_left F line r k k1 hSuf hk hk1 (by omega) w1 f1' k rfl)
        rw [hsr] at hk1
        have hnl : ¬ k1 < line.size := by simp at hk1; omega
        obtain ⟨r2, hr2⟩ : ∃ r2, r2 = ([] : Bs) := ⟨_, rfl⟩
        have HAS : Hid (afterSign r = r2) := Lib.hid (by unfold afterSign; rw [hsr, hr2])
        have hSf2 : Suf line r2 := by rw [hr2]; exact hSuf.of_suffix List.nil_suffix
        have HQ : Hid (line.size - r2.length = k1) := Lib.hid (by rw [hr2]; exact hk1)
        have hr2l : r2.length ≤ r.length := by rw [hr2]; exact Nat.zero_le _
        obtain ⟨q, rfl⟩ : ∃ q, q = k1 := ⟨_, rfl⟩
        clear hk1 hk hsr hr2
        go_wp2_with fail
        rw [HWS.out, HW1.out]
        refine HBL.out.mono ?_
        rintro e w3 ⟨rfl, b3⟩
        have f1'' := (b3.cell (p := ⟨F, 1, none⟩) (by show F < _; omega)).trans f1'
      case' cons c t =>
        have HBL := Lib.hid (blank_left F line r k k1 hSuf hk hk1 (by omega) w1 f1' k rfl)
        have hSk := hSuf.of_suffix hsk
        rw [hsr] at hk1 hSk hsk
        obtain ⟨hkl, hcc⟩ := hSk.at' hk1
        have hd : decide ((k1 : Int) < (line.size : Int)) = true := by simp; omega
        have hst : t <:+ r := (List.suffix_cons c t).trans hsk
        have hstl := hst.length_le
        by_cases hc : c = 61
        case' pos =>
          have t1 := beq_t c 61 61 rfl hc
          obtain ⟨r2, hr2⟩ : ∃ r2, skipB t = r2 := ⟨_, rfl⟩
          have HAS : Hid (afterSign r = r2) := Lib.hid (by unfold afterSign; rw [hsr]; simp only [if_pos hc]; exact hr2)
          have hSft := hSuf.of_suffix hst
          have hSf2 : Suf line r2 := by rw [← hr2]; exact hSft.of_suffix (skip_suffix t)
          obtain ⟨q, hq⟩ : ∃ q, line.size - r2.length = q := ⟨_, rfl⟩
          have HQ : Hid (line.size - r2.length = q) := Lib.hid hq
          have hr2l : r2.length ≤ r.length := by rw [← hr2]; exact Nat.le_trans (skip_suffix t).length_le hstl
          rw [List.length_cons] at hk1
          have HK2 : Hid (line.size - t.length = k1 + 1) := Lib.hid (by have := hSk.1; rw [List.length_cons] at this; omega)
          have HQ2 : Hid (line.size - (skipB t).length = q) := Lib.hid (by rw [hr2]; exact hq)
          clear hk1 hk hsr hc hr2 hq hSk
          go_wp2_with fail
          rw [HWS.out, HW1.out]
          refine HBL.out.mono ?_
          rintro e w2 ⟨rfl, b2⟩
          have f12 := (b2.cell (p := ⟨F, 1, none⟩) (by show F < _; omega)).trans f1'
          go_wp2_with fail
          refine (blank_left F line t (k1 + 1) q hSft HK2.out HQ2.out (by omega) w2 f12 _ (by omega)).mono ?_
          rintro e w3 ⟨rfl, b3⟩
          replace b3 := b2.trans (b3.mono b2.size)
          have f1'' := (b3.cell (p := ⟨F, 1, none⟩) (by show F < _; omega)).trans f1'
          clear f12
        case' neg =>
          have t1 := beq_f c 61 61 rfl hc
          obtain ⟨r2, hr2⟩ : ∃ r2, c :: t = r2 := ⟨_, rfl⟩
          have HAS : Hid (afterSign r = r2) := Lib.hid (by unfold afterSign; rw [hsr]; simp only [if_neg hc]; exact hr2)
          have hSf2 : Suf line r2 := by rw [← hr2]; exact hSk
          obtain ⟨q, rfl⟩ : ∃ q, q = k1 := ⟨_, rfl⟩
          have HQ : Hid (line.size - r2.length = q) := Lib.hid (by rw [← hr2]; exact hk1)
          have hr2l : r2.length ≤ r.length := by rw [← hr2]; exact hsk.length_le
          rw [hr2] at hSk
          clear hk1 hk hsr hc hr2 hSk
          go_wp2_with fail
          rw [HWS.out, HW1.out]
          refine HBL.out.mono ?_
          rintro e w3 ⟨rfl, b3⟩
          have f1'' := (b3.cell (p := ⟨F, 1, none⟩) (by show F < _; omega)).trans f1'
      all_goals
        have HB3 : Hid (Below D w w3) := Lib.hid (hB1.trans (b3.mono (by omega)))
        have n6' := (b3.cell (p := ⟨w.heap.size, 6, none⟩) hz1).trans n6
        have HS3 := Lib.hid (HS1.out.below b3)
        have hG3 := Lib.hid (hG.below (by omega : 9 ≤ D) HB3.out)
        have hz3 := b3.size
        cases c5
        case' true =>
          have HRC := Lib.hid (rest_calls B D F (.slice (some ⟨g, 0, none⟩) xs.length icap) bs xs line { st with nm := st.nm.set i true } (.slice (some ⟨G, 0, none⟩) xs.length cap) (.slice (some ⟨nb, 0, none⟩) xs.length ncap) i q hi (by have := HQ.out; omega) (by have := HQ.out; have := hSf2.1; show _ ≤ st.r.length; rw [hr]; omega) w3 HS3.out hG3.out hB64)
          go_wp2_with fail
          refine HRC.out.mono ?_
          rintro e w4 ⟨hp, b4⟩
          obtain ⟨ok, rfl, HP⟩ := hp.split
          go_wp2
          go_ret
          have hN : nameS xs i st = restS xs i { st with nm := st.nm.set i true } r2 := by rw [HN2.out, HAS.out]; rfl
          have hE := HP.out
          rw [← HQ.out, ← hSf2.2, ← hN] at hE
          exact ⟨hE, HB3.out.trans b4⟩
        case' false =>
          have HNX := Lib.hid (next_left line r2 q hSf2 HQ.out (by omega) w3)
          have HN3 : Hid (nameS xs i st = match nx (skipB r2) with
            | none => none
            | some y => match y.rest with
              | none => none
              | some r' => if y.w = [61] ∧ y.q = false then none else giveS xs i ⟨r', st.ag, st.nm.set i true⟩ y.w) := Lib.hid (by rw [HN2.out, HAS.out]; rfl)
          cases hny : nx (skipB r2)
          case' none =>
            rw [hny] at HNX HN3
            clear hny
            unfold nextVals at HNX
            go_wp2_with fail
            refine HNX.out.mono ?_
            rintro e w4 ⟨rfl, b4⟩
            go_wp2
            go_ret
            rw [HN3.out]
            exact ⟨rfl, HB3.out.trans ((b4.mono (by omega)).alloc (by have := b4.size; omega) _)⟩
          case' some y =>
            obtain ⟨p, hp⟩ : ∃ p, ((line.size : Int) - (skipB r2).length) = p := ⟨_, rfl⟩
            rw [hny] at HNX HN3
            have HNX2 : Hid (Calls Tryz.prog 45 #[.string line, .int .i64 q] w3 fun e w' => e = .returned (nextVals y.w p y.q (match y.rest with | some r' => (line.size : Int) - r'.length | none => -1)) ∧ Below w3.heap.size w3 w') := Lib.hid (by rw [← hp]; exact HNX.out)
            have hwl := nx_len hny
            have hrsk := (skip_suffix r2).length_le
            obtain ⟨yw, yq, yr⟩ := y
            cases yr
            case' none =>
              unfold nextVals at HNX2
              clear HNX hny hp
              go_wp2_with fail
              refine HNX2.out.mono ?_
              rintro e w4 ⟨rfl, b4⟩
              go_wp2
              go_ret
              rw [HN3.out]
              exact ⟨rfl, HB3.out.trans ((b4.mono (by omega)).alloc (by have := b4.size; omega) _)⟩
            case' some r' =>
              obtain ⟨hrs, hrl2⟩ := nx_cons_len hny rfl
              have hSf3 := hSf2.of_suffix hrs
              obtain ⟨q3, hq3⟩ : ∃ q3, line.size - r'.length = q3 := ⟨_, rfl⟩
              have hr3 := hSf3.1
              have hrr2 := hSf2.1
              have hq0 : 0 < q3 := by omega
              have HNX3 : Hid (Calls Tryz.prog 45 #[.string line, .int .i64 q] w3 fun e w' => e = .returned (nextVals yw p yq q3) ∧ Below w3.heap.size w3 w') := Lib.hid (by rw [show (q3 : Int) = (line.size : Int) - r'.length by omega]; exact HNX2.out)
              unfold nextVals at HNX3
              have HN4 : Hid (nameS xs i st = if yw = [61] ∧ yq = false then none else giveS xs i ⟨r', st.ag, st.nm.set i true⟩ yw) := Lib.hid HN3.out
              have HQ3 := Lib.hid hq3
              obtain ⟨sg, hsg⟩ : ∃ sg, decide (yw = [61] ∧ yq = false) = sg := ⟨_, rfl⟩
              have HSG := Lib.hid hsg
              have h0q : ¬ (q3 : Int) ≤ 0 := by omega
              clear HNX HNX2 HN3 hny hp hq3 hsg
              cases sg
              case' true =>
                go_wp2_with fail
                refine HNX3.out.mono ?_
                rintro e w4 ⟨rfl, b4⟩
                go_wp2_with fail
                refine (isSign_calls yw p yq _).mono ?_
                rw [HSG.out]
                rintro e w5 ⟨rfl, b5⟩
                go_wp2
                go_ret
                rw [HN4.out, if_pos (by simpa using HSG.out)]
                refine ⟨rfl, HB3.out.trans ?_⟩
                have hb4 : Below D w3 w4 := b4.mono (by omega)
                have := b4.size
                exact (hb4.alloc (by omega) _).trans (b5.mono (by simp; omega))
              case' false =>
                go_wp2_with fail
                refine HNX3.out.mono ?_
                rintro e w4 ⟨rfl, b4⟩
                go_wp2_with fail
                refine (isSign_calls yw p yq _).mono ?_
                rw [HSG.out]
                rintro e w5 ⟨rfl, b5⟩
                have hz4 := b4.size
                have hb5 : Below w3.heap.size w3 w5 := (b4.alloc (by omega) _).trans (b5.mono (by simp; omega))
                have n0 : w5.cell? ⟨w4.heap.size, 0, none⟩ = some (.string (mkS yw)) := (b5.cell (p := ⟨w4.heap.size, 0, none⟩) (by simp)).trans (by simp [go_sem])
                have hS5 := HS3.out.below hb5
                have z2' := frozOf (i := 2) hS5.fb
                have hz5 : w4.heap.size < w5.heap.size := by have := b5.size; simp at this; omega
                obtain ⟨hS6, hb6⟩ := hS5.setAt r' (by show r'.length ≤ st.r.length; rw [hr]; omega) hSf3.2 (v := (q3 : Int)) (by have := HQ3.out; omega)
                have c2' := hS5.f0.2.2.1
                obtain ⟨w6, hw6⟩ : ∃ w6, w5.setCell ⟨F, 2, none⟩ (.int .i64 q3) = w6 := ⟨_, rfl⟩
                rw [hw6] at hS6 hb6
                have n0' : w6.cell? ⟨w4.heap.size, 0, none⟩ = some (.string (mkS yw)) := by
                  rw [← hw6, World.cell?_setCell_other]
                  · exact n0
                  · intro e; injection e; omega
                have HB6 : Hid (Below D w w6) := Lib.hid (HB3.out.trans ((hb5.mono (by omega)).trans hb6))
                have HGV := Lib.hid (give_calls B D F (.slice (some ⟨g, 0, none⟩) xs.length icap) bs xs line ⟨r', st.ag, st.nm.set i true⟩ (.slice (some ⟨G, 0, none⟩) xs.length cap) (.slice (some ⟨nb, 0, none⟩) xs.length ncap) i hi (mkS yw) (by rw [mkS_size]; have := hwl; show yw.length ≤ _; change yw.length ≤ _ at this; omega) w6 hS6 (hG.below (by omega) HB6.out) hB64 (fun a ha => by
                  have := HFS.out.vb a ha
                  rw [hr] at this
                  show a.vals.length + r'.length < _
                  omega))
                have HW6 := Lib.hid hw6
                clear hS5 hS6 hb6 hw6
                go_wp2_with fail
                rw [HW6.out]
                refine HGV.out.mono ?_
                rintro e w7 ⟨hp, b7⟩
                obtain ⟨ok, rfl, HP⟩ := hp.split
                go_wp2
                go_ret
                rw [HN4.out, if_neg (by simpa using HSG.out)]
                have hE := HP.out
                rw [bl_mkS] at hE
                exact ⟨hE, HB6.out.trans b7⟩
end Go.Proofs.YtojppincaalibaaGreatDoor
