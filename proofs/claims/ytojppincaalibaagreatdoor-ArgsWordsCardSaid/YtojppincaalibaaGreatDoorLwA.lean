/- The walk of the law bluebelllaw25.ArgsWords: whatever the line and the text, it returns true. -/
import Derived.Test.YtojppincaalibaaGreatDoorAwk
import Derived.Test.YtojppincaalibaaGreatDoorWdC
import Derived.Test.YtojppincaalibaaGreatDoorRfE
import Derived.Test.YtojppincaalibaaGreatDoorHvy
import Derived.Test.YtojppincaalibaaGreatDoorRfB
import Derived.Test.YtojppincaalibaaGreatDoorRfC
set_option linter.unusedVariables false
set_option linter.unusedSimpArgs false
set_option maxRecDepth 100000
namespace Go.Proofs.YtojppincaalibaaGreatDoor
open Go.Shelf Go.RowKit

/-- A value is a slice that reads as these booleans. -/
def BoS (w : World) (v : Value) (l : List Bool) : Prop :=
  (v = .slice none 0 0 ∧ l = []) ∨ ∃ b cap, v = .slice (some ⟨b, 0, none⟩) l.length cap ∧ b < w.heap.size ∧ ∀ (i : Nat) (h : i < l.length), w.cell? ⟨b, 0 + i, none⟩ = some (.bool l[i])
theorem BoS.below {w w' : World} {v : Value} {l : List Bool} (h : BoS w v l) (hb : Below w.heap.size w w') : BoS w' v l := by
  rcases h with h | ⟨b, cap, h1, h2, h3⟩
  · exact .inl h
  · exact .inr ⟨b, cap, h1, Nat.lt_of_lt_of_le h2 hb.size, fun i hi => (hb.cell (p := ⟨b, 0 + i, none⟩) h2).trans (h3 i hi)⟩
theorem BoS.own {w : World} {B : Nat} {v : Value} {l : List Bool} (h : w.ownsRow B 4 1 v l.length (l.map Value.bool)) : BoS w v l := by
  rcases h.2 with ⟨rfl, h0⟩ | ⟨g, cap, cur, rfl, hB, hh, hle, -, hsz, htk⟩
  · exact .inl ⟨rfl, List.length_eq_zero_iff.1 h0⟩
  · refine .inr ⟨g, cap, rfl, (Array.getElem?_eq_some_iff.1 hh).1, fun i hi => ?_⟩
    rw [Nat.zero_add, cellOf hh, ← Array.getElem?_toList]
    have : (cur.toList.take (l.length * 1))[i]? = (l.map Value.bool)[i]? := by rw [htk]
    rw [List.getElem?_take_of_lt (by omega), List.getElem?_map, List.getElem?_eq_getElem hi] at this
    exact this
theorem words_short (l : Bs) : (wordsR l).1.length ≤ l.length + 1 := by
  unfold wordsR
  split
  · exact Nat.zero_le _
  · split
    · exact Nat.zero_le _
    · exact wsGo_len _ _ _
theorem rwords_short (l : Bs) : (refWordsR l).1.length ≤ l.length + 1 := by
  rw [← words_eq l, List.length_map]
  exact words_short l
theorem heavy_two {a b : Bs} (h : heavyR [a, b] = false) : a.length ≤ 1200 ∧ b.length ≤ 1200 := by
  unfold heavyR at h
  simp at h
  exact h
/-- Words' two results, read. -/
theorem words_read {w w' : World} {l : Bs} {e : Ending} (h : wordsPost w (wordsR l) e w') :
    ∃ v u, e = .returned (.tuple #[v, u, .int .i64 (refWordsR l).2]) ∧ SlS w' v ((refWordsR l).1.map (·.1)) ∧ BoS w' u ((refWordsR l).1.map (·.2)) ∧ Below w.heap.size w w' := by
  obtain ⟨v, u, rfl, h1, h2, hb⟩ := h
  rw [← words_eq l]
  refine ⟨v, u, rfl, SlS.own (B := w.heap.size) ?_, BoS.own (B := w.heap.size) ?_, hb⟩
  · simp only [List.length_map, List.map_map]
    exact h1
  · simp only [List.length_map, List.map_map]
    exact h2
theorem rwords_read {w w' : World} {l : Bs} {e : Ending} (h : rwPost w (refWordsR l) e w') :
    ∃ v u, e = .returned (.tuple #[v, u, .int .i64 (refWordsR l).2]) ∧ SlS w' v ((refWordsR l).1.map (·.1)) ∧ BoS w' u ((refWordsR l).1.map (·.2)) ∧ Below w.heap.size w w' := by
  obtain ⟨v, u, rfl, h1, h2, hb⟩ := h
  refine ⟨v, u, rfl, SlS.own (B := w.heap.size) ?_, BoS.own (B := w.heap.size) ?_, hb⟩
  · simp only [List.length_map, List.map_map]
    exact h1
  · simp only [List.length_map, List.map_map]
    exact h2

set_option maxHeartbeats 8000000 in
theorem argsWords_calls (line s : ByteArray) (w : World) (h1 : line.size ≤ 9223372036854775807) (h2 : s.size ≤ 9223372036854775807) (hG : Glob w) :
    Calls Tryz.prog 3 #[.string line, .string s] w fun e w' => e = .returned (.bool true) ∧ Below w.heap.size w w' := by
  have HG := Lib.hid hG
  clear hG
  go_enter Tryz.func3, Tryz.ntmps3
  obtain ⟨lb, rfl⟩ : ∃ lb, line = mkS lb := ⟨bl line, (mkS_bl line).symm⟩
  obtain ⟨sb, rfl⟩ : ∃ sb, s = mkS sb := ⟨bl s, (mkS_bl s).symm⟩
  rw [mkS_size] at h1 h2
  have H1 := Lib.hid (And.intro h1 h2)
  clear h1 h2
  go_wp2_with fail
  refine (heavy_calls _ [lb, sb] _ (strs_two w lb sb _) (by show (2 : Nat) ≤ _; decide) ?_).mono ?_
  · intro x hx
    have := H1.out
    simp at hx
    rcases hx with rfl | rfl
    · exact this.1
    · exact this.2
  rintro e w1 ⟨rfl, b1⟩
  have hB1 : Below w.heap.size w w1 := ((Below.refl _ w).alloc (Nat.le_refl _) _).trans (b1.mono (by simp))
  have G1 := HG.out.below' hB1
  clear b1
  by_cases hh : heavyR [lb, sb] = true
  · rw [hh]
    go_wp2
    go_ret
    exact ⟨rfl, hB1⟩
  · have hv : heavyR [lb, sb] = false := by simpa using hh
    obtain ⟨k1, k2⟩ := heavy_two hv
    rw [hv]
    clear hh hv H1
    have HW := Lib.hid (words_calls (mkS lb) (by rw [mkS_size]; omega) w1)
    go_wp2_with fail
    refine HW.out.mono ?_
    intro e w2 hp
    obtain ⟨v, u, rfl, hv, hu, b2⟩ := words_read hp
    clear HW hp
    have hB2 : Below w.heap.size w w2 := hB1.trans (b2.mono hB1.size)
    clear b2
    have HR := Lib.hid (rwords_calls (mkS lb) (by rw [mkS_size]; omega) w2)
    go_wp2_with fail
    refine HR.out.mono ?_
    intro e w3 hp
    obtain ⟨v', u', rfl, hv', hu', b3⟩ := rwords_read hp
    clear HR hp
    have hB3 : Below w.heap.size w w3 := hB2.trans (b3.mono hB2.size)
    have hv3 := hv.below b3
    have hu3 := hu.below b3
    clear hv hu b3
    have hlr := rwords_short lb
    rw [bl_mkS] at hv3 hv' hu3 hu'
    rw [bl_mkS]
    obtain ⟨W, hW⟩ : ∃ W, refWordsR lb = W := ⟨_, rfl⟩
    rw [hW] at hlr hv3 hv' hu3 hu'
    rw [hW]
    clear hW
    obtain ⟨ws, er⟩ := W
    obtain ⟨n, hn⟩ : ∃ n, ws.length = n := ⟨_, rfl⟩
    have hlr' : ws.length ≤ lb.length + 1 := hlr
    obtain ⟨qs, hqs⟩ : ∃ qs, ws.map (·.2) = qs := ⟨_, rfl⟩
    obtain ⟨ss, hss⟩ : ∃ ss, ws.map (·.1) = ss := ⟨_, rfl⟩
    have hql : qs.length = n := by rw [← hqs, List.length_map, hn]
    have hsl : ss.length = n := by rw [← hss, List.length_map, hn]
    have hn9 : n ≤ 1201 := by omega
    change SlS w3 v (ws.map (·.1)) at hv3
    change SlS w3 v' (ws.map (·.1)) at hv'
    change BoS w3 u (ws.map (·.2)) at hu3
    change BoS w3 u' (ws.map (·.2)) at hu'
    rw [hss] at hv3 hv'
    rw [hqs] at hu3 hu'
    clear hlr hlr' hqs hss hn
    obtain ⟨pu, cu, huv⟩ : ∃ pa ca, u = .slice pa n ca := by
      rw [← hql]
      rcases hu3 with ⟨rfl, rfl⟩ | ⟨b, cap, rfl, _⟩
      · exact ⟨_, _, rfl⟩
      · exact ⟨_, _, rfl⟩
    obtain ⟨pu', cu', huv'⟩ : ∃ pa ca, u' = .slice pa n ca := by
      rw [← hql]
      rcases hu' with ⟨rfl, rfl⟩ | ⟨b, cap, rfl, _⟩
      · exact ⟨_, _, rfl⟩
      · exact ⟨_, _, rfl⟩
    subst huv huv'
    have HU := Lib.hid hu3
    have HU' := Lib.hid hu'
    have HV := Lib.hid hv3
    have HV' := Lib.hid hv'
    have HL := Lib.hid (And.intro hql hsl)
    clear hu3 hu' hv3 hv' hql hsl
    go_wp2_with fail
    refine (eqs_calls v v' ss ss w3 HV.out HV'.out (by rw [HL.out.2]; omega) (by rw [HL.out.2]; omega)).mono ?_
    rintro e w4 ⟨rfl, b4⟩
    have hB4 : Below w.heap.size w w4 := hB3.trans (b4.mono hB3.size)
    have HU4 := Lib.hid (HU.out.below b4)
    have HU4' := Lib.hid (HU'.out.below b4)
    clear b4 HU HU' HV HV'
    rw [decide_eq_true (show ss = ss from rfl)]
    go_wp2
    go_loopw [11] (fun i wr => ∃ k : Nat, k ≤ n ∧ i = .int .i64 k ∧ Below w4.heap.size w4 wr) (fun i _ => (n - intOf i).toNat)
    case atStart => exact ⟨0, by omega, rfl, Below.refl _ _⟩
    case round =>
      obtain ⟨k, hk, rfl, hB5⟩ := hrel
      by_cases hlt : k < n
      · have hkq : k < qs.length := by have := HL.out.1; omega
        obtain ⟨g1, rfl, c1⟩ : ∃ g, pu = some ⟨g, 0, none⟩ ∧ wr.cell? ⟨g, 0 + k, none⟩ = some (.bool qs[k]) := by
          rcases HU4.out.below hB5 with ⟨_, e⟩ | ⟨g, cap, e, h1, h2⟩
          · rw [e] at hkq; exact absurd hkq (Nat.not_lt_zero _)
          · simp at e; exact ⟨g, e.1, h2 k hkq⟩
        obtain ⟨g2, rfl, c2⟩ : ∃ g, pu' = some ⟨g, 0, none⟩ ∧ wr.cell? ⟨g, 0 + k, none⟩ = some (.bool qs[k]) := by
          rcases HU4'.out.below hB5 with ⟨_, e⟩ | ⟨g, cap, e, h1, h2⟩
          · rw [e] at hkq; exact absurd hkq (Nat.not_lt_zero _)
          · simp at e; exact ⟨g, e.1, h2 k hkq⟩
        obtain ⟨q, hq⟩ : ∃ q, qs[k] = q := ⟨_, rfl⟩
        rw [hq, Nat.zero_add] at c1 c2
        clear hq hkq
        have hqq : (q != q) = false := by simp
        go_wp2
        go_quiet (fail)
        go_wp2
        exact ⟨⟨k + 1, by omega, by go_num, below_drewN hB5 _⟩, by simp [intOf]; omega⟩
      · obtain rfl : k = n := by omega
        clear HU4 HU4' HL
        have hB6 : Below w.heap.size w wr := hB4.trans (hB5.mono hB4.size)
        clear hB5 hB4 hB3 hB2 hB1
        have HN := Lib.hid (number_calls (mkS sb) wr (by rw [mkS_size]; omega) (HG.out.below' hB6))
        go_wp2_with fail
        refine HN.out.mono ?_
        rintro e w7 ⟨rfl, b7⟩
        have hB7 : Below w.heap.size w w7 := hB6.trans (b7.mono hB6.size)
        clear HN b7 hB6
        have HN := Lib.hid (rnumber_calls (mkS sb) (by rw [mkS_size]; omega) w7)
        go_wp2_with fail
        refine HN.out.mono ?_
        rintro e w8 ⟨rfl, b8⟩
        have hB8 : Below w.heap.size w w8 := hB7.trans (b8.mono hB7.size)
        clear HN b8 hB7
        rw [numR_eq]
        obtain ⟨N, hN⟩ : ∃ N, refNumR (bl (mkS sb)) = N := ⟨_, rfl⟩
        rw [hN]
        clear hN
        obtain ⟨nn, ne⟩ := N
        have HQ := Lib.hid (quote_calls (mkS sb) w8 (by rw [mkS_size]; omega))
        rw [quoteL_eq] at HQ
        go_wp2_with fail
        refine HQ.out.mono ?_
        rintro e w9 ⟨rfl, b9⟩
        have hB9 : Below w.heap.size w w9 := hB8.trans (b9.mono hB8.size)
        clear HQ b9 hB8
        have HQ := Lib.hid (rquote_calls (mkS sb) (by rw [mkS_size]; omega) w9)
        obtain ⟨N, hN⟩ : ∃ N, refQuoteL (bl (mkS sb)) = N := ⟨_, rfl⟩
        rw [hN] at HQ
        rw [hN]
        clear hN
        go_wp2_with fail
        refine HQ.out.mono ?_
        rintro e w10 ⟨rfl, b10⟩
        have hB10 : Below w.heap.size w w10 := hB9.trans (b10.mono hB9.size)
        clear HQ b10 hB9
        have HA := Lib.hid (awake_calls w10 (HG.out.below' hB10))
        have heq : (mkS N == mkS N) = true := by
          show (N.toArray == N.toArray) = true
          simp
        go_wp2_with fail
        refine HA.out.mono ?_
        rintro e w11 ⟨rfl, b11⟩
        have hB11 : Below w.heap.size w w11 := hB10.trans (b11.mono hB10.size)
        go_wp2
        go_ret
        exact ⟨rfl, hB11⟩
end Go.Proofs.YtojppincaalibaaGreatDoor
