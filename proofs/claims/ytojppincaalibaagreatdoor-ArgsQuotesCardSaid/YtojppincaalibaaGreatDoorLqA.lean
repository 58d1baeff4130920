/- The walk of the law bluebelllaw25.ArgsQuotes: whatever the words, the blanks and the template, it returns true. -/
import Derived.Test.YtojppincaalibaaGreatDoorAwk
import Derived.Test.YtojppincaalibaaGreatDoorWdC
import Derived.Test.YtojppincaalibaaGreatDoorByt
import Derived.Test.YtojppincaalibaaGreatDoorHvy
import Derived.Test.YtojppincaalibaaGreatDoorUsg
import Derived.Test.YtojppincaalibaaGreatDoorSmI
import Derived.Test.YtojppincaalibaaGreatDoorQtP
import Derived.Lib.AppendStr
import Derived.StillTailTactics
set_option linter.unusedVariables false
set_option linter.unusedSimpArgs false
set_option maxRecDepth 100000
namespace Go.Proofs.YtojppincaalibaaGreatDoor
open Go.Shelf Go.RowKit

/-- A value is a slice of n bytes. -/
def BySl (w : World) (v : Value) (n : Nat) : Prop :=
  ((∃ p c, v = .slice p 0 c) ∧ n = 0) ∨ ∃ b off cap, v = .slice (some ⟨b, off, none⟩) n cap ∧ b < w.heap.size ∧ ∀ (i : Nat), i < n → ∃ z : Nat, z < 256 ∧ w.cell? ⟨b, off + i, none⟩ = some (.int .u8 z)
theorem BySl.below {w w' : World} {v : Value} {n : Nat} (h : BySl w v n) (hb : Below w.heap.size w w') : BySl w' v n := by
  rcases h with h | ⟨b, off, cap, h1, h2, h3⟩
  · exact .inl h
  · refine .inr ⟨b, off, cap, h1, Nat.lt_of_lt_of_le h2 hb.size, fun i hi => ?_⟩
    obtain ⟨z, h4, h5⟩ := h3 i hi
    exact ⟨z, h4, (hb.cell (p := ⟨b, off + i, none⟩) h2).trans h5⟩
theorem heavy_one {a : Bs} (h : heavyR [a] = false) : a.length ≤ 1200 := by
  unfold heavyR at h
  simp at h
  exact h
theorem byte_conv {w : World} {base : Nat} {v : Value} {l : Bs} (h : w.ownsRow base 5 1 v l.length (bC l)) : (convert 34 9 v).run Tryz.prog w = .ok (.string (mkS l)) w := by
  rcases h.2 with ⟨rfl, h0⟩ | ⟨g, cap, cur, rfl, _⟩
  · obtain rfl := List.length_eq_zero_iff.1 h0
    exact run_convert_bytes_nil (P := Tryz.prog) w 34 5 Tryz.underlying34 Tryz.underlying5 0 0 9 Tryz.underlying9
  · exact conv_row h
theorem words_got {w w' : World} {l : Bs} {e : Ending} (h : wordsPost w (wordsR l) e w') :
    ∃ v u, e = .returned (.tuple #[v, u, .int .i64 (refWordsR l).2]) ∧ SlS w' v ((refWordsR l).1.map (·.1)) ∧ Below w.heap.size w w' := by
  obtain ⟨v, u, rfl, h1, h2, hb⟩ := h
  rw [← words_eq l]
  refine ⟨v, u, rfl, SlS.own (B := w.heap.size) ?_, hb⟩
  simp only [List.length_map, List.map_map]
  exact h1
theorem own_form {W : World} {base sz n : Nat} {t : TypeId} {v : Value} {xs : List Value} (h : W.ownsRow base t sz v n xs) : ∃ p c, v = .slice p n c := by
  rcases h.2 with ⟨rfl, rfl⟩ | ⟨g, cap, cur, rfl, _⟩
  · exact ⟨_, _, rfl⟩
  · exact ⟨_, _, rfl⟩
theorem tmpl_facts (tb : Bs) (h12 : tb.length ≤ 1200) : ∃ xs er U, templateR tb = (xs, er) ∧ xs.length ≤ 20 ∧ (er = 0 → usageR tb = (U, 0) ∧ U.length ≤ 900000 ∧ templateR U = (xs, 0) ∧ usageR U = (U, 0)) ∧
    (er ≠ 0 → usageR tb = ([], er)) ∧ ∀ x ∈ xs, x.names.length ≤ 1201 := by
  obtain ⟨h1, h2⟩ := templateR_items tb
  obtain ⟨h3, h4⟩ := templateR_long tb
  refine ⟨(templateR tb).1, (templateR tb).2, usageL (templateR tb).1, rfl, h1, fun h => ⟨h3 h, ?_, ?_, usageR_back h⟩, fun h => by unfold usageR; rw [if_neg h], fun x hx => by have := (h2 x hx).2; omega⟩
  · have h5 := jn_len (c := 44) (K := 20430) ((templateR tb).1.map itemL) fun a ha => by
      obtain ⟨y, hy, rfl⟩ := List.mem_map.1 ha
      obtain ⟨g1, g2⟩ := h4 y hy
      have h2 := item_long g1
      have h3 := marksTo_len y.m 6
      rw [marksTo_all _ g1.lt] at h3
      unfold itemL
      rw [List.length_append]
      omega
    rw [List.length_map] at h5
    have : (templateR tb).1.length * (20430 + 1) ≤ 20 * (20430 + 1) := Nat.mul_le_mul_right _ h1
    unfold usageL
    omega
  · rw [templateR_back h, ← h]
/-- A word that a line may have here. -/
def okWord (x : Bs) : Prop := x.length ≤ 40 ∧ ∀ b ∈ x, odd b = false
/-- The line of the first k words, as it lies in memory. -/
structure LQ (w : World) (wl : List Bs) (k : Nat) (pl : List (Nat × Bs)) (v : Value) (W : World) : Prop where
  len : pl.length = k
  wds : pl.map (·.2) = wl.take k
  ok : ∀ p ∈ pl, 1 ≤ p.1 ∧ p.1 ≤ 4 ∧ okWord p.2
  own : W.ownsRow w.heap.size 5 1 v (lineL pl).length (bC (lineL pl))
  b : Below w.heap.size w W
theorem LQ.short {w W : World} {wl : List Bs} {k : Nat} {pl : List (Nat × Bs)} {v : Value} (h : LQ w wl k pl v W) (hk : k ≤ 20) : (lineL pl).length ≤ 1720 := by
  have h1 := lineL_len 40 pl fun p hp => ⟨(h.ok p hp).2.1, (h.ok p hp).2.2.1⟩
  rw [h.len] at h1
  have : k * (2 * 40 + 6) ≤ 20 * (2 * 40 + 6) := Nat.mul_le_mul_right _ hk
  omega

set_option maxHeartbeats 16000000 in
theorem argsQuotes_calls (wv bv : Value) (wl : List Bs) (nb : Nat) (t : ByteArray) (w : World) (hw : SlS w wv wl) (hb : BySl w bv nb) (ht : t.size ≤ 9223372036854775807) (hws : ∀ x ∈ wl, x.length ≤ 9223372036854775807)
    (hwl : wl.length ≤ 9223372036854775807) (hnb : nb ≤ 9223372036854775807) (hG : Glob w) :
    Calls Tryz.prog 4 #[wv, bv, .string t] w fun e w' => e = .returned (.bool true) ∧ Below w.heap.size w w' := by
  obtain ⟨i0, hi0, hz0, hz1, hz2⟩ := info_parts infoByte
  obtain ⟨pw, cw, hwv⟩ : ∃ p c, wv = .slice p wl.length c := by
    rcases hw with ⟨⟨p, c, rfl⟩, rfl⟩ | ⟨b, off, cap, rfl, _⟩
    · exact ⟨_, _, rfl⟩
    · exact ⟨_, _, rfl⟩
  obtain ⟨pb, cb, hbv⟩ : ∃ p c, bv = .slice p nb c := by
    rcases hb with ⟨⟨p, c, rfl⟩, rfl⟩ | ⟨b, off, cap, rfl, _⟩
    · exact ⟨_, _, rfl⟩
    · exact ⟨_, _, rfl⟩
  subst hwv hbv
  obtain ⟨tb, rfl⟩ : ∃ tb, t = mkS tb := ⟨bl t, (mkS_bl t).symm⟩
  rw [mkS_size] at ht
  have HG := Lib.hid hG
  have HW := Lib.hid hw
  have HB := Lib.hid hb
  have HWS := Lib.hid hws
  have HTT := Lib.hid ht
  clear hG hw hb hws ht
  go_enter Tryz.func4, Tryz.ntmps4
  by_cases h20 : 20 < wl.length
  · have hd20 : decide (20 < (wl.length : Int)) = true := by simp; omega
    go_wp2
    go_ret
    exact ⟨rfl, Below.refl _ _⟩
  · have hd20 : decide (20 < (wl.length : Int)) = false := by simp; omega
    have HST : Hid (∀ W : World, SlS (W.alloc (.cells #[.string (mkS tb)] 9)) (.slice (some ⟨W.heap.size, 0, none⟩) 1 1) [tb]) := Lib.hid fun W =>
      .inr ⟨W.heap.size, 0, 1, rfl, by simp, strs_new W [tb] 9⟩
    go_wp2_with fail
    refine (heavy_calls _ [tb] _ (HST.out w) (by show (1 : Nat) ≤ _; decide) (by intro x hx; rw [List.mem_singleton.1 hx]; exact HTT.out)).mono ?_
    rintro e w1 ⟨rfl, b1⟩
    have hB1 : Below w.heap.size w w1 := ((Below.refl _ w).alloc (Nat.le_refl _) _).trans (b1.mono (by simp))
    clear b1 HST
    by_cases hh : heavyR [tb] = true
    · rw [hh]
      go_wp2
      go_ret
      exact ⟨rfl, hB1⟩
    · have hv : heavyR [tb] = false := by simpa using hh
      have ht12 := heavy_one hv
      rw [hv]
      clear hh hv HTT
      have hB1z := hB1.size
      have HLQ0 : Hid (LQ w wl 0 [] (.slice none 0 0) w1) := Lib.hid ⟨rfl, rfl, fun p hp => (by cases hp), ⟨rfl, .inl ⟨rfl, rfl⟩⟩, hB1⟩
      go_wp2
      go_loopw [8, 7] (fun i lv wr => ∃ k : Nat, k ≤ wl.length ∧ i = .int .i64 k ∧ Hid (∃ pl, LQ w wl k pl lv wr)) (fun i _ _ => (wl.length - intOf i).toNat)
      case atStart => exact ⟨0, by omega, rfl, Lib.hid ⟨[], HLQ0.out⟩⟩
      case round =>
        obtain ⟨wo, rfl⟩ : ∃ wo, wo = wr := ⟨_, rfl⟩
        obtain ⟨k, hk, rfl, HQ⟩ := hrel
        obtain ⟨pl, hQ⟩ := HQ.out
        have HQ := Lib.hid hQ
        clear hQ
        by_cases hlt : k < wl.length
        · have hk20 : k ≤ 20 := by omega
          have hsh := HQ.out.short hk20
          have hwo := HQ.out.b.size
          obtain ⟨g1, o1, rfl, c1⟩ : ∃ g o, pw = some ⟨g, o, none⟩ ∧ wo.cell? ⟨g, o + k, none⟩ = some (.string (mkS wl[k])) := by
            rcases HW.out.below HQ.out.b with ⟨_, e⟩ | ⟨g, o, cap, e, h1, h2⟩
            · rw [e] at hlt; exact absurd hlt (Nat.not_lt_zero _)
            · simp at e; exact ⟨g, o, e.1, h2 k hlt⟩
          have hxs := HWS.out _ (List.getElem_mem hlt)
          obtain ⟨s, hs⟩ : ∃ s, mkS wl[k] = s := ⟨_, rfl⟩
          have HS := Lib.hid (And.intro hs (show wl[k] = bl s by rw [← hs]; rfl))
          have hss : s.size ≤ 9223372036854775807 := by rw [← hs, mkS_size]; exact hxs
          rw [hs] at c1
          clear hs hxs
          go_wp2
          go_loopw [10] (fun m wr => ∃ m' : Nat, m' ≤ s.size ∧ m = .int .i64 m' ∧ Hid (wo = wr) ∧ Hid (∀ b ∈ (bl s).take m', odd b = false)) (fun m _ => (s.size - intOf m).toNat)
          case atStart => exact ⟨0, Nat.zero_le _, rfl, Lib.hid rfl, Lib.hid (by simp)⟩
          case round =>
            obtain ⟨m, hm, rfl, HE, HOK⟩ := hrel
            by_cases hml : m < s.size
            · have hlz : decide ((m : Int) < (s.size : Int)) = true := by simp; omega
              obtain ⟨c, hcc⟩ : ∃ c, s[m] = c := ⟨_, rfl⟩
              have HST : Hid (odd c = false → ∀ b ∈ (bl s).take (m + 1), odd b = false) := Lib.hid (by
                intro h b hb
                have hbk : (bl s)[m]? = some c := by
                  rw [← hcc]; unfold bl; rw [Array.getElem?_toList]; exact Array.getElem?_eq_getElem hml
                rw [List.take_add_one, hbk] at hb
                rcases List.mem_append.1 hb with hb | hb
                · exact HOK.out b hb
                · have : b = c := by simpa using hb
                  rw [this]; exact h)
              have HBW : Hid (Below w.heap.size w wr) := Lib.hid (by rw [← HE.out]; exact HQ.out.b)
              by_cases h10 : c = 10
              · have tn := bne_f c 10 10 rfl h10
                have HOD : Hid (odd c = false) := Lib.hid (by rw [h10]; rfl)
                clear h10
                go_wp2
                exact ⟨⟨m + 1, by omega, by go_num, HE, Lib.hid (HST.out HOD.out)⟩, by simp [intOf]; omega⟩
              · have tn := bne_t c 10 10 rfl h10
                by_cases h32 : c.toNat < 32
                · have tl : decide ((c.toNat : Int) < 32) = true := by simp; omega
                  go_wp2
                  go_ret
                  exact ⟨rfl, HBW.out⟩
                · have tl : decide ((c.toNat : Int) < 32) = false := by simp; omega
                  by_cases h126 : 126 < c.toNat
                  · have tg : decide (126 < (c.toNat : Int)) = true := by simp; omega
                    go_wp2
                    go_ret
                    exact ⟨rfl, HBW.out⟩
                  · have tg : decide (126 < (c.toNat : Int)) = false := by simp; omega
                    have HOD : Hid (odd c = false) := Lib.hid (by unfold odd; simp [h32, h126])
                    clear h10
                    go_wp2
                    exact ⟨⟨m + 1, by omega, by go_num, HE, Lib.hid (HST.out HOD.out)⟩, by simp [intOf]; omega⟩
            · obtain rfl : m = s.size := by omega
              obtain rfl := HE.out
              clear HE
              by_cases h40 : 40 < s.size
              · have hd40 : decide (40 < (s.size : Int)) = true := by simp; omega
                go_wp2
                go_ret
                exact ⟨rfl, HQ.out.b⟩
              · have hd40 : decide (40 < (s.size : Int)) = false := by simp; omega
                by_cases hkb : k < nb
                · have hkd : decide ((k : Int) < (nb : Int)) = true := by simp; omega
                  obtain ⟨g2, o2, z, rfl, hz256, c2⟩ : ∃ g o z, pb = some ⟨g, o, none⟩ ∧ z < 256 ∧ wo.cell? ⟨g, o + k, none⟩ = some (.int .u8 (z : Nat)) := by
                    rcases HB.out.below HQ.out.b with ⟨_, e⟩ | ⟨g, o, cap, e, h1, h2⟩
                    · rw [e] at hkb; exact absurd hkb (Nat.not_lt_zero _)
                    · simp at e
                      obtain ⟨z, h3, h4⟩ := h2 k hkb
                      exact ⟨g, o, z, e.1, h3, h4⟩
                  obtain ⟨n, hn⟩ : ∃ n, 1 + z % 4 = n := ⟨_, rfl⟩
                  have HE4 := Lib.hid (show (1 + (z : Int) % 4) = (n : Int) by omega)
                  have hn1 : 1 ≤ n := by omega
                  have hn4 : n ≤ 4 := by omega
                  clear hn
                  go_wp2
                  rw [HE4.out]
                  go_loopw [12, 7] (fun j lv wr => ∃ jn : Nat, jn ≤ n ∧ j = .int .i64 jn ∧ Hid (wr.ownsRow w.heap.size 5 1 lv ((lineL pl).length + jn) (bC (lineL pl ++ List.replicate jn 32)) ∧ Below w.heap.size w wr)) (fun j _ _ => (n - intOf j).toNat)
                  case atStart => exact ⟨0, Nat.zero_le _, rfl, Lib.hid ⟨by simpa using HQ.out.own, HQ.out.b⟩⟩
                  case round =>
                    obtain ⟨wi, rfl⟩ : ∃ wi, wi = wr := ⟨_, rfl⟩
                    obtain ⟨jn, hjn, rfl, HJ⟩ := hrel
                    have hiz := HJ.out.2.size
                    by_cases hjl : jn < n
                    · have hjd : decide ((jn : Int) < (n : Int)) = true := by simp; omega
                      have HNX : Hid (∀ v' w1, w1.ownsRow w.heap.size 5 1 v' ((lineL pl).length + jn + 1) (bC (lineL pl ++ List.replicate jn 32) ++ [.int .u8 32]) → (wi.alloc (.cells #[.int .u8 32] 5)).grownBy w1 u7.ownBlock → w1.ownsRow w.heap.size 5 1 v' ((lineL pl).length + (jn + 1)) (bC (lineL pl ++ List.replicate (jn + 1) 32)) ∧ Below w.heap.size w w1) := Lib.hid fun v' w1 h1 h2 => by
                        refine ⟨?_, (HJ.out.2.alloc hiz _).grown h2 (by simp; omega) fun g hg => (own_block HJ.out.1 hg).1⟩
                        rw [List.replicate_succ', ← List.append_assoc, bC_append]
                        exact h1
                      go_wp2_with (at_builtin; refine wpList_append_own _ rfl _ _ 34 rfl w.heap.size 5 i0 (.int .u8 0) 1 1 Tryz.underlying34 hi0 hz0 hz1 hz2 rfl (by decide) _ _ _ rfl (HJ.out.1.alloc _) ⟨wi.heap.size, 0, none⟩ 1 1 [.int .u8 32] (by rfl) (by rfl) (World.news_of_block (heap_alloc_new wi _)) (by simp [Value.oneCell']) (by unfold maxLen; omega) (by omega) (by simp; omega) ?_; intro v' w6 hown' hgrow _)
                      have HO6 := Lib.hid (HNX.out _ _ hown' hgrow)
                      clear hown' hgrow HNX
                      go_wp2
                      exact ⟨⟨jn + 1, by omega, by go_num, HO6⟩, by simp [intOf]; omega⟩
                    · obtain rfl : jn = n := by omega
                      have hjd : decide ((jn : Int) < (jn : Int)) = false := by simp
                      have HQC := Lib.hid (quote_calls s wi (by omega))
                      have HJQ := Lib.hid (quoteL_len (bl s))
                      have hbls := bl_len s
                      go_wp2_with fail
                      refine HQC.out.mono ?_
                      rintro e w5 ⟨rfl, b5⟩
                      have HO5 := Lib.hid (own_below HJ.out.1 b5)
                      have hB5 : Below w.heap.size w w5 := HJ.out.2.trans (b5.mono hiz)
                      have hz5 := hB5.size
                      have hql := HJQ.out
                      have hqs : (mkS (quoteL (bl s))).size = (quoteL (bl s)).length := mkS_size _
                      have HNX : Hid (∀ v' w1, w1.ownsRow w.heap.size 5 1 v' ((lineL pl).length + jn + (mkS (quoteL (bl s))).size) (bC (lineL pl ++ List.replicate jn 32) ++ Lib.strCells (mkS (quoteL (bl s)))) → w5.grownBy w1 u7.ownBlock → LQ w wl (k + 1) (pl ++ [(jn, bl s)]) v' w1) := Lib.hid fun v' w1 h1 h2 => by
                        refine ⟨by rw [List.length_append, HQ.out.len]; rfl, ?_, ?_, ?_, hB5.grown h2 hz5 fun g hg => (own_block HO5.out hg).1⟩
                        · rw [List.map_append, HQ.out.wds, List.take_succ_eq_append_getElem hlt, HS.out.2]
                          rfl
                        · intro p hp
                          rcases List.mem_append.1 hp with hp | hp
                          · exact HQ.out.ok p hp
                          · rw [List.mem_singleton.1 hp]
                            refine ⟨by show 1 ≤ jn; omega, by show jn ≤ 4; omega, by rw [hbls]; omega, ?_⟩
                            intro b hb
                            refine HOK.out b ?_
                            rw [List.take_of_length_le (by omega)]
                            exact hb
                        · rw [lineL_app]
                          have e1 : lineL pl ++ (List.replicate jn 32 ++ quoteL (bl s)) = lineL pl ++ List.replicate jn 32 ++ quoteL (bl s) := by simp
                          show w1.ownsRow w.heap.size 5 1 v' (lineL pl ++ (List.replicate jn 32 ++ quoteL (bl s))).length (bC (lineL pl ++ (List.replicate jn 32 ++ quoteL (bl s))))
                          rw [e1, bC_append, List.length_append, List.length_append, List.length_replicate, ← hqs]
                          exact h1
                      clear b5 hB5
                      go_wp2_with (at_builtin; refine Lib.wpList_append_own_string _ rfl _ _ 34 9 rfl w.heap.size 5 i0 Tryz.underlying34 Tryz.underlying9 hi0 hz0 hz1 hz2 _ _ _ rfl HO5.out (mkS (quoteL (bl s))) rfl (by unfold maxLen; omega) (by omega) hz5 ?_; intro v' w6 hown' hgrow _)
                      have HO6 := Lib.hid (HNX.out _ _ hown' hgrow)
                      clear hown' hgrow HNX
                      go_wp2
                      exact ⟨⟨k + 1, by omega, by go_num, Lib.hid ⟨_, HO6.out⟩⟩, by simp [intOf]; omega⟩
                · have hkd : decide ((k : Int) < (nb : Int)) = false := by simp; omega
                  go_wp2
                  go_loopw [12, 7] (fun j lv wr => ∃ jn : Nat, jn ≤ 1 ∧ j = .int .i64 jn ∧ Hid (wr.ownsRow w.heap.size 5 1 lv ((lineL pl).length + jn) (bC (lineL pl ++ List.replicate jn 32)) ∧ Below w.heap.size w wr)) (fun j _ _ => (1 - intOf j).toNat)
                  case atStart => exact ⟨0, Nat.zero_le _, rfl, Lib.hid ⟨by simpa using HQ.out.own, HQ.out.b⟩⟩
                  case round =>
                    obtain ⟨wi, rfl⟩ : ∃ wi, wi = wr := ⟨_, rfl⟩
                    obtain ⟨jn, hjn, rfl, HJ⟩ := hrel
                    have hiz := HJ.out.2.size
                    by_cases hjl : jn < 1
                    · have hjd : decide ((jn : Int) < 1) = true := by simp; omega
                      have HNX : Hid (∀ v' w1, w1.ownsRow w.heap.size 5 1 v' ((lineL pl).length + jn + 1) (bC (lineL pl ++ List.replicate jn 32) ++ [.int .u8 32]) → (wi.alloc (.cells #[.int .u8 32] 5)).grownBy w1 u7.ownBlock → w1.ownsRow w.heap.size 5 1 v' ((lineL pl).length + (jn + 1)) (bC (lineL pl ++ List.replicate (jn + 1) 32)) ∧ Below w.heap.size w w1) := Lib.hid fun v' w1 h1 h2 => by
                        refine ⟨?_, (HJ.out.2.alloc hiz _).grown h2 (by simp; omega) fun g hg => (own_block HJ.out.1 hg).1⟩
                        rw [List.replicate_succ', ← List.append_assoc, bC_append]
                        exact h1
                      go_wp2_with (at_builtin; refine wpList_append_own _ rfl _ _ 34 rfl w.heap.size 5 i0 (.int .u8 0) 1 1 Tryz.underlying34 hi0 hz0 hz1 hz2 rfl (by decide) _ _ _ rfl (HJ.out.1.alloc _) ⟨wi.heap.size, 0, none⟩ 1 1 [.int .u8 32] (by rfl) (by rfl) (World.news_of_block (heap_alloc_new wi _)) (by simp [Value.oneCell']) (by unfold maxLen; omega) (by omega) (by simp; omega) ?_; intro v' w6 hown' hgrow _)
                      have HO6 := Lib.hid (HNX.out _ _ hown' hgrow)
                      clear hown' hgrow HNX
                      go_wp2
                      exact ⟨⟨jn + 1, by omega, by go_num, HO6⟩, by simp [intOf]; omega⟩
                    · obtain rfl : jn = 1 := by omega
                      have hjd : decide (((1 : Nat) : Int) < 1) = false := by simp
                      have HQC := Lib.hid (quote_calls s wi (by omega))
                      have HJQ := Lib.hid (quoteL_len (bl s))
                      have hbls := bl_len s
                      go_wp2_with fail
                      refine HQC.out.mono ?_
                      rintro e w5 ⟨rfl, b5⟩
                      have HO5 := Lib.hid (own_below HJ.out.1 b5)
                      have hB5 : Below w.heap.size w w5 := HJ.out.2.trans (b5.mono hiz)
                      have hz5 := hB5.size
                      have hql := HJQ.out
                      have hqs : (mkS (quoteL (bl s))).size = (quoteL (bl s)).length := mkS_size _
                      have HNX : Hid (∀ v' w1, w1.ownsRow w.heap.size 5 1 v' ((lineL pl).length + 1 + (mkS (quoteL (bl s))).size) (bC (lineL pl ++ List.replicate (1) 32) ++ Lib.strCells (mkS (quoteL (bl s)))) → w5.grownBy w1 u7.ownBlock → LQ w wl (k + 1) (pl ++ [(1, bl s)]) v' w1) := Lib.hid fun v' w1 h1 h2 => by
                        refine ⟨by rw [List.length_append, HQ.out.len]; rfl, ?_, ?_, ?_, hB5.grown h2 hz5 fun g hg => (own_block HO5.out hg).1⟩
                        · rw [List.map_append, HQ.out.wds, List.take_succ_eq_append_getElem hlt, HS.out.2]
                          rfl
                        · intro p hp
                          rcases List.mem_append.1 hp with hp | hp
                          · exact HQ.out.ok p hp
                          · rw [List.mem_singleton.1 hp]
                            refine ⟨by show 1 ≤ 1; omega, by show 1 ≤ 4; omega, by rw [hbls]; omega, ?_⟩
                            intro b hb
                            refine HOK.out b ?_
                            rw [List.take_of_length_le (by omega)]
                            exact hb
                        · rw [lineL_app]
                          have e1 : lineL pl ++ (List.replicate (1) 32 ++ quoteL (bl s)) = lineL pl ++ List.replicate (1) 32 ++ quoteL (bl s) := by simp
                          show w1.ownsRow w.heap.size 5 1 v' (lineL pl ++ (List.replicate (1) 32 ++ quoteL (bl s))).length (bC (lineL pl ++ (List.replicate (1) 32 ++ quoteL (bl s))))
                          rw [e1, bC_append, List.length_append, List.length_append, List.length_replicate, ← hqs]
                          exact h1
                      clear b5 hB5
                      go_wp2_with (at_builtin; refine Lib.wpList_append_own_string _ rfl _ _ 34 9 rfl w.heap.size 5 i0 Tryz.underlying34 Tryz.underlying9 hi0 hz0 hz1 hz2 _ _ _ rfl HO5.out (mkS (quoteL (bl s))) rfl (by unfold maxLen; omega) (by omega) hz5 ?_; intro v' w6 hown' hgrow _)
                      have HO6 := Lib.hid (HNX.out _ _ hown' hgrow)
                      clear hown' hgrow HNX
                      go_wp2
                      exact ⟨⟨k + 1, by omega, by go_num, Lib.hid ⟨_, HO6.out⟩⟩, by simp [intOf]; omega⟩
        · obtain rfl : k = wl.length := by omega
          have hsh := HQ.out.short (by omega)
          obtain ⟨p7, c7, rfl⟩ := own_form HQ.out.own
          by_cases hL : (lineL pl).length ≤ 1000
          case' pos =>
            have hdL : decide (((lineL pl).length : Int) ≤ 1000) = true := by simp; omega
            have hcv := byte_conv HQ.out.own
            have hwl := words_line pl (fun p hp => (HQ.out.ok p hp).1) (fun p hp => (HQ.out.ok p hp).2.2.2) hL
            have HWC := Lib.hid (words_calls (mkS (lineL pl)) (by rw [mkS_size]; omega) wo)
            have HWL := Lib.hid (And.intro hwl.1 (show (refWordsR (lineL pl)).1.map (·.1) = wl by rw [hwl.2, HQ.out.wds, List.take_length]))
            clear hwl
            go_wp2_with fail
            refine HWC.out.mono ?_
            intro e w2 hp
            obtain ⟨v, u, rfl, hv, b2⟩ := words_got hp
            rw [bl_mkS, HWL.out.2] at hv
            rw [bl_mkS, HWL.out.1]
            have hB2 : Below w.heap.size w w2 := HQ.out.b.trans (b2.mono HQ.out.b.size)
            have hec := eqs_calls v (.slice pw wl.length cw) wl wl w2 hv (HW.out.below hB2) (by omega) (by omega)
            rw [decide_eq_true (show wl = wl from rfl)] at hec
            have HEC := Lib.hid hec
            clear hec hp HWC hv hcv b2
            go_wp2_with fail
            refine HEC.out.mono ?_
            rintro e w3 ⟨rfl, b3⟩
            have hB3 : Below w.heap.size w w3 := hB2.trans (b3.mono hB2.size)
            clear HEC b3 hB2 HWL
          case' neg =>
            have hdL : decide (((lineL pl).length : Int) ≤ 1000) = false := by simp; omega
            obtain ⟨w3, rfl⟩ : ∃ w3, w3 = wo := ⟨_, rfl⟩
            have hB3 : Below w.heap.size w w3 := HQ.out.b
          all_goals
            have HUS := Lib.hid (usage_calls (mkS tb) w3 (by rw [mkS_size]; omega) (HG.out.below' hB3))
            clear HQ
            go_wp2_with fail
            refine HUS.out.mono ?_
            rintro e w4 ⟨rfl, b4⟩
            have hB4 : Below w.heap.size w w4 := hB3.trans (b4.mono hB3.size)
            clear HUS b4 hB3
            rw [bl_mkS]
            obtain ⟨xs, er, U, hT, hx20, hz, hnz, hnames⟩ := tmpl_facts tb ht12
            by_cases he : er = 0
            · subst he
              obtain ⟨hU, hU9, hTU, hUU⟩ := hz rfl
              have hTC := template_calls (mkS tb) w4 (by rw [mkS_size]; omega) (HG.out.below' hB4)
              rw [bl_mkS, hT] at hTC
              have HTC := Lib.hid hTC
              have HUU := Lib.hid (And.intro hTU hUU)
              have HNM := Lib.hid hnames
              rw [hU]
              clear hTC hU hTU hUU hz hnz hT hnames
              go_wp2_with fail
              refine HTC.out.mono ?_
              rintro e w5 ⟨⟨va, ba, rfl, hIa⟩, b5⟩
              have hB5 : Below w.heap.size w w5 := hB4.trans (b5.mono hB4.size)
              have hTC := template_calls (mkS U) w5 (by rw [mkS_size]; omega) (HG.out.below' hB5)
              rw [bl_mkS, HUU.out.1] at hTC
              have HTC2 := Lib.hid hTC
              have HIA := Lib.hid hIa
              clear hTC b5 HTC hIa hB4
              go_wp2_with fail
              refine HTC2.out.mono ?_
              rintro e w6 ⟨⟨vb, bb, rfl, hIb⟩, b6⟩
              have hB6 : Below w.heap.size w w6 := hB5.trans (b6.mono hB5.size)
              have hUC := usage_calls (mkS U) w6 (by rw [mkS_size]; omega) (HG.out.below' hB6)
              rw [bl_mkS, HUU.out.2] at hUC
              have HUC := Lib.hid hUC
              have HIA6 := Lib.hid (HIA.out.below b6)
              have HIB := Lib.hid hIb
              clear hUC b6 HTC2 hIb hB5 HIA
              go_wp2_with fail
              refine HUC.out.mono ?_
              rintro e w7 ⟨rfl, b7⟩
              have hB7 : Below w.heap.size w w7 := hB6.trans (b7.mono hB6.size)
              have HIA7 := Lib.hid (HIA6.out.below b7)
              have HIB7 := Lib.hid (HIB.out.below b7)
              clear HIA6 HIB b7 HUC hB6
              obtain ⟨pa, ca, hva⟩ := own_form HIA7.out.2.1
              obtain ⟨pb', cb', hvb⟩ := own_form HIB7.out.2.1
              subst hva hvb
              have heq : (mkS U != mkS U) = false := by
                show (!(U.toArray == U.toArray)) = false
                simp
              go_wp2
              go_loopw [24] (fun i wr => ∃ k : Nat, k ≤ xs.length ∧ i = .int .i64 k ∧ Below w7.heap.size w7 wr) (fun i _ => (xs.length - intOf i).toNat)
              case atStart => exact ⟨0, Nat.zero_le _, rfl, Below.refl _ _⟩
              case round =>
                obtain ⟨wi, rfl⟩ : ∃ wi, wi = wr := ⟨_, rfl⟩
                obtain ⟨k, hk, rfl, hq⟩ := hrel
                have hBi : Below w.heap.size w wi := hB7.trans (hq.mono hB7.size)
                by_cases hkl : k < xs.length
                · obtain ⟨ga, rfl⟩ : ∃ g, pa = some ⟨g, 0, none⟩ := by
                    rcases HIA7.out.form with ⟨e, _⟩ | ⟨g, cap, e, _⟩
                    · rw [e] at hkl; exact absurd hkl (Nat.not_lt_zero _)
                    · simp at e; exact ⟨g, e.1⟩
                  obtain ⟨gb, rfl⟩ : ∃ g, pb' = some ⟨g, 0, none⟩ := by
                    rcases HIB7.out.form with ⟨e, _⟩ | ⟨g, cap, e, _⟩
                    · rw [e] at hkl; exact absurd hkl (Nat.not_lt_zero _)
                    · simp at e; exact ⟨g, e.1⟩
                  obtain ⟨b, c0, c1, c2, c3, c4, c5, hb1, hb2, hb3, -, ⟨t0, t1, t2, t3, t4, t5⟩, e0, e1, e2, e3, e4, e5, e6⟩ := (HIA7.out.below hq).c7 k hkl
                  obtain ⟨b', d0, d1, d2, d3, d4, d5, hd1, hd2, hd3, -, ⟨s0, s1, s2, s3, s4, s5⟩, f0, f1, f2, f3, f4, f5, f6⟩ := (HIB7.out.below hq).c7 k hkl
                  obtain rfl : d0 = c0 := s0.symm.trans t0
                  obtain rfl : d1 = c1 := s1.symm.trans t1
                  obtain rfl : d2 = c2 := s2.symm.trans t2
                  obtain rfl : d3 = c3 := s3.symm.trans t3
                  obtain rfl : d4 = c4 := s4.symm.trans t4
                  obtain rfl : d5 = c5 := s5.symm.trans t5
                  have hnl := HNM.out _ (List.getElem_mem hkl)
                  obtain ⟨nl, hnn⟩ : ∃ nl, xs[k].names = nl := ⟨_, rfl⟩
                  rw [hnn] at hnl hb3 hd3 e0 f0
                  have hdr : Below wi.heap.size wi wi.drew := (Below.refl _ _).drew
                  have HSM := Lib.hid (same_calls (.slice (some ⟨b, 0, none⟩) nl.length nl.length) (.slice (some ⟨b', 0, none⟩) nl.length nl.length) nl d0 d1 d2 d3 d4 d5 wi.drew
                    ((show SlS wi (.slice (some ⟨b, 0, none⟩) nl.length nl.length) nl from .inr ⟨b, 0, _, rfl, hb2, hb3.strs⟩).below hdr)
                    ((show SlS wi (.slice (some ⟨b', 0, none⟩) nl.length nl.length) nl from .inr ⟨b', 0, _, rfl, hd2, hd3.strs⟩).below hdr) (by omega))
                  clear t0 t1 t2 t3 t4 t5 s0 s1 s2 s3 s4 s5 hb3 hd3 hnn hdr
                  go_wp2
                  go_still_tail 40, (by kernel_rfl)
                  change wpList _ _ _ _ _ wi.drew
                  go_wp2_with fail
                  refine HSM.out.mono ?_
                  rintro e w8 ⟨rfl, b8⟩
                  go_wp2
                  exact ⟨⟨k + 1, by omega, by go_num, hq.drew.trans (b8.mono hq.drew.size)⟩, by simp [intOf]; omega⟩
                · obtain rfl : k = xs.length := by omega
                  have HAC := Lib.hid (awake_calls wi (HG.out.below' hBi))
                  go_wp2_with fail
                  refine HAC.out.mono ?_
                  rintro e w8 ⟨rfl, b8⟩
                  go_wp2
                  go_ret
                  exact ⟨rfl, hBi.trans (b8.mono hBi.size)⟩
            · have hez : (er != 0) = true := by simpa using he
              have HAC := Lib.hid (awake_calls w4 (HG.out.below' hB4))
              rw [hnz he]
              clear hz hnz hT hnames
              go_wp2_with fail
              refine HAC.out.mono ?_
              rintro e w5 ⟨rfl, b5⟩
              go_wp2
              go_ret
              exact ⟨rfl, hB4.trans (b5.mono hB4.size)⟩
end Go.Proofs.YtojppincaalibaaGreatDoor
