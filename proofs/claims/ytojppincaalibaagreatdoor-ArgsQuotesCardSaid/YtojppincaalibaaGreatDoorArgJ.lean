/- The walk of args.Template. -/
import Derived.Test.YtojppincaalibaaGreatDoorArgI
set_option linter.unusedVariables false
set_option linter.unusedSimpArgs false
set_option maxRecDepth 100000
namespace Go.Proofs.YtojppincaalibaaGreatDoor
open Go.Shelf Go.RowKit

theorem itemR_names {l : Bs} {x : It} (h : itemR l = some x) : x.names.length ≤ l.length + 1 ∧ (∀ n, n ∈ x.names → n.length ≤ 16 ∧ n ≠ []) ∧ x.m < 64 := by
  unfold itemR at h
  split at h
  · cases h
  · rename_i p ps hsp
    split at h
    · cases h
    · rename_i m hm
      split at h
      · cases h
      · rename_i hb
        cases h
        simp only [Bool.or_eq_true, not_or] at hb
        refine ⟨?_, fun n hn => ?_, marksR_lt _ _ _ (by decide) hm⟩
        · show (spl 61 p).length ≤ _
          rw [spl_len]
          have h1 := List.count_le_length (l := p) (a := (61 : UInt8))
          have h2 := spl_mem_le 47 l p (by rw [hsp]; exact List.mem_cons_self)
          omega
        · have := hb.1
          simp only [Bool.not_eq_true, List.any_eq_false] at this
          have h2 := this n hn
          simp [badName] at h2
          exact ⟨by omega, h2.1.1⟩

theorem nMany_snoc (xs : List It) (x : It) : nMany (xs ++ [x]) = nMany xs + (if x.m.testBit 4 then 1 else 0) := by
  unfold nMany
  rw [List.filter_append, List.length_append]
  congr 1
  cases h : x.m.testBit 4 <;> simp [List.filter, h]
theorem nMany_le (xs : List It) : nMany xs ≤ xs.length := List.length_filter_le _ _

def tmplPost (w : World) (r : List It × Int) (e : Ending) (w' : World) : Prop :=
  ∃ v bs, e = .returned (.tuple #[v, .int .i64 r.2]) ∧ ItemsR w' w.heap.size v bs r.1

theorem tg_step {A : Option (List It)} {c : Bool} {ad : Option (List Bs)} {sn : List Bs} {F : List Bs → Option (List It)} {x : It} {xs : List It}
    (hA : A = ((if c then none else match ad with | none => none | some s => (F s).map (x :: ·)) : Option (List It)).map (xs ++ ·)) (hc : c = false) (had : ad = some sn) : A = (F sn).map ((xs ++ [x]) ++ ·) := by
  subst hc had
  rw [hA]
  cases h : F sn <;> simp [h]
theorem map_none {α β} (f : α → β) (o : Option α) (h : o = none) : o.map f = none := by rw [h]; rfl

set_option maxHeartbeats 4000000 in
theorem template_calls (s : ByteArray) (w : World) (hs : s.size ≤ 900000) (hG : Glob w) :
    Calls Tryz.prog 17 #[.string s] w fun e w' => tmplPost w (templateR (bl s)) e w' ∧ Below w.heap.size w w' := by
  obtain ⟨i0, hi, hz0, hz1, hz2⟩ := info_parts infoItem
  cases h0 : (bl s).isEmpty with
  | true =>
    have HR := Lib.hid (show templateR (bl s) = ([], 0) by unfold templateR; rw [h0]; rfl)
    obtain ⟨l, rfl⟩ : ∃ l : Bs, s = ⟨l.toArray⟩ := ⟨bl s, (mkS_bl s).symm⟩
    rw [show bl ⟨l.toArray⟩ = l from bl_mkS l] at h0
    go_enter Tryz.func17, Tryz.ntmps17
    go_wp2
    refine bodyPost_ret (v := .tuple #[.slice none 0 0, .int .i64 0]) (by simp [results, Tryz.results17, go_sem]) rfl ⟨?_, Below.refl _ _⟩
    rw [HR.out]
    exact ⟨_, [], rfl, ItemsR.nil _ _⟩
  | false =>
    obtain ⟨parts, hparts⟩ : ∃ parts, spl 44 (bl s) = parts := ⟨_, rfl⟩
    have hSP := split_calls s 44 (w.alloc (.map #[] 0)) (by omega) (hG.below' ((Below.refl _ w).alloc (Nat.le_refl _) _))
    rw [hparts] at hSP
    have HR := Lib.hid (show templateR (bl s) = match tmplGo parts [] with | none => ([], 3) | some xs => if 1 < nMany xs then ([], 3) else if 20 < xs.length then ([], 2) else (xs, 0) by unfold templateR; rw [h0, hparts]; rfl)
    have hpl : parts.length ≤ 900001 := by
      rw [← hparts, spl_len]
      have h1 := List.count_le_length (l := bl s) (a := (44 : UInt8))
      rw [bl_len] at h1
      omega
    have hpm : ∀ p, p ∈ parts → p.length ≤ 900000 := fun p hp => by
      have := spl_mem_le 44 (bl s) p (by rw [hparts]; exact hp)
      rw [bl_len] at this
      omega
    obtain ⟨w1, hw1⟩ : ∃ w1, (w.alloc (.map #[] 0)).alloc (.cells (parts.map fun l => Value.string (mkS l)).toArray 9) = w1 := ⟨_, rfl⟩
    have hB1 : Below w.heap.size w w1 := by rw [← hw1]; exact ((Below.refl _ w).alloc (Nat.le_refl _) _).alloc (by simp) _
    have hS1 := strB_new (w.alloc (.map #[] 0)) parts
    have hz1' : w.heap.size + 1 < w1.heap.size := by rw [← hw1]; simp
    have hM1 : SeenM w1 w.heap.size 0 [] := by rw [← hw1]; exact (SeenM.made w).kept (grown_of_below (B := 0) ((Below.refl _ _).alloc (Nat.le_refl _) _)) (by simp)
    rw [hw1] at hSP hS1
    rw [World.size_alloc] at hSP hS1
    have HSP := Lib.hid hSP
    have HS1 := Lib.hid hS1
    have HM1 := Lib.hid hM1
    have hmm := @run_makeMap Tryz.prog
    obtain ⟨l, rfl⟩ : ∃ l : Bs, s = ⟨l.toArray⟩ := ⟨bl s, (mkS_bl s).symm⟩
    rw [show bl ⟨l.toArray⟩ = l from bl_mkS l] at h0
    clear hSP hS1 hM1 hw1 hparts
    go_enter Tryz.func17, Tryz.ntmps17
    go_wp2_with fail
    refine HSP.out.mono ?_
    rintro e w1 ⟨rfl, rfl⟩
    go_wp2_with fail
    go_loopw [4, 7, 21] (fun out sv i wr => ∃ (k n : Nat) (bs : List Nat) (xs : List It) (seen : List Bs), k ≤ parts.length ∧ i = .int .i64 k ∧ sv = .int .i64 (nMany xs) ∧ xs.length = k ∧ n ≤ k * 1000001 ∧ Hid (ItemsR wr w.heap.size out bs xs) ∧ Hid (SeenM wr w.heap.size n seen) ∧ Below w.heap.size w wr ∧ Hid (StrB wr (w.heap.size + 1) parts) ∧ w.heap.size + 1 < wr.heap.size ∧ Hid (tmplGo parts [] = (tmplGo (parts.drop k) seen).map (xs ++ ·))) (fun _ _ i _ => (parts.length - intOf i).toNat)
    case atStart => exact ⟨0, 0, [], [], [], by omega, rfl, rfl, rfl, by omega, Lib.hid (ItemsR.nil _ _), HM1, hB1, HS1, by omega, Lib.hid (by cases h : tmplGo parts [] <;> simp [h])⟩
    case round =>
      obtain ⟨k, n, bs, xs, seen, hk, rfl, rfl, hxk, hn, HI, HM, hB, HP, hsz, HA⟩ := hrel
      by_cases hlt : k < parts.length
      · have hlz : decide ((k : Int) < (parts.length : Int)) = true := by simp; omega
        obtain ⟨p, hp⟩ : ∃ p, parts[k] = p := ⟨_, rfl⟩
        have hcell : wr.cell? ⟨w.heap.size + 1, 0 + k, none⟩ = some (.string (mkS p)) := by rw [← hp]; exact HP.out.strs k hlt
        rw [Nat.zero_add] at hcell
        have hIT := item_calls (mkS p) wr (by rw [mkS_size, ← hp]; exact hpm _ (List.getElem_mem _)) (hG.below' hB)
        rw [bl_mkS] at hIT
        have hpL0 : p.length ≤ 900000 := by rw [← hp]; exact hpm _ (List.getElem_mem _)
        have hTG : tmplGo parts [] = (match itemR p with | none => none | some x => if x.m.testBit 5 && !(parts.drop (k + 1)).isEmpty then none else match addNames seen x.names with | none => none | some seen' => (tmplGo (parts.drop (k + 1)) seen').map (x :: ·)).map (xs ++ ·) := by
          rw [HA.out, List.drop_eq_getElem_cons hlt, hp]; rfl
        cases hit : itemR p with
        | none =>
          rw [hit] at hIT hTG
          have HIT := Lib.hid hIT
          have HTG := Lib.hid hTG
          clear hIT hTG hp
          go_wp2_with fail
          refine HIT.out.mono ?_
          rintro e w3 ⟨rfl, b3⟩
          unfold zeroItem
          go_wp2
          refine bodyPost_ret (v := .tuple #[.slice none 0 0, .int .i64 3]) (by simp [results, Tryz.results17, go_sem]) rfl ⟨?_, ?_⟩
          · rw [HR.out, HTG.out]
            exact ⟨_, [], rfl, ItemsR.nil _ _⟩
          · exact (hB.trans (b3.mono hB.size)).alloc (Nat.le_trans hB.size b3.size) _
        | some x =>
          rw [hit] at hIT hTG
          have HIT := Lib.hid hIT
          have HTG := Lib.hid hTG
          obtain ⟨hxn, hxl, hx64⟩ := itemR_names hit
          clear hIT hTG hp hit
          go_wp2_with fail
          refine HIT.out.mono ?_
          rintro e w3 ⟨⟨b, rfl, hb1, hb2, hb3⟩, b3⟩
          have hpL : p.length ≤ 900000 := hpL0
          obtain ⟨c0, e0⟩ : ∃ c, x.m.testBit 0 = c := ⟨_, rfl⟩
          obtain ⟨c1, e1⟩ : ∃ c, x.m.testBit 1 = c := ⟨_, rfl⟩
          obtain ⟨c2, e2⟩ : ∃ c, x.m.testBit 2 = c := ⟨_, rfl⟩
          obtain ⟨c3, e3⟩ : ∃ c, x.m.testBit 3 = c := ⟨_, rfl⟩
          obtain ⟨c4, e4⟩ : ∃ c, x.m.testBit 4 = c := ⟨_, rfl⟩
          obtain ⟨c5, e5⟩ : ∃ c, x.m.testBit 5 = c := ⟨_, rfl⟩
          have EE := Lib.hid (And.intro e0 (And.intro e1 (And.intro e2 (And.intro e3 (And.intro e4 e5)))))
          unfold itemVal
          rw [e0, e1, e2, e3, e4, e5]
          have HI3 := Lib.hid (HI.out.below b3)
          have HM3 := Lib.hid (HM.out.kept (grown_of_below (B := 0) b3) (by simp))
          have HP3 := Lib.hid (HP.out.below b3 (by omega))
          have HB3 := Lib.hid hb3
          have hB3 := hB.trans (b3.mono hB.size)
          have hs3 := b3.size
          have hbn : b ≠ w.heap.size := by omega
          clear HI HM HP hb3 hB b3 HIT e0 e1 e2 e3 e4 e5
          cases c5 with
          | true =>
            by_cases hla : k + 1 < parts.length
            · have hlz2 : decide ((k : Int) < (parts.length : Int) - 1) = true := by simp; omega
              have HFL : Hid ((x.m.testBit 5 && !(parts.drop (k + 1)).isEmpty) = true) := Lib.hid (by rw [EE.out.2.2.2.2.2]; simp; omega)
              go_wp2
              refine bodyPost_ret (v := .tuple #[.slice none 0 0, .int .i64 3]) (by simp [results, Tryz.results17, go_sem]) rfl ⟨?_, ?_⟩
              · rw [HR.out, HTG.out]
                simp only [HFL.out]
                exact ⟨_, [], rfl, ItemsR.nil _ _⟩
              · exact hB3.alloc hB3.size _
            · have hlz2 : decide ((k : Int) < (parts.length : Int) - 1) = false := by simp; omega
              have HFL : Hid ((x.m.testBit 5 && !(parts.drop (k + 1)).isEmpty) = false) := Lib.hid (by rw [EE.out.2.2.2.2.2]; simp; omega)
              go_wp2
              obtain ⟨wi, hwi⟩ : ∃ wi, w3.alloc (Obj.cells #[.slice (some ⟨b, 0, none⟩) x.names.length x.names.length, .bool c0, .bool c1, .bool c2, .bool c3, .bool c4, .bool true] 42) = wi := ⟨_, rfl⟩
              have hAl : Below w3.heap.size w3 (w3.alloc (Obj.cells #[.slice (some ⟨b, 0, none⟩) x.names.length x.names.length, .bool c0, .bool c1, .bool c2, .bool c3, .bool c4, .bool true] 42)) := (Below.refl _ _).alloc (Nat.le_refl _) _
              have hCi : (w3.alloc (Obj.cells #[.slice (some ⟨b, 0, none⟩) x.names.length x.names.length, .bool c0, .bool c1, .bool c2, .bool c3, .bool c4, .bool true] 42)).heap[w3.heap.size]? = some (.cells #[.slice (some ⟨b, 0, none⟩) x.names.length x.names.length, .bool c0, .bool c1, .bool c2, .bool c3, .bool c4, .bool true] 42 (0, 0)) := Array.getElem?_push_size ..
              have hsi : (w3.alloc (Obj.cells #[.slice (some ⟨b, 0, none⟩) x.names.length x.names.length, .bool c0, .bool c1, .bool c2, .bool c3, .bool c4, .bool true] 42)).heap.size = w3.heap.size + 1 := by simp
              rw [hwi]
              rw [hwi] at hAl hCi hsi
              have HIi := Lib.hid (HI3.out.below hAl)
              have HMi := Lib.hid (HM3.out.kept (grown_of_below (B := 0) hAl) (by simp))
              have HPi := Lib.hid (HP3.out.below hAl (by omega))
              have HBi := Lib.hid (HB3.out.below hAl (by omega))
              have HCi := Lib.hid hCi
              have hBi := hB3.trans (hAl.mono hB3.size)
              replace hsi : w3.heap.size < wi.heap.size := by omega
              clear HI3 HM3 HP3 HB3 hAl hCi hwi
              go_loopw [47] (fun j wr2 => ∃ (jn n2 : Nat) (sn : List Bs), jn ≤ x.names.length ∧ j = .int .i64 jn ∧ n2 ≤ k * 1000001 + jn ∧ Hid (SeenM wr2 w.heap.size n2 sn) ∧ Hid (wi.grownBy wr2 (some w.heap.size)) ∧ Hid (addNames seen x.names = addNames sn (x.names.drop jn))) (fun j _ => (x.names.length - intOf j).toNat)
              case atStart => exact ⟨0, n, seen, Nat.zero_le _, rfl, Nat.le_trans hn (Nat.le_add_right _ _), HMi, Lib.hid ⟨rfl, rfl, rfl, Nat.le_refl _, fun _ _ _ => rfl⟩, Lib.hid rfl⟩
              case round =>
                obtain ⟨jn, n2, sn, hj, rfl, hn2, HM2, HG2, HA2⟩ := hrel
                have hBw2 : Hid (Below w.heap.size w wr) := Lib.hid (hBi.grown HG2.out (by omega) (fun g e => by cases e; exact Nat.le_refl _))
                by_cases hjl : jn < x.names.length
                · have hjz : decide ((jn : Int) < (x.names.length : Int)) = true := by simp; omega
                  obtain ⟨nm, hnm⟩ : ∃ nm, x.names[jn] = nm := ⟨_, rfl⟩
                  have hnl : nm.length ≤ 1000000 := by rw [← hnm]; have := (hxl _ (List.getElem_mem hjl)).1; omega
                  have hc2 : wr.cell? ⟨b, 0 + jn, none⟩ = some (.string (mkS nm)) := by rw [← hnm]; exact (HBi.out.map (by omega) HMi.out HG2.out).strs jn hjl
                  rw [Nat.zero_add] at hc2
                  have hlk := HM2.out.look nm hnl
                  have HAN : Hid (addNames seen x.names = if sn.contains nm then none else addNames (nm :: sn) (x.names.drop (jn + 1))) := Lib.hid (by rw [HA2.out, List.drop_eq_getElem_cons hjl, hnm]; rfl)
                  clear hnm
                  cases hct : sn.contains nm with
                  | true =>
                    rw [hct] at hlk HAN
                    go_wp2
                    refine bodyPost_ret (v := .tuple #[.slice none 0 0, .int .i64 3]) (by simp [results, Tryz.results17, go_sem]) rfl ⟨?_, ?_⟩
                    · rw [HR.out, HTG.out]
                      simp only [HFL.out, HAN.out]
                      exact ⟨_, [], rfl, ItemsR.nil _ _⟩
                    · exact hBw2.out
                  | false =>
                    rw [hct] at hlk HAN
                    obtain ⟨w4, hup, hM4, hg4⟩ := HM2.out.put nm hnl (by unfold maxLen; omega)
                    have HM4 := Lib.hid hM4
                    have HG4 := Lib.hid hg4
                    clear hM4 hg4
                    go_wp2
                    go_roundw
                    case rel => exact ⟨jn + 1, n2 + 1, nm :: sn, by omega, by go_num, by omega, HM4, Lib.hid (HG2.out.andThen HG4.out (fun _ e => .inr e)), Lib.hid HAN.out⟩
                    case measure => simp [intOf]; omega
                · obtain rfl : jn = x.names.length := by omega
                  rw [List.drop_length] at HA2
                  have HSN : Hid (addNames seen x.names = some sn) := HA2
                  have HIw := Lib.hid (HIi.out.map HMi.out HG2.out)
                  have HPw := Lib.hid (HPi.out.map (by omega) HMi.out HG2.out)
                  have HBw := Lib.hid (HBi.out.map (by omega) HMi.out HG2.out)
                  have HTS : Hid (tmplGo parts [] = (tmplGo (parts.drop (k + 1)) sn).map ((xs ++ [x]) ++ ·)) := Lib.hid (tg_step (F := fun s => tmplGo (parts.drop (k + 1)) s) HTG.out HFL.out HSN.out)
                  have hszw := HG2.out.size
                  have HCw : wr.heap[w3.heap.size]? = some (.cells #[.slice (some ⟨b, 0, none⟩) x.names.length x.names.length, .bool c0, .bool c1, .bool c2, .bool c3, .bool c4, .bool true] 42 (0, 0)) := (HG2.out.block _ (by omega) (fun e => by injection e with e; omega)).trans HCi.out
                  obtain ⟨⟨g0, g1, g2, g3, g4, g5, g6⟩, f0, f1, f2, f3, f4, f5, f6⟩ := item_cells HCw
                  have hIC : Hid (itC b x = [.slice (some ⟨b, 0, none⟩) x.names.length x.names.length, .bool c0, .bool c1, .bool c2, .bool c3, .bool c4, .bool true]) := Lib.hid (by
                    obtain ⟨e0, e1, e2, e3, e4, e5⟩ := EE.out
                    unfold itC; rw [e0, e1, e2, e3, e4, e5])
                  have hnm := nMany_snoc xs x
                  rw [EE.out.2.2.2.2.1] at hnm
                  have HNM := Lib.hid hnm
                  have hnle := nMany_le xs
                  clear HCw hnm HG2 HIi HMi HPi HBi HCi HA2 HTG HFL hBi
                  cases c4 with
                  | true =>
                    go_wp2_with (at_builtin; refine wpList_append_own _ rfl _ _ 37 rfl w.heap.size 42 i0 zeroItem 7 32 Tryz.underlying37 hi hz0 hz1 hz2 rfl (by decide) _ _ _ rfl (HIw.out.2.1.alloc _) ⟨wr.heap.size, 0, none⟩ 1 1 (itC b x) rfl rfl ?c1 ?c2 ?c3 ?c4 ?c5 ?_)
                    case c1 =>
                      intro j u hj
                      have ha : (⟨wr.heap.size, 0, none⟩ : Addr).add j = ⟨wr.heap.size, j, none⟩ := by by_cases h : j = 0 <;> simp [Addr.add, h]
                      first | rw [ha, cellOf (show (wr.alloc _).heap[wr.heap.size]? = _ from Array.getElem?_push_size ..), ← hj, hIC.out] | rw [← hj, hIC.out]
                      try simp
                    case c2 =>
                      rw [hIC.out]
                      intro u hu
                      simp at hu
                      rcases hu with rfl | rfl | rfl | rfl | rfl | rfl | rfl <;> rfl
                    case c3 => unfold maxLen; omega
                    case c4 => omega
                    case c5 => first | omega | (simp; omega)
                    intro v' w5 hown' hgrow _
                    go_wp2
                    go_roundw
                    case rel =>
                      have hAl := (Below.refl wr.heap.size wr).alloc (Nat.le_refl _) (Obj.cells (itC b x).toArray 42)
                      rw [show (Obj.cells (itC b x).toArray 42) = Obj.cells #[.slice (some ⟨b, 0, none⟩) x.names.length x.names.length, .bool c0, .bool c1, .bool c2, .bool c3, .bool true, .bool true] 42 by rw [hIC.out]] at hAl
                      have hszA := hAl.size
                      have hsz5 := hgrow.size
                      have hOW := (HIw.out.below hAl).2.1
                      refine ⟨k + 1, n2, bs ++ [b], xs ++ [x], sn, by omega, by go_num, by rw [HNM.out]; rfl, by simp; omega, by omega, Lib.hid ?_, Lib.hid ?_, ?_, Lib.hid ?_, ?_, HTS⟩
                      · exact (HIw.out.below hAl).snoc hgrow (by rw [hxk]; exact hown') (by omega) (by omega) (HBw.out.below hAl (by omega))
                      · exact (HM2.out.kept (grown_of_below (B := 0) hAl) (by simp)).grown hOW hgrow
                      · exact (hBw2.out.trans (hAl.mono (by omega))).grown hgrow (by omega) (fun g e => (item_block hOW e).1)
                      · exact (HPw.out.below hAl (by omega)).grown hOW hgrow
                      · omega
                    case measure => simp [intOf]; omega
                  | false =>
                    go_wp2_with (at_builtin; refine wpList_append_own _ rfl _ _ 37 rfl w.heap.size 42 i0 zeroItem 7 32 Tryz.underlying37 hi hz0 hz1 hz2 rfl (by decide) _ _ _ rfl (HIw.out.2.1.alloc _) ⟨wr.heap.size, 0, none⟩ 1 1 (itC b x) rfl rfl ?c1 ?c2 ?c3 ?c4 ?c5 ?_)
                    case c1 =>
                      intro j u hj
                      have ha : (⟨wr.heap.size, 0, none⟩ : Addr).add j = ⟨wr.heap.size, j, none⟩ := by by_cases h : j = 0 <;> simp [Addr.add, h]
                      first | rw [ha, cellOf (show (wr.alloc _).heap[wr.heap.size]? = _ from Array.getElem?_push_size ..), ← hj, hIC.out] | rw [← hj, hIC.out]
                      try simp
                    case c2 =>
                      rw [hIC.out]
                      intro u hu
                      simp at hu
                      rcases hu with rfl | rfl | rfl | rfl | rfl | rfl | rfl <;> rfl
                    case c3 => unfold maxLen; omega
                    case c4 => omega
                    case c5 => first | omega | (simp; omega)
                    intro v' w5 hown' hgrow _
                    go_wp2
                    go_roundw
                    case rel =>
                      have hAl := (Below.refl wr.heap.size wr).alloc (Nat.le_refl _) (Obj.cells (itC b x).toArray 42)
                      rw [show (Obj.cells (itC b x).toArray 42) = Obj.cells #[.slice (some ⟨b, 0, none⟩) x.names.length x.names.length, .bool c0, .bool c1, .bool c2, .bool c3, .bool false, .bool true] 42 by rw [hIC.out]] at hAl
                      have hszA := hAl.size
                      have hsz5 := hgrow.size
                      have hOW := (HIw.out.below hAl).2.1
                      refine ⟨k + 1, n2, bs ++ [b], xs ++ [x], sn, by omega, by go_num, by rw [HNM.out]; rfl, by simp; omega, by omega, Lib.hid ?_, Lib.hid ?_, ?_, Lib.hid ?_, ?_, HTS⟩
                      · exact (HIw.out.below hAl).snoc hgrow (by rw [hxk]; exact hown') (by omega) (by omega) (HBw.out.below hAl (by omega))
                      · exact (HM2.out.kept (grown_of_below (B := 0) hAl) (by simp)).grown hOW hgrow
                      · exact (hBw2.out.trans (hAl.mono (by omega))).grown hgrow (by omega) (fun g e => (item_block hOW e).1)
                      · exact (HPw.out.below hAl (by omega)).grown hOW hgrow
                      · omega
                    case measure => simp [intOf]; omega
          | false =>
            have HFL : Hid ((x.m.testBit 5 && !(parts.drop (k + 1)).isEmpty) = false) := Lib.hid (by rw [EE.out.2.2.2.2.2]; rfl)
            go_wp2
            obtain ⟨wi, hwi⟩ : ∃ wi, w3.alloc (Obj.cells #[.slice (some ⟨b, 0, none⟩) x.names.length x.names.length, .bool c0, .bool c1, .bool c2, .bool c3, .bool c4, .bool false] 42) = wi := ⟨_, rfl⟩
            have hAl : Below w3.heap.size w3 (w3.alloc (Obj.cells #[.slice (some ⟨b, 0, none⟩) x.names.length x.names.length, .bool c0, .bool c1, .bool c2, .bool c3, .bool c4, .bool false] 42)) := (Below.refl _ _).alloc (Nat.le_refl _) _
            have hCi : (w3.alloc (Obj.cells #[.slice (some ⟨b, 0, none⟩) x.names.length x.names.length, .bool c0, .bool c1, .bool c2, .bool c3, .bool c4, .bool false] 42)).heap[w3.heap.size]? = some (.cells #[.slice (some ⟨b, 0, none⟩) x.names.length x.names.length, .bool c0, .bool c1, .bool c2, .bool c3, .bool c4, .bool false] 42 (0, 0)) := Array.getElem?_push_size ..
            have hsi : (w3.alloc (Obj.cells #[.slice (some ⟨b, 0, none⟩) x.names.length x.names.length, .bool c0, .bool c1, .bool c2, .bool c3, .bool c4, .bool false] 42)).heap.size = w3.heap.size + 1 := by simp
            rw [hwi]
            rw [hwi] at hAl hCi hsi
            have HIi := Lib.hid (HI3.out.below hAl)
            have HMi := Lib.hid (HM3.out.kept (grown_of_below (B := 0) hAl) (by simp))
            have HPi := Lib.hid (HP3.out.below hAl (by omega))
            have HBi := Lib.hid (HB3.out.below hAl (by omega))
            have HCi := Lib.hid hCi
            have hBi := hB3.trans (hAl.mono hB3.size)
            replace hsi : w3.heap.size < wi.heap.size := by omega
            clear HI3 HM3 HP3 HB3 hAl hCi hwi
            go_loopw [47] (fun j wr2 => ∃ (jn n2 : Nat) (sn : List Bs), jn ≤ x.names.length ∧ j = .int .i64 jn ∧ n2 ≤ k * 1000001 + jn ∧ Hid (SeenM wr2 w.heap.size n2 sn) ∧ Hid (wi.grownBy wr2 (some w.heap.size)) ∧ Hid (addNames seen x.names = addNames sn (x.names.drop jn))) (fun j _ => (x.names.length - intOf j).toNat)
            case atStart => exact ⟨0, n, seen, Nat.zero_le _, rfl, Nat.le_trans hn (Nat.le_add_right _ _), HMi, Lib.hid ⟨rfl, rfl, rfl, Nat.le_refl _, fun _ _ _ => rfl⟩, Lib.hid rfl⟩
            case round =>
              obtain ⟨jn, n2, sn, hj, rfl, hn2, HM2, HG2, HA2⟩ := hrel
              have hBw2 : Hid (Below w.heap.size w wr) := Lib.hid (hBi.grown HG2.out (by omega) (fun g e => by cases e; exact Nat.le_refl _))
              by_cases hjl : jn < x.names.length
              · have hjz : decide ((jn : Int) < (x.names.length : Int)) = true := by simp; omega
                obtain ⟨nm, hnm⟩ : ∃ nm, x.names[jn] = nm := ⟨_, rfl⟩
                have hnl : nm.length ≤ 1000000 := by rw [← hnm]; have := (hxl _ (List.getElem_mem hjl)).1; omega
                have hc2 : wr.cell? ⟨b, 0 + jn, none⟩ = some (.string (mkS nm)) := by rw [← hnm]; exact (HBi.out.map (by omega) HMi.out HG2.out).strs jn hjl
                rw [Nat.zero_add] at hc2
                have hlk := HM2.out.look nm hnl
                have HAN : Hid (addNames seen x.names = if sn.contains nm then none else addNames (nm :: sn) (x.names.drop (jn + 1))) := Lib.hid (by rw [HA2.out, List.drop_eq_getElem_cons hjl, hnm]; rfl)
                clear hnm
                cases hct : sn.contains nm with
                | true =>
                  rw [hct] at hlk HAN
                  go_wp2
                  refine bodyPost_ret (v := .tuple #[.slice none 0 0, .int .i64 3]) (by simp [results, Tryz.results17, go_sem]) rfl ⟨?_, ?_⟩
                  · rw [HR.out, HTG.out]
                    simp only [HFL.out, HAN.out]
                    exact ⟨_, [], rfl, ItemsR.nil _ _⟩
                  · exact hBw2.out
                | false =>
                  rw [hct] at hlk HAN
                  obtain ⟨w4, hup, hM4, hg4⟩ := HM2.out.put nm hnl (by unfold maxLen; omega)
                  have HM4 := Lib.hid hM4
                  have HG4 := Lib.hid hg4
                  clear hM4 hg4
                  go_wp2
                  go_roundw
                  case rel => exact ⟨jn + 1, n2 + 1, nm :: sn, by omega, by go_num, by omega, HM4, Lib.hid (HG2.out.andThen HG4.out (fun _ e => .inr e)), Lib.hid HAN.out⟩
                  case measure => simp [intOf]; omega
              · obtain rfl : jn = x.names.length := by omega
                rw [List.drop_length] at HA2
                have HSN : Hid (addNames seen x.names = some sn) := HA2
                have HIw := Lib.hid (HIi.out.map HMi.out HG2.out)
                have HPw := Lib.hid (HPi.out.map (by omega) HMi.out HG2.out)
                have HBw := Lib.hid (HBi.out.map (by omega) HMi.out HG2.out)
                have HTS : Hid (tmplGo parts [] = (tmplGo (parts.drop (k + 1)) sn).map ((xs ++ [x]) ++ ·)) := Lib.hid (tg_step (F := fun s => tmplGo (parts.drop (k + 1)) s) HTG.out HFL.out HSN.out)
                have hszw := HG2.out.size
                have HCw : wr.heap[w3.heap.size]? = some (.cells #[.slice (some ⟨b, 0, none⟩) x.names.length x.names.length, .bool c0, .bool c1, .bool c2, .bool c3, .bool c4, .bool false] 42 (0, 0)) := (HG2.out.block _ (by omega) (fun e => by injection e with e; omega)).trans HCi.out
                obtain ⟨⟨g0, g1, g2, g3, g4, g5, g6⟩, f0, f1, f2, f3, f4, f5, f6⟩ := item_cells HCw
                have hIC : Hid (itC b x = [.slice (some ⟨b, 0, none⟩) x.names.length x.names.length, .bool c0, .bool c1, .bool c2, .bool c3, .bool c4, .bool false]) := Lib.hid (by
                  obtain ⟨e0, e1, e2, e3, e4, e5⟩ := EE.out
                  unfold itC; rw [e0, e1, e2, e3, e4, e5])
                have hnm := nMany_snoc xs x
                rw [EE.out.2.2.2.2.1] at hnm
                have HNM := Lib.hid hnm
                have hnle := nMany_le xs
                clear HCw hnm HG2 HIi HMi HPi HBi HCi HA2 HTG HFL hBi
                cases c4 with
                | true =>
                  go_wp2_with (at_builtin; refine wpList_append_own _ rfl _ _ 37 rfl w.heap.size 42 i0 zeroItem 7 32 Tryz.underlying37 hi hz0 hz1 hz2 rfl (by decide) _ _ _ rfl (HIw.out.2.1.alloc _) ⟨wr.heap.size, 0, none⟩ 1 1 (itC b x) rfl rfl ?c1 ?c2 ?c3 ?c4 ?c5 ?_)
                  case c1 =>
                    intro j u hj
                    have ha : (⟨wr.heap.size, 0, none⟩ : Addr).add j = ⟨wr.heap.size, j, none⟩ := by by_cases h : j = 0 <;> simp [Addr.add, h]
                    first | rw [ha, cellOf (show (wr.alloc _).heap[wr.heap.size]? = _ from Array.getElem?_push_size ..), ← hj, hIC.out] | rw [← hj, hIC.out]
                    try simp
                  case c2 =>
                    rw [hIC.out]
                    intro u hu
                    simp at hu
                    rcases hu with rfl | rfl | rfl | rfl | rfl | rfl | rfl <;> rfl
                  case c3 => unfold maxLen; omega
                  case c4 => omega
                  case c5 => first | omega | (simp; omega)
                  intro v' w5 hown' hgrow _
                  go_wp2
                  go_roundw
                  case rel =>
                    have hAl := (Below.refl wr.heap.size wr).alloc (Nat.le_refl _) (Obj.cells (itC b x).toArray 42)
                    rw [show (Obj.cells (itC b x).toArray 42) = Obj.cells #[.slice (some ⟨b, 0, none⟩) x.names.length x.names.length, .bool c0, .bool c1, .bool c2, .bool c3, .bool true, .bool false] 42 by rw [hIC.out]] at hAl
                    have hszA := hAl.size
                    have hsz5 := hgrow.size
                    have hOW := (HIw.out.below hAl).2.1
                    refine ⟨k + 1, n2, bs ++ [b], xs ++ [x], sn, by omega, by go_num, by rw [HNM.out]; rfl, by simp; omega, by omega, Lib.hid ?_, Lib.hid ?_, ?_, Lib.hid ?_, ?_, HTS⟩
                    · exact (HIw.out.below hAl).snoc hgrow (by rw [hxk]; exact hown') (by omega) (by omega) (HBw.out.below hAl (by omega))
                    · exact (HM2.out.kept (grown_of_below (B := 0) hAl) (by simp)).grown hOW hgrow
                    · exact (hBw2.out.trans (hAl.mono (by omega))).grown hgrow (by omega) (fun g e => (item_block hOW e).1)
                    · exact (HPw.out.below hAl (by omega)).grown hOW hgrow
                    · omega
                  case measure => simp [intOf]; omega
                | false =>
                  go_wp2_with (at_builtin; refine wpList_append_own _ rfl _ _ 37 rfl w.heap.size 42 i0 zeroItem 7 32 Tryz.underlying37 hi hz0 hz1 hz2 rfl (by decide) _ _ _ rfl (HIw.out.2.1.alloc _) ⟨wr.heap.size, 0, none⟩ 1 1 (itC b x) rfl rfl ?c1 ?c2 ?c3 ?c4 ?c5 ?_)
                  case c1 =>
                    intro j u hj
                    have ha : (⟨wr.heap.size, 0, none⟩ : Addr).add j = ⟨wr.heap.size, j, none⟩ := by by_cases h : j = 0 <;> simp [Addr.add, h]
                    first | rw [ha, cellOf (show (wr.alloc _).heap[wr.heap.size]? = _ from Array.getElem?_push_size ..), ← hj, hIC.out] | rw [← hj, hIC.out]
                    try simp
                  case c2 =>
                    rw [hIC.out]
                    intro u hu
                    simp at hu
                    rcases hu with rfl | rfl | rfl | rfl | rfl | rfl | rfl <;> rfl
                  case c3 => unfold maxLen; omega
                  case c4 => omega
                  case c5 => first | omega | (simp; omega)
                  intro v' w5 hown' hgrow _
                  go_wp2
                  go_roundw
                  case rel =>
                    have hAl := (Below.refl wr.heap.size wr).alloc (Nat.le_refl _) (Obj.cells (itC b x).toArray 42)
                    rw [show (Obj.cells (itC b x).toArray 42) = Obj.cells #[.slice (some ⟨b, 0, none⟩) x.names.length x.names.length, .bool c0, .bool c1, .bool c2, .bool c3, .bool false, .bool false] 42 by rw [hIC.out]] at hAl
                    have hszA := hAl.size
                    have hsz5 := hgrow.size
                    have hOW := (HIw.out.below hAl).2.1
                    refine ⟨k + 1, n2, bs ++ [b], xs ++ [x], sn, by omega, by go_num, by rw [HNM.out]; rfl, by simp; omega, by omega, Lib.hid ?_, Lib.hid ?_, ?_, Lib.hid ?_, ?_, HTS⟩
                    · exact (HIw.out.below hAl).snoc hgrow (by rw [hxk]; exact hown') (by omega) (by omega) (HBw.out.below hAl (by omega))
                    · exact (HM2.out.kept (grown_of_below (B := 0) hAl) (by simp)).grown hOW hgrow
                    · exact (hBw2.out.trans (hAl.mono (by omega))).grown hgrow (by omega) (fun g e => (item_block hOW e).1)
                    · exact (HPw.out.below hAl (by omega)).grown hOW hgrow
                    · omega
                  case measure => simp [intOf]; omega
      · obtain rfl : k = parts.length := by omega
        rw [List.drop_length] at HA
        have HT : Hid (tmplGo parts [] = some xs) := Lib.hid (by rw [HA.out]; simp [tmplGo])
        have hn2 := nMany_le xs
        by_cases hm1 : 1 < nMany xs
        · have hz : decide (1 < (nMany xs : Int)) = true := by simp; omega
          have HRR : Hid (templateR (bl ⟨l.toArray⟩) = ([], 3)) := Lib.hid (by rw [HR.out, HT.out]; simp only [if_pos hm1])
          go_wp2
          refine bodyPost_ret (v := .tuple #[.slice none 0 0, .int .i64 3]) (by simp [results, Tryz.results17, go_sem]) rfl ⟨?_, hB⟩
          rw [HRR.out]
          exact ⟨_, [], rfl, ItemsR.nil _ _⟩
        · have hz : decide (1 < (nMany xs : Int)) = false := by simp; omega
          have hzc := hz
          obtain ⟨vv, hvv⟩ : ∃ vv, u4 = vv := ⟨_, rfl⟩
          by_cases h20 : 20 < xs.length
          · have hz2 : decide (20 < (xs.length : Int)) = true := by simp; omega
            have HRR : Hid (templateR (bl ⟨l.toArray⟩) = ([], 2)) := Lib.hid (by rw [HR.out, HT.out]; simp only [if_neg hm1, if_pos h20])
            obtain ⟨g, cap, rfl⟩ : ∃ g cap, u4 = .slice (some ⟨g, 0, none⟩) xs.length cap := by
              rcases HI.out.2.1.2 with ⟨_, h0⟩ | ⟨g, cap, cur, hv, _⟩
              · omega
              · exact ⟨g, cap, hv⟩
            go_wp2
            refine bodyPost_ret (v := .tuple #[.slice none 0 0, .int .i64 2]) (by simp [results, Tryz.results17, go_sem]) rfl ⟨?_, hB⟩
            rw [HRR.out]
            exact ⟨_, [], rfl, ItemsR.nil _ _⟩
          · have hz2 : decide (20 < (xs.length : Int)) = false := by simp; omega
            have HRR : Hid (templateR (bl ⟨l.toArray⟩) = (xs, 0)) := Lib.hid (by rw [HR.out, HT.out]; simp only [if_neg hm1, if_neg h20])
            obtain ⟨a, cap, rfl⟩ : ∃ a cap, u4 = .slice a xs.length cap := by
              rcases HI.out.2.1.2 with ⟨hv, h0⟩ | ⟨g, cap, cur, hv, _⟩
              · exact ⟨none, 0, by rw [hv, h0]⟩
              · exact ⟨_, cap, hv⟩
            go_wp2
            refine bodyPost_ret (v := .tuple #[.slice a xs.length cap, .int .i64 0]) (by simp [results, Tryz.results17, go_sem]) rfl ⟨?_, hB⟩
            rw [HRR.out]
            exact ⟨_, bs, rfl, HI.out⟩
end Go.Proofs.YtojppincaalibaaGreatDoor
