/- The walks of the reference: next. -/
import Derived.Test.YtojppincaalibaaGreatDoorRfC
import Derived.RegionTactic
import Derived.ChangeAlike
set_option linter.unusedVariables false
set_option linter.unusedSimpArgs false
set_option maxRecDepth 100000
namespace Go.Proofs.YtojppincaalibaaGreatDoor
open Go.Shelf Go.RowKit

theorem conv_own {w : World} {base : Nat} {v : Value} {l : Bs} (h : w.ownsRow base 5 1 v l.length (bC l)) : (convert 34 9 v).run Tryz.prog w = .ok (.string (mkS l)) w := by
  rcases h.2 with ⟨rfl, h0⟩ | ⟨g, cap, cur, rfl, _⟩
  · obtain rfl := List.length_eq_zero_iff.1 h0
    exact run_convert_bytes_nil (P := Tryz.prog) w 34 5 Tryz.underlying34 Tryz.underlying5 0 0 9 Tryz.underlying9
  · exact conv_row h
def rnVal (x : RN) : Value := .tuple #[.agg #[.string (mkS x.s), .bool x.q, .int .i64 x.fr, .int .i64 x.tt], .bool x.more, .bool x.good]
set_option maxHeartbeats 8000000 in
theorem rnext_calls (line : ByteArray) (r : Bs) (k : Nat) (h : Suf line r) (hk : line.size - r.length = k) (hl : line.size ≤ 1000000) (w : World) :
    Calls Tryz.prog 26 #[.string line, .int .i64 k] w fun e w' => e = .returned (rnVal (rnext line.size r)) ∧ Below w.heap.size w w' := by
  have hr := h.2
  rw [hk] at hr
  have HR := Lib.hid hr
  have hle := h.1
  have hkl : k ≤ line.size := by omega
  clear h hk hr
  go_enter Tryz.func26, Tryz.ntmps26
  go_wp2
  go_loopw [1] (fun i wr => ∃ k' : Nat, k' ≤ line.size ∧ i = .int .i64 k' ∧ Hid (wr = w.alloc (.cells #[.string ⟨#[]⟩, .bool false, .int .i64 0, .int .i64 0] 60)) ∧ Hid (skipB r = skipB ((bl line).drop k'))) (fun i _ => (line.size - intOf i).toNat)
  case atStart => exact ⟨k, hkl, rfl, Lib.hid rfl, Lib.hid (by rw [← HR.out])⟩
  case round =>
    obtain ⟨k', hk', rfl, HW, HS⟩ := hrel
    obtain rfl := HW.out
    clear HW
    by_cases hlt : k' < line.size
    · have hlz : decide ((k' : Int) < (line.size : Int)) = true := by simp; omega
      have hne : ((k' : Int) == (line.size : Int)) = false := by simp; omega
      obtain ⟨c, hcc⟩ : ∃ c, line[k'] = c := ⟨_, rfl⟩
      have hdr : (bl line).drop k' = c :: (bl line).drop (k' + 1) := by rw [drop_at line k' hlt, hcc]
      by_cases h32 : c = 32
      · have t1 := beq_t c 32 32 rfl h32
        have HS2 : Hid (skipB r = skipB ((bl line).drop (k' + 1))) := Lib.hid (by rw [HS.out, hdr, h32, skipB_cons32])
        clear hdr h32 HS
        go_wp2
        go_roundw
        case rel => exact ⟨k' + 1, by omega, by go_num, by first | exact Lib.hid rfl | exact Lib.hid trivial, HS2⟩
        case measure => simp [intOf]; omega
      · have t1 := beq_f c 32 32 rfl h32
        have HSK : Hid (skipB r = c :: (bl line).drop (k' + 1)) := Lib.hid (by rw [HS.out, hdr, skipB_cons_ne h32])
        have hdl : ((bl line).drop (k' + 1)).length = line.size - (k' + 1) := drop_len line (k' + 1)
        by_cases h61 : c = 61
        · have t2 := beq_t c 61 61 rfl h61
          have HE : Hid (rnext line.size r = ⟨[61], false, k', k' + 1, true, true, (bl line).drop (k' + 1)⟩) := Lib.hid (by
            unfold rnext
            rw [HSK.out]
            simp only [if_pos h61]
            rw [hdl]
            congr 1 <;> omega)
          clear hdr h32 HS hdl h61
          go_wp2
          refine bodyPost_ret (v := .tuple #[.agg #[.string ⟨#[61]⟩, .bool false, .int .i64 k', .int .i64 (k' + 1)], .bool true, .bool true]) (by simp [results, Tryz.results26, go_sem]) rfl ⟨?_, (Below.refl _ _).alloc (Nat.le_refl _) _⟩
          rw [HE.out]
          rfl
        · have t2 := beq_f c 61 61 rfl h61
          by_cases h34 : c = 34
          · have t3 := bne_f c 34 34 rfl h34
            have H34 := Lib.hid h34
            obtain ⟨i0, hi0, hz0, hz1, hz2⟩ := info_parts infoByte
            have hB0 : Below w.heap.size w (w.alloc (.cells #[.string ⟨#[]⟩, .bool true, .int .i64 k', .int .i64 0] 60)) := (Below.refl _ _).alloc (Nat.le_refl _) _
            have HB0 := Lib.hid (Go.heap_alloc_new w (.cells #[.string ⟨#[]⟩, .bool true, .int .i64 k', .int .i64 0] 60))
            clear hdr h32 HS h61 h34
            go_wp2
            go_loopw [1, 7, 8] (fun i v _ wr => ∃ (j : Nat) (acc : Bs) (v0 : Value), k' + 1 ≤ j ∧ j ≤ line.size ∧ i = .int .i64 j ∧ v = v0 ∧ acc.length ≤ j ∧ Hid (wr.ownsRow w.heap.size 5 1 v0 acc.length (bC acc)) ∧ Hid (wr.heap[w.heap.size]? = some (.cells #[.string ⟨#[]⟩, .bool true, .int .i64 k', .int .i64 0] 60 (0, 0))) ∧ Below w.heap.size w wr ∧ Hid (rq [] ((bl line).drop (k' + 1)) = rq acc ((bl line).drop j))) (fun i _ _ _ => (line.size - intOf i).toNat)
            case atStart => exact ⟨k' + 1, [], .slice none 0 0, Nat.le_refl _, by omega, by go_num, rfl, Nat.zero_le _, Lib.hid (World.ownsRow_nil _ _ _ _), HB0, hB0, Lib.hid rfl⟩
            case round =>
              obtain ⟨j, acc, v, hkj, hj, rfl, hv, hacc, HO, HR2, hB, HRQ⟩ := hrel
              obtain rfl := hv.symm
              have hsz := (Array.getElem?_eq_some_iff.1 HR2.out).1
              have HBX : Hid (∀ (o : Obj) (w1 : World), (wr.alloc o).grownBy w1 v.ownBlock → w1.heap[w.heap.size]? = some (.cells #[.string ⟨#[]⟩, .bool true, .int .i64 k', .int .i64 0] 60 (0, 0))) := Lib.hid (fun o w1 hg => by
                rw [hg.block w.heap.size (by simp; omega) (fun e => ?_), Lib.alloc_old _ _ _ hsz]
                · exact HR2.out
                · obtain ⟨_, cur, hc⟩ := own_block HO.out e.symm
                  rw [HR2.out] at hc; cases hc)
              by_cases hlt2 : j < line.size
              · have hne2 : ((j : Int) == (line.size : Int)) = false := by simp; omega
                obtain ⟨d, hdd⟩ : ∃ d, line[j] = d := ⟨_, rfl⟩
                have hde : (bl line).drop j = d :: (bl line).drop (j + 1) := by rw [drop_at line j hlt2, hdd]
                by_cases hbad : badByte d = true
                · have HN : Hid (rq [] ((bl line).drop (k' + 1)) = none) := Lib.hid (by
                    rw [HRQ.out, hde]
                    cases (bl line).drop (j + 1) with
                    | nil => unfold rq; rw [hbad]; rfl
                    | cons x xs => unfold rq; rw [hbad]; rfl)
                  have hb2 : d.toNat < 32 ∨ 126 < d.toNat := by unfold badByte at hbad; simpa using hbad
                  clear hde hbad
                  by_cases hb3 : d.toNat < 32
                  · have v1 : decide ((d.toNat : Int) < 32) = true := by simp; omega
                    clear hb2 hb3
                    have HE : Hid (rnVal (rnext line.size r) = .tuple #[.agg #[.string ⟨#[]⟩, .bool true, .int .i64 k', .int .i64 0], .bool true, .bool false]) := Lib.hid (by
                      have q1 : (line.size : Int) - ((((bl line).drop (k' + 1)).length : Nat) + 1) = k' := by rw [hdl]; omega
                      unfold rnext
                      rw [HSK.out]
                      simp only [if_neg (show ¬ c = 61 by rw [H34.out]; decide), ne_eq, H34.out, not_true_eq_false, if_false]
                      rw [HN.out, q1]
                      rfl)
                    clear HRQ
                    have x0 : wr.cell? ⟨w.heap.size, 0, none⟩ = some (.string ⟨#[]⟩) := cellOf HR2.out
                    have x1 : wr.cell? ⟨w.heap.size, 1, none⟩ = some (.bool true) := cellOf HR2.out
                    have x2 : wr.cell? ⟨w.heap.size, 2, none⟩ = some (.int .i64 k') := cellOf HR2.out
                    have x3 : wr.cell? ⟨w.heap.size, 3, none⟩ = some (.int .i64 0) := cellOf HR2.out
                    have y0 : wr.frozen? ⟨w.heap.size, 0, none⟩ = false := frozOf HR2.out
                    have y1 : wr.frozen? ⟨w.heap.size, 1, none⟩ = false := frozOf HR2.out
                    have y2 : wr.frozen? ⟨w.heap.size, 2, none⟩ = false := frozOf HR2.out
                    have y3 : wr.frozen? ⟨w.heap.size, 3, none⟩ = false := frozOf HR2.out
                    go_wp2
                    obtain ⟨W5, hW5⟩ : ∃ W5 : World, W5 = (((wr.setCell ⟨w.heap.size, 0, none⟩ (.string ⟨#[]⟩)).setCell ⟨w.heap.size, 1, none⟩ (.bool true)).setCell ⟨w.heap.size, 2, none⟩ (.int .i64 k')).setCell ⟨w.heap.size, 3, none⟩ (.int .i64 0) := ⟨_, rfl⟩
                    refine bodyPost_ret (v := .tuple #[.agg #[.string ⟨#[]⟩, .bool true, .int .i64 k', .int .i64 0], .bool true, .bool false]) (by simp [results, Tryz.results26, go_sem, x0, x1, x2, x3]) rfl ⟨?_, ?_⟩
                    · rw [HE.out]
                    · first
                        | exact hB
                        | exact (((hB.setCell (p := ⟨w.heap.size, 0, none⟩) (Nat.le_refl _) _).setCell (p := ⟨w.heap.size, 1, none⟩) (Nat.le_refl _) _).setCell (p := ⟨w.heap.size, 2, none⟩) (Nat.le_refl _) _).setCell (p := ⟨w.heap.size, 3, none⟩) (Nat.le_refl _) _

                  · have v1 : decide ((d.toNat : Int) < 32) = false := by simp; omega
                    have v2 : decide (126 < (d.toNat : Int)) = true := by simp; omega
                    clear hb2 hb3
                    have HE : Hid (rnVal (rnext line.size r) = .tuple #[.agg #[.string ⟨#[]⟩, .bool true, .int .i64 k', .int .i64 0], .bool true, .bool false]) := Lib.hid (by
                      have q1 : (line.size : Int) - ((((bl line).drop (k' + 1)).length : Nat) + 1) = k' := by rw [hdl]; omega
                      unfold rnext
                      rw [HSK.out]
                      simp only [if_neg (show ¬ c = 61 by rw [H34.out]; decide), ne_eq, H34.out, not_true_eq_false, if_false]
                      rw [HN.out, q1]
                      rfl)
                    clear HRQ
                    have x0 : wr.cell? ⟨w.heap.size, 0, none⟩ = some (.string ⟨#[]⟩) := cellOf HR2.out
                    have x1 : wr.cell? ⟨w.heap.size, 1, none⟩ = some (.bool true) := cellOf HR2.out
                    have x2 : wr.cell? ⟨w.heap.size, 2, none⟩ = some (.int .i64 k') := cellOf HR2.out
                    have x3 : wr.cell? ⟨w.heap.size, 3, none⟩ = some (.int .i64 0) := cellOf HR2.out
                    have y0 : wr.frozen? ⟨w.heap.size, 0, none⟩ = false := frozOf HR2.out
                    have y1 : wr.frozen? ⟨w.heap.size, 1, none⟩ = false := frozOf HR2.out
                    have y2 : wr.frozen? ⟨w.heap.size, 2, none⟩ = false := frozOf HR2.out
                    have y3 : wr.frozen? ⟨w.heap.size, 3, none⟩ = false := frozOf HR2.out
                    go_wp2
                    obtain ⟨W5, hW5⟩ : ∃ W5 : World, W5 = (((wr.setCell ⟨w.heap.size, 0, none⟩ (.string ⟨#[]⟩)).setCell ⟨w.heap.size, 1, none⟩ (.bool true)).setCell ⟨w.heap.size, 2, none⟩ (.int .i64 k')).setCell ⟨w.heap.size, 3, none⟩ (.int .i64 0) := ⟨_, rfl⟩
                    refine bodyPost_ret (v := .tuple #[.agg #[.string ⟨#[]⟩, .bool true, .int .i64 k', .int .i64 0], .bool true, .bool false]) (by simp [results, Tryz.results26, go_sem, x0, x1, x2, x3]) rfl ⟨?_, ?_⟩
                    · rw [HE.out]
                    · first
                        | exact hB
                        | exact (((hB.setCell (p := ⟨w.heap.size, 0, none⟩) (Nat.le_refl _) _).setCell (p := ⟨w.heap.size, 1, none⟩) (Nat.le_refl _) _).setCell (p := ⟨w.heap.size, 2, none⟩) (Nat.le_refl _) _).setCell (p := ⟨w.heap.size, 3, none⟩) (Nat.le_refl _) _

                · have hb2 : ¬ d.toNat < 32 ∧ ¬ 126 < d.toNat := by unfold badByte at hbad; simpa using hbad
                  have v1 : decide ((d.toNat : Int) < 32) = false := by simp; omega
                  have v2 : decide (126 < (d.toNat : Int)) = false := by simp; omega
                  have hbad' : badByte d = false := by simpa using hbad
                  clear hbad hb2
                  by_cases e34 : d = 34
                  · have u1 := beq_t d 34 34 rfl e34
                    have HN : Hid (rq [] ((bl line).drop (k' + 1)) = some (acc, (bl line).drop (j + 1))) := Lib.hid (by
                      rw [HRQ.out, hde]
                      cases (bl line).drop (j + 1) with
                      | nil => unfold rq; rw [hbad']; simp [e34]
                      | cons x xs => unfold rq; rw [hbad']; simp [e34])
                    clear hde e34 hbad'
                    have HE : Hid (rnVal (rnext line.size r) = .tuple #[.agg #[.string (mkS acc), .bool true, .int .i64 k', .int .i64 (j + 1 : Nat)], .bool true, .bool (endOk ((bl line).drop (j + 1)))]) := Lib.hid (by
                      have q1 : (line.size : Int) - ((((bl line).drop (k' + 1)).length : Nat) + 1) = k' := by rw [hdl]; omega
                      have q2 : (line.size : Int) - ((((bl line).drop (j + 1)).length : Nat) : Int) = (j + 1 : Nat) := by rw [drop_len]; omega
                      unfold rnext
                      rw [HSK.out]
                      simp only [if_neg (show ¬ c = 61 by rw [H34.out]; decide), ne_eq, H34.out, not_true_eq_false, if_false]
                      rw [HN.out, q1]
                      simp only
                      rw [q2]
                      rfl)
                    have hcv := conv_own HO.out
                    have x0 : wr.cell? ⟨w.heap.size, 0, none⟩ = some (.string ⟨#[]⟩) := cellOf HR2.out
                    have x1 : wr.cell? ⟨w.heap.size, 1, none⟩ = some (.bool true) := cellOf HR2.out
                    have x2 : wr.cell? ⟨w.heap.size, 2, none⟩ = some (.int .i64 k') := cellOf HR2.out
                    have x3 : wr.cell? ⟨w.heap.size, 3, none⟩ = some (.int .i64 0) := cellOf HR2.out
                    have y0 : wr.frozen? ⟨w.heap.size, 0, none⟩ = false := frozOf HR2.out
                    have y1 : wr.frozen? ⟨w.heap.size, 1, none⟩ = false := frozOf HR2.out
                    have y2 : wr.frozen? ⟨w.heap.size, 2, none⟩ = false := frozOf HR2.out
                    have y3 : wr.frozen? ⟨w.heap.size, 3, none⟩ = false := frozOf HR2.out
                    clear HRQ HN
                    go_wp2
                    obtain ⟨W5, hW5⟩ : ∃ W5 : World, (wr.setCell ⟨w.heap.size, 0, none⟩ (.string (mkS acc))).setCell ⟨w.heap.size, 3, none⟩ (.int .i64 ((j : Int) + 1)) = W5 := ⟨_, rfl⟩
                    have HB5 : Hid (W5.heap[w.heap.size]? = some (.cells #[.string (mkS acc), .bool true, .int .i64 k', .int .i64 ((j : Int) + 1)] 60 (0, 0))) := Lib.hid (by
                      rw [← hW5]
                      exact heapSet (i := 3) _ (heapSet (i := 0) _ HR2.out))
                    have hB5 : Below w.heap.size w W5 := by
                      rw [← hW5]
                      exact (hB.setCell (p := ⟨w.heap.size, 0, none⟩) (Nat.le_refl _) _).setCell (p := ⟨w.heap.size, 3, none⟩) (Nat.le_refl _) _
                    rw [hW5]
                    clear hW5 x0 x1 x2 x3 y0 y1 y2 y3 hcv
                    have x0 : W5.cell? ⟨w.heap.size, 0, none⟩ = some (.string (mkS acc)) := cellOf HB5.out
                    have x1 : W5.cell? ⟨w.heap.size, 1, none⟩ = some (.bool true) := cellOf HB5.out
                    have x2 : W5.cell? ⟨w.heap.size, 2, none⟩ = some (.int .i64 k') := cellOf HB5.out
                    have x3 : W5.cell? ⟨w.heap.size, 3, none⟩ = some (.int .i64 ((j : Int) + 1)) := cellOf HB5.out
                    have y0 : W5.frozen? ⟨w.heap.size, 0, none⟩ = false := frozOf HB5.out
                    have y1 : W5.frozen? ⟨w.heap.size, 1, none⟩ = false := frozOf HB5.out
                    have y2 : W5.frozen? ⟨w.heap.size, 2, none⟩ = false := frozOf HB5.out
                    have y3 : W5.frozen? ⟨w.heap.size, 3, none⟩ = false := frozOf HB5.out
                    by_cases hend : j + 1 < line.size
                    · have hne3 : ((j : Int) + 1 == (line.size : Int)) = false := by simp; omega
                      have hi1 : (0 : Int) ≤ (j : Int) + 1 := by omega
                      have hi2 : (j : Int) + 1 < (line.size : Int) := by omega
                      obtain ⟨e, hee⟩ : ∃ e, line[j + 1] = e := ⟨_, rfl⟩
                      have hde2 : (bl line).drop (j + 1) = e :: (bl line).drop (j + 2) := by rw [drop_at line (j + 1) hend, hee]
                      by_cases g32 : e = 32
                      · have z1 := beq_t e 32 32 rfl g32
                        have HE2 : Hid (endOk ((bl line).drop (j + 1)) = true) := Lib.hid (by rw [hde2, g32]; rfl)
                        clear hde2 g32
                        go_region
                        all_goals go_wp2
                        all_goals
                          refine bodyPost_ret (v := .tuple #[.agg #[.string (mkS acc), .bool true, .int .i64 k', .int .i64 ((j : Int) + 1)], .bool true, .bool true]) (by simp [results, Tryz.results26, go_sem, x0, x1, x2, x3]) rfl ⟨?_, ?_⟩
                          · rw [HE.out, HE2.out]; rfl
                          · first
                              | exact ((((hB5.setCell (p := ⟨w.heap.size, 0, none⟩) (Nat.le_refl _) _).setCell (p := ⟨w.heap.size, 1, none⟩) (Nat.le_refl _) _).setCell (p := ⟨w.heap.size, 2, none⟩) (Nat.le_refl _) _).setCell (p := ⟨w.heap.size, 3, none⟩) (Nat.le_refl _) _).drew
                              | exact hB5.drew
                      · have z1 := beq_f e 32 32 rfl g32
                        by_cases g61 : e = 61
                        · have z2 := beq_t e 61 61 rfl g61
                          have HE2 : Hid (endOk ((bl line).drop (j + 1)) = true) := Lib.hid (by rw [hde2, g61]; rfl)
                          clear hde2 g32 g61
                          go_region
                          all_goals go_wp2
                          all_goals
                            refine bodyPost_ret (v := .tuple #[.agg #[.string (mkS acc), .bool true, .int .i64 k', .int .i64 ((j : Int) + 1)], .bool true, .bool true]) (by simp [results, Tryz.results26, go_sem, x0, x1, x2, x3]) rfl ⟨?_, ?_⟩
                            · rw [HE.out, HE2.out]; rfl
                            · first
                                | exact ((((hB5.setCell (p := ⟨w.heap.size, 0, none⟩) (Nat.le_refl _) _).setCell (p := ⟨w.heap.size, 1, none⟩) (Nat.le_refl _) _).setCell (p := ⟨w.heap.size, 2, none⟩) (Nat.le_refl _) _).setCell (p := ⟨w.heap.size, 3, none⟩) (Nat.le_refl _) _).drew
                                | exact hB5.drew
                        · have z2 := beq_f e 61 61 rfl g61
                          have HE2 : Hid (endOk ((bl line).drop (j + 1)) = false) := Lib.hid (by rw [hde2]; unfold endOk; simp [g32, g61])
                          clear hde2 g32 g61
                          go_region
                          all_goals go_wp2
                          all_goals
                            refine bodyPost_ret (v := .tuple #[.agg #[.string (mkS acc), .bool true, .int .i64 k', .int .i64 ((j : Int) + 1)], .bool true, .bool false]) (by simp [results, Tryz.results26, go_sem, x0, x1, x2, x3]) rfl ⟨?_, ?_⟩
                            · rw [HE.out, HE2.out]; rfl
                            · first
                                | exact ((((hB5.setCell (p := ⟨w.heap.size, 0, none⟩) (Nat.le_refl _) _).setCell (p := ⟨w.heap.size, 1, none⟩) (Nat.le_refl _) _).setCell (p := ⟨w.heap.size, 2, none⟩) (Nat.le_refl _) _).setCell (p := ⟨w.heap.size, 3, none⟩) (Nat.le_refl _) _).drew
                                | exact hB5.drew
                    · have hne3 : ((j : Int) + 1 == (line.size : Int)) = true := by simp; omega
                      have HE2 : Hid (endOk ((bl line).drop (j + 1)) = true) := Lib.hid (by rw [drop_end line (j + 1) (by omega)]; rfl)
                      go_region
                      all_goals go_wp2
                      all_goals
                        refine bodyPost_ret (v := .tuple #[.agg #[.string (mkS acc), .bool true, .int .i64 k', .int .i64 ((j : Int) + 1)], .bool true, .bool true]) (by simp [results, Tryz.results26, go_sem, x0, x1, x2, x3]) rfl ⟨?_, ?_⟩
                        · rw [HE.out, HE2.out]; rfl
                        · first
                            | exact ((((hB5.setCell (p := ⟨w.heap.size, 0, none⟩) (Nat.le_refl _) _).setCell (p := ⟨w.heap.size, 1, none⟩) (Nat.le_refl _) _).setCell (p := ⟨w.heap.size, 2, none⟩) (Nat.le_refl _) _).setCell (p := ⟨w.heap.size, 3, none⟩) (Nat.le_refl _) _).drew
                            | exact hB5.drew

                  · have u1 := beq_f d 34 34 rfl e34
                    by_cases e42 : d = 42
                    · have u2 := beq_t d 42 42 rfl e42
                      by_cases hlt3 : j + 1 < line.size
                      · have hlz3 : decide ((j : Int) + 1 < (line.size : Int)) = true := by simp; omega
                        obtain ⟨e, hee⟩ : ∃ e, line[j + 1] = e := ⟨_, rfl⟩
                        have hde2 : (bl line).drop (j + 1) = e :: (bl line).drop (j + 2) := by rw [drop_at line (j + 1) hlt3, hee]
                        by_cases f34 : e = 34
                        · have z1 := beq_t e 34 34 rfl f34
                          have z2 := beq_f e 110 110 rfl (by rw [f34]; decide)
                          have HRQ2 : Hid (rq [] ((bl line).drop (k' + 1)) = rq (acc ++ [e]) ((bl line).drop (j + 2))) := Lib.hid (by
                            rw [HRQ.out, hde, hde2]
                            conv => lhs; unfold rq
                            rw [hbad', if_neg (by simp), if_neg e34, if_pos ⟨e42, .inl f34⟩, if_neg (by rw [f34]; decide)]
                          )
                          clear hde hde2 f34 e34 e42 hbad'
                          go_wp2_with (at_builtin; refine wpList_append_own _ rfl _ _ 34 rfl w.heap.size 5 i0 (.int .u8 0) 1 1 Tryz.underlying34 hi0 hz0 hz1 hz2 rfl (by decide) _ _ _ rfl (HO.out.alloc _) ⟨wr.heap.size, 0, none⟩ 1 1 [.int .u8 (e.toNat : Int)] (by rfl) (by rfl) (World.news_of_block (heap_alloc_new wr _)) (by simp [Value.oneCell']) (by unfold maxLen; omega) (by omega) (by simp; omega) ?_; intro v' w1 hown' hgrow _)
                          go_wp2
                          go_roundw
                          case rel => exact ⟨j + 2, acc ++ [e], v', by omega, by omega, by go_num, by first | rfl | trivial, by rw [List.length_append]; simp only [List.length_cons, List.length_nil]; omega, Lib.hid (by rw [List.length_append, bC_append]; exact hown'), Lib.hid (HBX.out _ _ hgrow), (hB.alloc hB.size _).grown hgrow (by simp; omega) (fun j e => (own_block HO.out e).1), HRQ2⟩
                          case measure => simp [intOf]; omega

                        · have z1 := beq_f e 34 34 rfl f34
                          by_cases f42 : e = 42
                          · have z3 := beq_t e 42 42 rfl f42
                            have z2 := beq_f e 110 110 rfl (by rw [f42]; decide)
                            have HRQ2 : Hid (rq [] ((bl line).drop (k' + 1)) = rq (acc ++ [e]) ((bl line).drop (j + 2))) := Lib.hid (by
                              rw [HRQ.out, hde, hde2]
                              conv => lhs; unfold rq
                              rw [hbad', if_neg (by simp), if_neg e34, if_pos ⟨e42, .inr (.inl f42)⟩, if_neg (by rw [f42]; decide)]
                            )
                            clear hde hde2 f34 f42 e34 e42 hbad'
                            go_wp2_with (at_builtin; refine wpList_append_own _ rfl _ _ 34 rfl w.heap.size 5 i0 (.int .u8 0) 1 1 Tryz.underlying34 hi0 hz0 hz1 hz2 rfl (by decide) _ _ _ rfl (HO.out.alloc _) ⟨wr.heap.size, 0, none⟩ 1 1 [.int .u8 (e.toNat : Int)] (by rfl) (by rfl) (World.news_of_block (heap_alloc_new wr _)) (by simp [Value.oneCell']) (by unfold maxLen; omega) (by omega) (by simp; omega) ?_; intro v' w1 hown' hgrow _)
                            go_wp2
                            go_roundw
                            case rel => exact ⟨j + 2, acc ++ [e], v', by omega, by omega, by go_num, by first | rfl | trivial, by rw [List.length_append]; simp only [List.length_cons, List.length_nil]; omega, Lib.hid (by rw [List.length_append, bC_append]; exact hown'), Lib.hid (HBX.out _ _ hgrow), (hB.alloc hB.size _).grown hgrow (by simp; omega) (fun j e => (own_block HO.out e).1), HRQ2⟩
                            case measure => simp [intOf]; omega

                          · have z3 := beq_f e 42 42 rfl f42
                            by_cases f110 : e = 110
                            · have z2 := beq_t e 110 110 rfl f110
                              have HRQ2 : Hid (rq [] ((bl line).drop (k' + 1)) = rq (acc ++ [10]) ((bl line).drop (j + 2))) := Lib.hid (by
                                rw [HRQ.out, hde, hde2]
                                conv => lhs; unfold rq
                                rw [hbad', if_neg (by simp), if_neg e34, if_pos ⟨e42, .inr (.inr f110)⟩, if_pos f110]
                              )
                              clear hde hde2 f34 f42 f110 e34 e42 hbad'
                              go_wp2_with (at_builtin; refine wpList_append_own _ rfl _ _ 34 rfl w.heap.size 5 i0 (.int .u8 0) 1 1 Tryz.underlying34 hi0 hz0 hz1 hz2 rfl (by decide) _ _ _ rfl (HO.out.alloc _) ⟨wr.heap.size, 0, none⟩ 1 1 [.int .u8 10] (by rfl) (by rfl) (World.news_of_block (heap_alloc_new wr _)) (by simp [Value.oneCell']) (by unfold maxLen; omega) (by omega) (by simp; omega) ?_; intro v' w1 hown' hgrow _)
                              go_wp2
                              go_roundw
                              case rel => exact ⟨j + 2, acc ++ [10], v', by omega, by omega, by go_num, by first | rfl | trivial, by rw [List.length_append]; simp only [List.length_cons, List.length_nil]; omega, Lib.hid (by rw [List.length_append, bC_append]; exact hown'), Lib.hid (HBX.out _ _ hgrow), (hB.alloc hB.size _).grown hgrow (by simp; omega) (fun j e => (own_block HO.out e).1), HRQ2⟩
                              case measure => simp [intOf]; omega

                            · have z2 := beq_f e 110 110 rfl f110
                              have HRQ2 : Hid (rq [] ((bl line).drop (k' + 1)) = rq (acc ++ [d]) ((bl line).drop (j + 1))) := Lib.hid (by
                                rw [HRQ.out, hde, hde2]
                                conv => lhs; unfold rq
                                rw [hbad', if_neg (by simp), if_neg e34, if_neg (by rintro ⟨_, h | h | h⟩; exact f34 h; exact f42 h; exact f110 h)]
                              )
                              clear hde hde2 f34 f42 f110 e34 e42 hbad'
                              go_wp2_with (at_builtin; refine wpList_append_own _ rfl _ _ 34 rfl w.heap.size 5 i0 (.int .u8 0) 1 1 Tryz.underlying34 hi0 hz0 hz1 hz2 rfl (by decide) _ _ _ rfl (HO.out.alloc _) ⟨wr.heap.size, 0, none⟩ 1 1 [.int .u8 (d.toNat : Int)] (by rfl) (by rfl) (World.news_of_block (heap_alloc_new wr _)) (by simp [Value.oneCell']) (by unfold maxLen; omega) (by omega) (by simp; omega) ?_; intro v' w1 hown' hgrow _)
                              go_wp2
                              go_roundw
                              case rel => exact ⟨j + 1, acc ++ [d], v', by omega, by omega, by go_num, by first | rfl | trivial, by rw [List.length_append]; simp only [List.length_cons, List.length_nil]; omega, Lib.hid (by rw [List.length_append, bC_append]; exact hown'), Lib.hid (HBX.out _ _ hgrow), (hB.alloc hB.size _).grown hgrow (by simp; omega) (fun j e => (own_block HO.out e).1), HRQ2⟩
                              case measure => simp [intOf]; omega

                      · have hlz3 : ¬ j + 1 < line.size := hlt3
                        have HRQ2 : Hid (rq [] ((bl line).drop (k' + 1)) = rq (acc ++ [d]) ((bl line).drop (j + 1))) := Lib.hid (by
                          rw [HRQ.out, hde, drop_end line (j + 1) (by omega)]
                          unfold rq
                          rw [hbad', if_neg (by simp), if_neg e34]
                        )
                        clear hde e34 e42 hbad'
                        go_wp2_with (at_builtin; refine wpList_append_own _ rfl _ _ 34 rfl w.heap.size 5 i0 (.int .u8 0) 1 1 Tryz.underlying34 hi0 hz0 hz1 hz2 rfl (by decide) _ _ _ rfl (HO.out.alloc _) ⟨wr.heap.size, 0, none⟩ 1 1 [.int .u8 (d.toNat : Int)] (by rfl) (by rfl) (World.news_of_block (heap_alloc_new wr _)) (by simp [Value.oneCell']) (by unfold maxLen; omega) (by omega) (by simp; omega) ?_; intro v' w1 hown' hgrow _)
                        go_wp2
                        go_roundw
                        case rel => exact ⟨j + 1, acc ++ [d], v', by omega, by omega, by go_num, by first | rfl | trivial, by rw [List.length_append]; simp only [List.length_cons, List.length_nil]; omega, Lib.hid (by rw [List.length_append, bC_append]; exact hown'), Lib.hid (HBX.out _ _ hgrow), (hB.alloc hB.size _).grown hgrow (by simp; omega) (fun j e => (own_block HO.out e).1), HRQ2⟩
                        case measure => simp [intOf]; omega

                    · have u2 := beq_f d 42 42 rfl e42
                      have HRQ2 : Hid (rq [] ((bl line).drop (k' + 1)) = rq (acc ++ [d]) ((bl line).drop (j + 1))) := Lib.hid (by
                        rw [HRQ.out, hde]
                        cases (bl line).drop (j + 1) with
                        | nil => unfold rq; rw [hbad', if_neg (by simp), if_neg e34]
                        | cons x xs => conv => lhs; unfold rq
                                       rw [hbad', if_neg (by simp), if_neg e34, if_neg (fun h => e42 h.1)]
                      )
                      clear hde e34 e42 hbad'
                      go_wp2_with (at_builtin; refine wpList_append_own _ rfl _ _ 34 rfl w.heap.size 5 i0 (.int .u8 0) 1 1 Tryz.underlying34 hi0 hz0 hz1 hz2 rfl (by decide) _ _ _ rfl (HO.out.alloc _) ⟨wr.heap.size, 0, none⟩ 1 1 [.int .u8 (d.toNat : Int)] (by rfl) (by rfl) (World.news_of_block (heap_alloc_new wr _)) (by simp [Value.oneCell']) (by unfold maxLen; omega) (by omega) (by simp; omega) ?_; intro v' w1 hown' hgrow _)
                      go_wp2
                      go_roundw
                      case rel => exact ⟨j + 1, acc ++ [d], v', by omega, by omega, by go_num, by first | rfl | trivial, by rw [List.length_append]; simp only [List.length_cons, List.length_nil]; omega, Lib.hid (by rw [List.length_append, bC_append]; exact hown'), Lib.hid (HBX.out _ _ hgrow), (hB.alloc hB.size _).grown hgrow (by simp; omega) (fun j e => (own_block HO.out e).1), HRQ2⟩
                      case measure => simp [intOf]; omega

              · obtain rfl : j = line.size := by omega
                have hne2 : ((line.size : Int) == (line.size : Int)) = true := by simp
                have HN : Hid (rq [] ((bl line).drop (k' + 1)) = none) := Lib.hid (by
                  rw [HRQ.out, drop_end line line.size (Nat.le_refl _)]
                  rfl)
                have HE : Hid (rnVal (rnext line.size r) = .tuple #[.agg #[.string ⟨#[]⟩, .bool true, .int .i64 k', .int .i64 0], .bool true, .bool false]) := Lib.hid (by
                  have q1 : (line.size : Int) - ((((bl line).drop (k' + 1)).length : Nat) + 1) = k' := by rw [hdl]; omega
                  unfold rnext
                  rw [HSK.out]
                  simp only [if_neg (show ¬ c = 61 by rw [H34.out]; decide), ne_eq, H34.out, not_true_eq_false, if_false]
                  rw [HN.out, q1]
                  rfl)
                clear HRQ
                have x0 : wr.cell? ⟨w.heap.size, 0, none⟩ = some (.string ⟨#[]⟩) := cellOf HR2.out
                have x1 : wr.cell? ⟨w.heap.size, 1, none⟩ = some (.bool true) := cellOf HR2.out
                have x2 : wr.cell? ⟨w.heap.size, 2, none⟩ = some (.int .i64 k') := cellOf HR2.out
                have x3 : wr.cell? ⟨w.heap.size, 3, none⟩ = some (.int .i64 0) := cellOf HR2.out
                have y0 : wr.frozen? ⟨w.heap.size, 0, none⟩ = false := frozOf HR2.out
                have y1 : wr.frozen? ⟨w.heap.size, 1, none⟩ = false := frozOf HR2.out
                have y2 : wr.frozen? ⟨w.heap.size, 2, none⟩ = false := frozOf HR2.out
                have y3 : wr.frozen? ⟨w.heap.size, 3, none⟩ = false := frozOf HR2.out
                go_wp2
                obtain ⟨W5, hW5⟩ : ∃ W5 : World, W5 = (((wr.setCell ⟨w.heap.size, 0, none⟩ (.string ⟨#[]⟩)).setCell ⟨w.heap.size, 1, none⟩ (.bool true)).setCell ⟨w.heap.size, 2, none⟩ (.int .i64 k')).setCell ⟨w.heap.size, 3, none⟩ (.int .i64 0) := ⟨_, rfl⟩
                refine bodyPost_ret (v := .tuple #[.agg #[.string ⟨#[]⟩, .bool true, .int .i64 k', .int .i64 0], .bool true, .bool false]) (by simp [results, Tryz.results26, go_sem, x0, x1, x2, x3]) rfl ⟨?_, ?_⟩
                · rw [HE.out]
                · first
                    | exact hB
                    | exact (((hB.setCell (p := ⟨w.heap.size, 0, none⟩) (Nat.le_refl _) _).setCell (p := ⟨w.heap.size, 1, none⟩) (Nat.le_refl _) _).setCell (p := ⟨w.heap.size, 2, none⟩) (Nat.le_refl _) _).setCell (p := ⟨w.heap.size, 3, none⟩) (Nat.le_refl _) _
          · have t3 := bne_t c 34 34 rfl h34
            have HDK : Hid (c :: (bl line).drop (k' + 1) = (bl line).drop k') := Lib.hid hdr.symm
            have H6134 := Lib.hid (And.intro h61 h34)
            have hcc' := hcc
            clear hdr h32 HS h61 h34
            go_wp2
            go_loop [1] (fun i => ∃ e : Nat, k' ≤ e ∧ e ≤ line.size ∧ i = .int .i64 e ∧ Hid (WInv line k' e) ∧ Hid ((tw ((bl line).drop k')).any bad33 = (tw ((bl line).drop e)).any bad33)) (fun i => (line.size - intOf i).toNat)
            case atStart => exact ⟨k', Nat.le_refl _, by omega, rfl, Lib.hid (WInv.start line k' (by omega)), Lib.hid rfl⟩
            case round =>
              obtain ⟨e, hke, hel, rfl, HWI, HBD⟩ := hrel
              by_cases hlt2 : e < line.size
              · have hlz2 : decide ((e : Int) < (line.size : Int)) = true := by simp; omega
                obtain ⟨d, hdd⟩ : ∃ d, line[e] = d := ⟨_, rfl⟩
                have hde : (bl line).drop e = d :: (bl line).drop (e + 1) := by rw [drop_at line e hlt2, hdd]
                by_cases e32 : d = 32
                · have v1 := bne_f d 32 32 rfl e32
                  have HTW : Hid (tw ((bl line).drop e) = [] ∧ dw ((bl line).drop e) = (bl line).drop e) := Lib.hid (by rw [hde]; exact ⟨tw_stop (.inl e32) _, dw_stop (.inl e32) _⟩)
                  clear hde e32
                  have HE : Hid (rnVal (rnext line.size r) = .tuple #[.agg #[.string (line.extract k' e), .bool false, .int .i64 k', .int .i64 e], .bool true, .bool true]) := Lib.hid (by
                    have hw := HWI.out
                    unfold WInv at hw
                    have hb := HBD.out
                    rw [HTW.out.1] at hb hw
                    rw [HTW.out.2, List.append_nil] at hw
                    have hdk : c :: (bl line).drop (k' + 1) = (bl line).drop k' := HDK.out
                    unfold rnext
                    rw [HSK.out]
                    simp only [if_neg H6134.out.1, ne_eq, H6134.out.2, not_false_eq_true, if_true]
                    rw [hdk, hb]
                    simp only [List.any_nil, Bool.false_eq_true, if_false]
                    have q1 : (line.size : Int) - ((((bl line).drop (k' + 1)).length : Nat) + 1) = k' := by rw [hdl]; omega
                    have q2 : (line.size : Int) - ((((bl line).drop e).length : Nat) : Int) = e := by rw [drop_len]; omega
                    rw [hw.1, hw.2, q1, q2]
                    unfold rnVal
                    simp only
                    rw [mkS_bl])
                  have hd1 : (k' : Int) ≤ (e : Int) := by omega
                  have hd2 : (e : Int) ≤ (line.size : Int) := by omega
                  clear HWI HBD
                  go_wp2
                  refine bodyPost_ret (v := .tuple #[.agg #[.string (line.extract k' e), .bool false, .int .i64 k', .int .i64 e], .bool true, .bool true]) (by simp [results, Tryz.results26, go_sem]) rfl ⟨?_, (Below.refl _ _).alloc (Nat.le_refl _) _⟩
                  rw [HE.out]

                · have v1 := bne_t d 32 32 rfl e32
                  by_cases e61 : d = 61
                  · have v2 := bne_f d 61 61 rfl e61
                    have HTW : Hid (tw ((bl line).drop e) = [] ∧ dw ((bl line).drop e) = (bl line).drop e) := Lib.hid (by rw [hde]; exact ⟨tw_stop (.inr e61) _, dw_stop (.inr e61) _⟩)
                    clear hde e32 e61
                    have HE : Hid (rnVal (rnext line.size r) = .tuple #[.agg #[.string (line.extract k' e), .bool false, .int .i64 k', .int .i64 e], .bool true, .bool true]) := Lib.hid (by
                      have hw := HWI.out
                      unfold WInv at hw
                      have hb := HBD.out
                      rw [HTW.out.1] at hb hw
                      rw [HTW.out.2, List.append_nil] at hw
                      have hdk : c :: (bl line).drop (k' + 1) = (bl line).drop k' := HDK.out
                      unfold rnext
                      rw [HSK.out]
                      simp only [if_neg H6134.out.1, ne_eq, H6134.out.2, not_false_eq_true, if_true]
                      rw [hdk, hb]
                      simp only [List.any_nil, Bool.false_eq_true, if_false]
                      have q1 : (line.size : Int) - ((((bl line).drop (k' + 1)).length : Nat) + 1) = k' := by rw [hdl]; omega
                      have q2 : (line.size : Int) - ((((bl line).drop e).length : Nat) : Int) = e := by rw [drop_len]; omega
                      rw [hw.1, hw.2, q1, q2]
                      unfold rnVal
                      simp only
                      rw [mkS_bl])
                    have hd1 : (k' : Int) ≤ (e : Int) := by omega
                    have hd2 : (e : Int) ≤ (line.size : Int) := by omega
                    clear HWI HBD
                    go_wp2
                    refine bodyPost_ret (v := .tuple #[.agg #[.string (line.extract k' e), .bool false, .int .i64 k', .int .i64 e], .bool true, .bool true]) (by simp [results, Tryz.results26, go_sem]) rfl ⟨?_, (Below.refl _ _).alloc (Nat.le_refl _) _⟩
                    rw [HE.out]

                  · have v2 := bne_t d 61 61 rfl e61
                    by_cases e33 : d.toNat < 33
                    · have v3 : decide ((d.toNat : Int) < 33) = true := by simp; omega
                      have HTW2 : Hid ((tw ((bl line).drop e)).any bad33 = true) := Lib.hid (by rw [hde, tw_cons e32 e61, List.any_cons]; unfold bad33; simp [e33])
                      clear hde e32 e61 e33
                      have HE : Hid (rnVal (rnext line.size r) = .tuple #[.agg #[.string ⟨#[]⟩, .bool false, .int .i64 k', .int .i64 0], .bool true, .bool false]) := Lib.hid (by
                        have hb := HBD.out
                        rw [HTW2.out] at hb
                        have hdk : c :: (bl line).drop (k' + 1) = (bl line).drop k' := HDK.out
                        unfold rnext
                        rw [HSK.out]
                        simp only [if_neg H6134.out.1, ne_eq, H6134.out.2, not_false_eq_true, if_true]
                        have q1 : (line.size : Int) - ((((bl line).drop (k' + 1)).length : Nat) + 1) = k' := by rw [hdl]; omega
                        rw [hdk, hb, q1]
                        rfl)
                      clear HWI HBD
                      go_wp2
                      refine bodyPost_ret (v := .tuple #[.agg #[.string ⟨#[]⟩, .bool false, .int .i64 k', .int .i64 0], .bool true, .bool false]) (by simp [results, Tryz.results26, go_sem]) rfl ⟨?_, (Below.refl _ _).alloc (Nat.le_refl _) _⟩
                      rw [HE.out]

                    · have v3 : decide ((d.toNat : Int) < 33) = false := by simp; omega
                      by_cases e126 : 126 < d.toNat
                      · have v4 : decide (126 < (d.toNat : Int)) = true := by simp; omega
                        have HTW2 : Hid ((tw ((bl line).drop e)).any bad33 = true) := Lib.hid (by rw [hde, tw_cons e32 e61, List.any_cons]; unfold bad33; simp [e126])
                        clear hde e32 e61 e33 e126
                        have HE : Hid (rnVal (rnext line.size r) = .tuple #[.agg #[.string ⟨#[]⟩, .bool false, .int .i64 k', .int .i64 0], .bool true, .bool false]) := Lib.hid (by
                          have hb := HBD.out
                          rw [HTW2.out] at hb
                          have hdk : c :: (bl line).drop (k' + 1) = (bl line).drop k' := HDK.out
                          unfold rnext
                          rw [HSK.out]
                          simp only [if_neg H6134.out.1, ne_eq, H6134.out.2, not_false_eq_true, if_true]
                          have q1 : (line.size : Int) - ((((bl line).drop (k' + 1)).length : Nat) + 1) = k' := by rw [hdl]; omega
                          rw [hdk, hb, q1]
                          rfl)
                        clear HWI HBD
                        go_wp2
                        refine bodyPost_ret (v := .tuple #[.agg #[.string ⟨#[]⟩, .bool false, .int .i64 k', .int .i64 0], .bool true, .bool false]) (by simp [results, Tryz.results26, go_sem]) rfl ⟨?_, (Below.refl _ _).alloc (Nat.le_refl _) _⟩
                        rw [HE.out]

                      · have v4 : decide (126 < (d.toNat : Int)) = false := by simp; omega
                        have HWI2 : Hid (WInv line k' (e + 1)) := Lib.hid (HWI.out.step hke hlt2 (by rw [hdd]; exact e32) (by rw [hdd]; exact e61))
                        have HBD2 : Hid ((tw ((bl line).drop k')).any bad33 = (tw ((bl line).drop (e + 1))).any bad33) := Lib.hid (by
                          rw [HBD.out, hde, tw_cons e32 e61, List.any_cons]
                          unfold bad33
                          simp [e33, e126])
                        clear hde e32 e61 e33 e126 HWI HBD
                        go_wp2
                        go_round
                        case rel => exact ⟨e + 1, by omega, by omega, by go_num, HWI2, HBD2⟩
                        case measure => simp [intOf]; omega
              · obtain rfl : e = line.size := by omega
                have hlz2 : ¬ line.size < line.size := by omega
                have HTW : Hid (tw ((bl line).drop line.size) = [] ∧ dw ((bl line).drop line.size) = (bl line).drop line.size) := Lib.hid (by rw [drop_end line line.size (Nat.le_refl _)]; exact ⟨rfl, rfl⟩)
                have HE : Hid (rnVal (rnext line.size r) = .tuple #[.agg #[.string (line.extract k' line.size), .bool false, .int .i64 k', .int .i64 line.size], .bool true, .bool true]) := Lib.hid (by
                  have hw := HWI.out
                  unfold WInv at hw
                  have hb := HBD.out
                  rw [HTW.out.1] at hb hw
                  rw [HTW.out.2, List.append_nil] at hw
                  have hdk : c :: (bl line).drop (k' + 1) = (bl line).drop k' := HDK.out
                  unfold rnext
                  rw [HSK.out]
                  simp only [if_neg H6134.out.1, ne_eq, H6134.out.2, not_false_eq_true, if_true]
                  rw [hdk, hb]
                  simp only [List.any_nil, Bool.false_eq_true, if_false]
                  have q1 : (line.size : Int) - ((((bl line).drop (k' + 1)).length : Nat) + 1) = k' := by rw [hdl]; omega
                  have q2 : (line.size : Int) - ((((bl line).drop line.size).length : Nat) : Int) = line.size := by rw [drop_len]; omega
                  rw [hw.1, hw.2, q1, q2]
                  unfold rnVal
                  simp only
                  rw [mkS_bl])
                have hd1 : (k' : Int) ≤ (line.size : Int) := by omega
                have hd2 : (line.size : Int) ≤ (line.size : Int) := by omega
                clear HWI HBD
                go_wp2
                refine bodyPost_ret (v := .tuple #[.agg #[.string (line.extract k' line.size), .bool false, .int .i64 k', .int .i64 line.size], .bool true, .bool true]) (by simp [results, Tryz.results26, go_sem]) rfl ⟨?_, (Below.refl _ _).alloc (Nat.le_refl _) _⟩
                rw [HE.out]
    · obtain rfl : k' = line.size := by omega
      have hlz : ¬ line.size < line.size := by omega
      have hne : ((line.size : Int) == (line.size : Int)) = true := by simp
      have HE : Hid (rnext line.size r = ⟨[], false, 0, 0, false, true, []⟩) := Lib.hid (by
        unfold rnext
        rw [HS.out, drop_end line line.size (Nat.le_refl _)]
        rfl)
      clear HS
      go_wp2
      refine bodyPost_ret (v := .tuple #[.agg #[.string ⟨#[]⟩, .bool false, .int .i64 0, .int .i64 0], .bool false, .bool true]) (by simp [results, Tryz.results26, go_sem]) rfl ⟨?_, (Below.refl _ _).alloc (Nat.le_refl _) _⟩
      rw [HE.out]
      rfl
end Go.Proofs.YtojppincaalibaaGreatDoor
