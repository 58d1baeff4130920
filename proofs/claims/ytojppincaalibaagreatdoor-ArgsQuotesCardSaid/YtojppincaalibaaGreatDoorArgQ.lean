/- The walks of args.quoted and args.next. -/
import Derived.Test.YtojppincaalibaaGreatDoorBld
import Derived.Test.YtojppincaalibaaGreatDoorArgP
import Derived.Test.YtojppincaalibaaGreatDoorShelf
import Derived.Outline
import Derived.Lib.Hide
set_option linter.unusedVariables false
set_option linter.unusedSimpArgs false
set_option maxRecDepth 100000
namespace Go.Proofs.YtojppincaalibaaGreatDoor
open Go.Shelf Go.RowKit

set_option maxHeartbeats 4000000 in
theorem quoted_calls (s : ByteArray) (at_ : Nat) (w : World) (h : at_ < s.size) (hs : s.size ≤ 1000000) :
    Calls Tryz.prog 85 #[.string s, .int .i64 at_] w fun e w' => e = .returned (.tuple #[.string (quotedR s (at_ + 1)).1, .int .i64 (quotedR s (at_ + 1)).2]) ∧ Below w.heap.size w w' := by
  go_enter Tryz.func85, Tryz.ntmps85
  go_wp2
  go_loopw [7, 8, 9] (fun i _ _ wr => ∃ (k : Nat) (acc : Bs), i = .int .i64 k ∧ k ≤ s.size + 1 ∧ Lib.IsBuilderF 105 5 w.heap.size w.heap.size (Lib.byteCells acc) wr ∧ Below w.heap.size w wr ∧ QInv s (at_ + 1) k acc ∧ acc.length ≤ k) (fun i _ _ _ => s.size + 1 - (intOf i).toNat)
  case atStart =>
    exact ⟨at_ + 1, [], by go_num, by omega, Lib.IsBuilderF.of (Lib.fresh_isBuilder 105 5 w), (Below.refl _ w).alloc (Nat.le_refl _) _, QInv.start _ _, by simp⟩
  case round =>
    obtain ⟨k, acc, rfl, hk, hI, hb, hq, hl⟩ := hrel
    have hbz := hb.size
    by_cases hlt : k < s.size
    · obtain ⟨c, hc⟩ : ∃ c, s[k]'hlt = c := ⟨_, rfl⟩
      by_cases hlt2 : k + 1 < s.size
      · obtain ⟨d, hd⟩ : ∃ d, s[k + 1]'hlt2 = d := ⟨_, rfl⟩
        have QA := Lib.hid (qt_at s k c d hlt hlt2 hc hd)
        by_cases h34 : c = 34
        · have t34 := beq_t c 34 34 rfl h34
          by_cases hd3 : d = 0 ∨ d = 32 ∨ d = 61
          · have HD := Lib.hid (hq.done (r := (bl s).drop (k + 1)) (by rw [QA.out, if_pos h34, if_pos hd3]))
            rw [drop_len] at HD
            rcases hd3 with e | e | e
            · have u0 := beq_t d 0 0 rfl e
              go_wp2_with (go_at_call 61; refine (Tryz.Builder_String_any_k w.heap.size w.heap.size acc _ hI (by omega)).mono ?_)
              rintro e W1 ⟨rfl, _, b1, _⟩
              go_wp2
              go_ret2
              rw [HD.out]
              exact ⟨by simp [mkS]; omega, hb.trans b1⟩
            · have u0 := beq_f d 0 0 rfl (by rw [e]; decide)
              have u1 := beq_t d 32 32 rfl e
              go_wp2_with (go_at_call 61; refine (Tryz.Builder_String_any_k w.heap.size w.heap.size acc _ hI (by omega)).mono ?_)
              rintro e W1 ⟨rfl, _, b1, _⟩
              go_wp2
              go_ret2
              rw [HD.out]
              exact ⟨by simp [mkS]; omega, hb.trans b1⟩
            · have u0 := beq_f d 0 0 rfl (by rw [e]; decide)
              have u1 := beq_f d 32 32 rfl (by rw [e]; decide)
              have u2 := beq_t d 61 61 rfl e
              go_wp2_with (go_at_call 61; refine (Tryz.Builder_String_any_k w.heap.size w.heap.size acc _ hI (by omega)).mono ?_)
              rintro e W1 ⟨rfl, _, b1, _⟩
              go_wp2
              go_ret2
              rw [HD.out]
              exact ⟨by simp [mkS]; omega, hb.trans b1⟩
          · have HD := Lib.hid (hq.bad (by rw [QA.out, if_pos h34, if_neg hd3]))
            have u0 := beq_f d 0 0 rfl (fun e => hd3 (.inl e))
            have u1 := beq_f d 32 32 rfl (fun e => hd3 (.inr (.inl e)))
            have u2 := beq_f d 61 61 rfl (fun e => hd3 (.inr (.inr e)))
            go_wp2
            go_ret2
            rw [HD.out]
            exact ⟨rfl, hb⟩
        · have t34 := beq_f c 34 34 rfl h34
          by_cases h42 : c = 42
          · have t42 := beq_t c 42 42 rfl h42
            by_cases hd34 : d = 34
            · have HQ := Lib.hid (hq.step (x := d) (k' := k + 2) (by rw [QA.out, if_neg h34, if_pos ⟨h42, .inl hd34⟩]))
              have u0 := beq_t d 34 34 rfl hd34
              clear hq hd34 h42 h34
              go_wp2_with (go_at_call 107; refine (writeByte_k w.heap.size w.heap.size _ (d.toNat) _ hI (by rw [Lib.byteCells_length]; omega) (by omega)).mono ?_)
              rintro e W1 ⟨rfl, h1, b1, _⟩
              go_wp2
              go_roundw
              case rel => exact ⟨k + 2, acc ++ [d], by go_num, by omega, by rw [Lib.byteCells_append]; exact h1, hb.trans b1, HQ.out, by simp; omega⟩
              case measure => simp [intOf]; omega
            · have u0 := beq_f d 34 34 rfl hd34
              by_cases hd42 : d = 42
              · have HQ := Lib.hid (hq.step (x := d) (k' := k + 2) (by rw [QA.out, if_neg h34, if_pos ⟨h42, .inr hd42⟩]))
                have u1 := beq_t d 42 42 rfl hd42
                clear hq hd34 hd42 h42 h34
                go_wp2_with (go_at_call 107; refine (writeByte_k w.heap.size w.heap.size _ (d.toNat) _ hI (by rw [Lib.byteCells_length]; omega) (by omega)).mono ?_)
                rintro e W1 ⟨rfl, h1, b1, _⟩
                go_wp2
                go_roundw
                case rel => exact ⟨k + 2, acc ++ [d], by go_num, by omega, by rw [Lib.byteCells_append]; exact h1, hb.trans b1, HQ.out, by simp; omega⟩
                case measure => simp [intOf]; omega
              · have u1 := beq_f d 42 42 rfl hd42
                have hno : ¬ (c = 42 ∧ (d = 34 ∨ d = 42)) := fun h => h.2.elim hd34 hd42
                by_cases hd110 : d = 110
                · have HQ := Lib.hid (hq.step (x := 10) (k' := k + 2) (by rw [QA.out, if_neg h34, if_neg hno, if_pos ⟨h42, hd110⟩]))
                  have u2 := beq_t d 110 110 rfl hd110
                  clear hq hd34 hd42 h42 h34 hd110 hno
                  go_wp2_with (go_at_call 107; refine (writeByte_k w.heap.size w.heap.size _ (10) _ hI (by rw [Lib.byteCells_length]; omega) (by omega)).mono ?_)
                  rintro e W1 ⟨rfl, h1, b1, _⟩
                  go_wp2
                  go_roundw
                  case rel => exact ⟨k + 2, acc ++ [10], by go_num, by omega, by rw [Lib.byteCells_append]; exact h1, hb.trans b1, HQ.out, by simp; omega⟩
                  case measure => simp [intOf]; omega
                · have HQ := Lib.hid (hq.step (x := c) (k' := k + 1) (by rw [QA.out, if_neg h34, if_neg hno, if_neg (fun h => hd110 h.2)]))
                  have u2 := beq_f d 110 110 rfl hd110
                  clear hq hd34 hd42 h42 h34 hd110 hno
                  go_wp2_with (go_at_call 107; refine (writeByte_k w.heap.size w.heap.size _ (c.toNat) _ hI (by rw [Lib.byteCells_length]; omega) (by omega)).mono ?_)
                  rintro e W1 ⟨rfl, h1, b1, _⟩
                  go_wp2
                  go_roundw
                  case rel => exact ⟨k + 1, acc ++ [c], by go_num, by omega, by rw [Lib.byteCells_append]; exact h1, hb.trans b1, HQ.out, by simp; omega⟩
                  case measure => simp [intOf]; omega
          · have t42 := beq_f c 42 42 rfl h42
            have HQ := Lib.hid (hq.step (x := c) (k' := k + 1) (by rw [QA.out, if_neg h34, if_neg (fun h => h42 h.1), if_neg (fun h => h42 h.1)]))
            clear hq h42 h34
            go_wp2_with (go_at_call 107; refine (writeByte_k w.heap.size w.heap.size _ (c.toNat) _ hI (by rw [Lib.byteCells_length]; omega) (by omega)).mono ?_)
            rintro e W1 ⟨rfl, h1, b1, _⟩
            go_wp2
            go_roundw
            case rel => exact ⟨k + 1, acc ++ [c], by go_num, by omega, by rw [Lib.byteCells_append]; exact h1, hb.trans b1, HQ.out, by simp; omega⟩
            case measure => simp [intOf]; omega
      · have QA := Lib.hid (qt_last s k c hlt hlt2 hc)
        have hke : (k : Int) + 1 = s.size := by omega
        by_cases h34 : c = 34
        · have t34 := beq_t c 34 34 rfl h34
          have HD := Lib.hid (hq.done (r := []) (by rw [QA.out, if_pos h34]))
          clear hq h34 hke
          go_wp2_with (go_at_call 61; refine (Tryz.Builder_String_any_k w.heap.size w.heap.size acc _ hI (by omega)).mono ?_)
          rintro e W1 ⟨rfl, _, b1, _⟩
          go_wp2
          go_ret2
          rw [HD.out]
          exact ⟨by simp [mkS]; omega, hb.trans b1⟩
        · have t34 := beq_f c 34 34 rfl h34
          have HQ := Lib.hid (hq.step (x := c) (k' := k + 1) (by rw [QA.out, if_neg h34, qt_nil s (k + 1) hlt2]; rfl))
          clear hq h34 hke
          by_cases h42 : c = 42
          · have t42 := beq_t c 42 42 rfl h42
            clear h42
            go_wp2_with (go_at_call 107; refine (writeByte_k w.heap.size w.heap.size _ (c.toNat) _ hI (by rw [Lib.byteCells_length]; omega) (by omega)).mono ?_)
            rintro e W1 ⟨rfl, h1, b1, _⟩
            go_wp2
            go_roundw
            case rel => exact ⟨k + 1, acc ++ [c], by go_num, by omega, by rw [Lib.byteCells_append]; exact h1, hb.trans b1, HQ.out, by simp; omega⟩
            case measure => simp [intOf]; omega
          · have t42 := beq_f c 42 42 rfl h42
            clear h42
            go_wp2_with (go_at_call 107; refine (writeByte_k w.heap.size w.heap.size _ (c.toNat) _ hI (by rw [Lib.byteCells_length]; omega) (by omega)).mono ?_)
            rintro e W1 ⟨rfl, h1, b1, _⟩
            go_wp2
            go_roundw
            case rel => exact ⟨k + 1, acc ++ [c], by go_num, by omega, by rw [Lib.byteCells_append]; exact h1, hb.trans b1, HQ.out, by simp; omega⟩
            case measure => simp [intOf]; omega
    · go_wp2
      go_ret2
      rw [hq.bad (qt_nil s k hlt)]
      exact ⟨rfl, hb⟩

def nextVal (r : NR) : Value := .tuple #[.agg #[.string r.s, .int .i64 r.at_, .bool r.q], .int .i64 r.fin]

set_option maxHeartbeats 4000000 in
theorem next_calls (s : ByteArray) (at_ : Nat) (w : World) (h : at_ ≤ s.size) (hs : s.size ≤ 1000000) :
    Calls Tryz.prog 45 #[.string s, .int .i64 at_] w fun e w' => e = .returned (nextVal (nextR s at_)) ∧ Below w.heap.size w w' := by
  go_enter Tryz.func45, Tryz.ntmps45
  go_wp2
  go_loop [1] (fun i => ∃ k : Nat, i = .int .i64 k ∧ k ≤ s.size ∧ SInv s at_ k) (fun i => s.size - (intOf i).toNat)
  case atStart => exact ⟨at_, rfl, h, rfl⟩
  case round =>
    obtain ⟨k, rfl, hk, hi⟩ := hrel
    by_cases hlt : k < s.size
    · obtain ⟨c, hc⟩ : ∃ c, s[k]'hlt = c := ⟨_, rfl⟩
      by_cases h32 : c = 32
      · have t := beq_t c 32 32 rfl h32
        have HI := Lib.hid (hi.step hlt (by rw [hc, h32]))
        clear h32 hi
        go_wp2
        go_round
        case rel => exact ⟨k + 1, by go_num, by omega, HI.out⟩
        case measure => simp [intOf]; omega
      · have t := beq_f c 32 32 rfl h32
        have hke : ((k : Int) == s.size) = false := by simp; omega
        by_cases h61 : c = 61
        · have t1 := beq_t c 61 61 rfl h61
          have HN := Lib.hid (nextR_sign hi hlt (by rw [hc, h61]))
          clear h61 hi h32
          go_wp2
          refine bodyPost_ret (v := nextVal ⟨⟨#[61]⟩, (k : Int), false, (k : Int) + 1⟩) (by simp [results, Tryz.results45, go_sem, nextVal]) rfl ⟨by rw [HN.out], ?_⟩
          exact ((Below.refl _ _).alloc (Nat.le_refl _) _)
        · have t1 := beq_f c 61 61 rfl h61
          by_cases h34 : c = 34
          · have t2 := beq_t c 34 34 rfl h34
            have HN := Lib.hid (nextR_quote hi hlt (by rw [hc, h34]))
            clear h61 hi h32 h34
            go_wp2_with (go_at_call 85; refine (quoted_calls s k _ hlt hs).mono ?_)
            rintro e W1 rfl b1
            have hb1 := b1.size
            have hc1 := b1.cell (p := ⟨w.heap.size, 0, none⟩) (by simp)
            have hc2 := b1.cell (p := ⟨w.heap.size, 1, none⟩) (by simp)
            have hc3 := b1.cell (p := ⟨w.heap.size, 2, none⟩) (by simp)
            have hf1 := b1.frozen (p := ⟨w.heap.size, 0, none⟩) (by simp)
            have hf2 := b1.frozen (p := ⟨w.heap.size, 1, none⟩) (by simp)
            have hf3 := b1.frozen (p := ⟨w.heap.size, 2, none⟩) (by simp)
            simp [go_sem] at hc1 hc2 hc3 hf1 hf2 hf3
            go_wp2
            refine bodyPost_ret (v := nextVal ⟨(quotedR s (k + 1)).1, (k : Int), true, (quotedR s (k + 1)).2⟩) (by simp [results, Tryz.results45, go_sem, nextVal, hb1, hc1, hc2, hc3]) rfl ⟨by rw [HN.out], ?_⟩
            have hb0 := ((Below.refl w.heap.size w).alloc (Nat.le_refl _) (.cells #[.string ⟨#[]⟩, .int .i64 0, .bool false] 58)).trans (b1.mono (by simp))
            exact ((hb0.setCell (p := ⟨w.heap.size, 0, none⟩) (Nat.le_refl _) _).setCell (p := ⟨w.heap.size, 1, none⟩) (Nat.le_refl _) _).setCell (p := ⟨w.heap.size, 2, none⟩) (Nat.le_refl _) _
          · have t2 := beq_f c 34 34 rfl h34
            go_wp2
            go_loop [8] (fun i => ∃ e : Nat, i = .int .i64 e ∧ k ≤ e ∧ e ≤ s.size ∧ WInv s k e) (fun i => s.size - (intOf i).toNat)
            case atStart => exact ⟨k, rfl, Nat.le_refl _, hk, WInv.start s k hk⟩
            case round =>
              obtain ⟨e, rfl, hke', hes, hw⟩ := hrel
              by_cases hle : e < s.size
              · obtain ⟨d, hd⟩ : ∃ d, s[e]'hle = d := ⟨_, rfl⟩
                by_cases hd32 : d = 32
                · have u1 := bne_f d 32 32 rfl hd32
                  have HN := Lib.hid (nextR_plain hi hlt (by rw [hc]; exact h32) (by rw [hc]; exact h61) (by rw [hc]; exact h34) hw hke' hes (fun _ => .inl (by rw [hd, hd32])))
                  go_wp2
                  refine bodyPost_ret (v := nextVal ⟨s.extract k e, (k : Int), false, (e : Int)⟩) (by simp [results, Tryz.results45, go_sem, nextVal]) rfl ⟨by rw [HN.out], ?_⟩
                  exact ((Below.refl _ _).alloc (Nat.le_refl _) _)
                · have u1 := bne_t d 32 32 rfl hd32
                  by_cases hd61 : d = 61
                  · have u2 := bne_f d 61 61 rfl hd61
                    have HN := Lib.hid (nextR_plain hi hlt (by rw [hc]; exact h32) (by rw [hc]; exact h61) (by rw [hc]; exact h34) hw hke' hes (fun _ => .inr (by rw [hd, hd61])))
                    go_wp2
                    refine bodyPost_ret (v := nextVal ⟨s.extract k e, (k : Int), false, (e : Int)⟩) (by simp [results, Tryz.results45, go_sem, nextVal]) rfl ⟨by rw [HN.out], ?_⟩
                    exact ((Below.refl _ _).alloc (Nat.le_refl _) _)
                  · have u2 := bne_t d 61 61 rfl hd61
                    have HW := Lib.hid (hw.step hke' hle (by rw [hd]; exact hd32) (by rw [hd]; exact hd61))
                    clear hd61 hd32 hi
                    go_wp2
                    go_round
                    case rel => exact ⟨e + 1, by go_num, by omega, by omega, HW.out⟩
                    case measure => simp [intOf]; omega
              · have HN := Lib.hid (nextR_plain hi hlt (by rw [hc]; exact h32) (by rw [hc]; exact h61) (by rw [hc]; exact h34) hw hke' hes (fun h => absurd h hle))
                go_wp2
                refine bodyPost_ret (v := nextVal ⟨s.extract k e, (k : Int), false, (e : Int)⟩) (by simp [results, Tryz.results45, go_sem, nextVal]) rfl ⟨by rw [HN.out], ?_⟩
                exact ((Below.refl _ _).alloc (Nat.le_refl _) _)
    · have HN := Lib.hid (nextR_nil hi (by omega))
      have hke : ((k : Int) == s.size) = true := by simp; omega
      clear hi
      go_wp2
      refine bodyPost_ret (v := nextVal ⟨⟨#[]⟩, 0, false, 0⟩) (by simp [results, Tryz.results45, go_sem, nextVal]) rfl ⟨by rw [HN.out], ?_⟩
      exact ((Below.refl _ _).alloc (Nat.le_refl _) _)
end Go.Proofs.YtojppincaalibaaGreatDoor
