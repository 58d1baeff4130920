/- The walks of the reference: Words. -/
import Derived.Test.YtojppincaalibaaGreatDoorRfD
set_option linter.unusedVariables false
set_option linter.unusedSimpArgs false
set_option maxRecDepth 100000
namespace Go.Proofs.YtojppincaalibaaGreatDoor
open Go.Shelf Go.RowKit

def pS (x : List (Bs × Bool)) : List Value := x.map fun y => Value.string (mkS y.1)
def pQ (x : List (Bs × Bool)) : List Value := x.map fun y => Value.bool y.2
def rwPost (w : World) (r : List (Bs × Bool) × Int) (e : Ending) (w' : World) : Prop :=
  ∃ v u, e = .returned (.tuple #[v, u, .int .i64 r.2]) ∧ w'.ownsRow w.heap.size 9 1 v r.1.length (pS r.1) ∧ w'.ownsRow w.heap.size 4 1 u r.1.length (pQ r.1) ∧ Below w.heap.size w w'

theorem rnext_rest {L : Nat} {r : Bs} (hL : r.length ≤ L) (hg : (rnext L r).good = true) (hm : (rnext L r).more = true) : (rnext L r).rest <:+ r ∧ (rnext L r).rest.length < r.length ∧ (rnext L r).tt = (L : Int) - (rnext L r).rest.length := by
  have hs := skip_suffix r
  revert hg hm
  unfold rnext
  cases h : skipB r with
  | nil => intro _ hm; cases hm
  | cons c t =>
    have hne := skip_head r c t h
    rw [h] at hs
    have hsl := hs.length_le
    rw [List.length_cons] at hsl
    have ht : t <:+ r := (List.suffix_cons c t).trans hs
    simp only
    split
    · intro _ _; exact ⟨ht, by show t.length < _; omega, rfl⟩
    · rename_i h61
      split
      · split
        · intro hg; cases hg
        · intro _ _
          have hd : dw (c :: t) <:+ t := by rw [dw_cons hne h61]; exact List.dropWhile_suffix _
          exact ⟨hd.trans ht, by have := hd.length_le; show (dw (c :: t)).length < _; omega, rfl⟩
      · split
        · intro hg; cases hg
        · rename_i p hp
          intro _ _
          exact ⟨(rq_suffix t [] p hp).trans ht, by have := rq_len t [] p hp; show p.2.length < _; omega, rfl⟩

theorem box_far {w3 w4 : World} {b base sz n : Nat} {cs : Array Value} {t t' : TypeId} {fz : Nat × Nat} {u : Value} {xs : List Value} {o : Obj} (hb : w3.heap[b]? = some (.cells cs t fz)) (ho : w3.ownsRow base t' sz u n xs) (ht : t ≠ t') (hg : (w3.alloc o).grownBy w4 u.ownBlock) : w4.heap[b]? = some (.cells cs t fz) := by
  have hl := (Array.getElem?_eq_some_iff.1 hb).1
  rw [hg.block b (by simp; omega) (fun e => ?_), Lib.alloc_old _ _ _ hl]
  · exact hb
  · obtain ⟨_, cur, hc⟩ := own_block ho e.symm
    rw [hb] at hc
    cases hc
    exact ht rfl

set_option maxHeartbeats 8000000 in
theorem rwords_calls (line : ByteArray) (hl : line.size ≤ 100000) (w : World) :
    Calls Tryz.prog 9 #[.string line] w fun e w' => rwPost w (refWordsR (bl line)) e w' := by
  obtain ⟨i0, hi0, hz0, hz1, hz2⟩ := info_parts infoStrW
  obtain ⟨j0, hj0, hy0, hy1, hy2⟩ := info_parts infoBoolW
  by_cases h1000 : 1000 < line.size
  · have hz : decide (1000 < (line.size : Int)) = true := by simp; omega
    have HR : Hid (refWordsR (bl line) = ([], 2)) := Lib.hid (by unfold refWordsR; rw [bl_len, if_pos h1000])
    go_enter Tryz.func9, Tryz.ntmps9
    go_wp2
    go_ret3
    rw [HR.out]
    exact ⟨_, _, rfl, World.ownsRow_nil _ _ _ _, World.ownsRow_nil _ _ _ _, Below.refl _ _⟩
  · have hz : decide (1000 < (line.size : Int)) = false := by simp; omega
    have HR : Hid (refWordsR (bl line) = match rwGo line.size (line.size + 1) (bl line) with | none => ([], 250) | some x => (x, 0)) := Lib.hid (by unfold refWordsR; rw [bl_len, if_neg h1000]; rfl)
    go_enter Tryz.func9, Tryz.ntmps9
    go_wp2
    go_loopw [5, 6, 7] (fun v u i wr => ∃ (k f : Nat) (r : Bs) (acc : List (Bs × Bool)) (v0 u0 : Value), k ≤ line.size ∧ i = .int .i64 k ∧ v = v0 ∧ u = u0 ∧ Hid (Suf line r) ∧ Hid (line.size - r.length = k) ∧ r.length < f ∧ acc.length ≤ k ∧ Hid (wr.ownsRow w.heap.size 9 1 v0 acc.length (pS acc)) ∧ Hid (wr.ownsRow w.heap.size 4 1 u0 acc.length (pQ acc)) ∧ Below w.heap.size w wr ∧ Hid (rwGo line.size (line.size + 1) (bl line) = (rwGo line.size f r).map (acc ++ ·))) (fun _ _ i _ => (line.size - intOf i).toNat)
    case atStart => exact ⟨0, line.size + 1, bl line, [], .slice none 0 0, .slice none 0 0, by omega, rfl, rfl, rfl, Lib.hid ⟨by rw [bl_len]; exact Nat.le_refl _, by rw [bl_len, Nat.sub_self]; rfl⟩, Lib.hid (by rw [bl_len]; omega), by rw [bl_len]; omega, by simp, Lib.hid (World.ownsRow_nil _ _ _ _), Lib.hid (World.ownsRow_nil _ _ _ _), Below.refl _ _, Lib.hid (by cases rwGo line.size (line.size + 1) (bl line) <;> simp)⟩
    case round =>
      obtain ⟨k, f, r, acc, v, u, hk, rfl, hv, hu, HSF, HK, hf, hacc, HO, HU, hB, HG⟩ := hrel
      obtain rfl := hv.symm
      obtain rfl := hu.symm
      obtain ⟨f, rfl⟩ : ∃ g, f = g + 1 := ⟨f - 1, by omega⟩
      have hsz := hB.size
      have HNX := Lib.hid (rnext_calls line r k HSF.out HK.out (by omega) wr)
      have hst : rwGo line.size (f + 1) r = if !(rnext line.size r).good then none else if !(rnext line.size r).more then some [] else (rwGo line.size f (rnext line.size r).rest).map (((rnext line.size r).s, (rnext line.size r).q) :: ·) := rfl
      have hrest := rnext_rest (L := line.size) (r := r) HSF.out.1
      obtain ⟨x, hx⟩ : ∃ x, rnext line.size r = x := ⟨_, rfl⟩
      rw [hx] at HNX hst hrest
      obtain ⟨xs, xq, xf, xt, xm, xg, xr⟩ := x
      simp only at hst hrest
      unfold rnVal at HNX
      have HST := Lib.hid hst
      have HREST := Lib.hid hrest
      clear hst hrest hx
      cases xg with
      | false =>
        have HE : Hid (refWordsR (bl line) = ([], 250)) := Lib.hid (by rw [HR.out, HG.out, HST.out]; rfl)
        go_wp2_with fail
        refine HNX.out.mono ?_
        rintro e w2 ⟨rfl, b2⟩
        go_wp2
        go_ret3
        rw [HE.out]
        exact ⟨_, _, rfl, World.ownsRow_nil _ _ _ _, World.ownsRow_nil _ _ _ _, (hB.trans (b2.mono hsz)).alloc (by have := b2.size; omega) _⟩
      | true =>
        cases xm with
        | false =>
          have HE : Hid (refWordsR (bl line) = (acc, 0)) := Lib.hid (by rw [HR.out, HG.out, HST.out]; simp)
          go_wp2_with fail
          refine HNX.out.mono ?_
          rintro e w2 ⟨rfl, b2⟩
          go_wp2
          go_ret3
          rw [HE.out]
          refine ⟨_, _, rfl, ?_, ?_, (hB.trans (b2.mono hsz)).alloc (by have := b2.size; omega) _⟩
          · exact (own_below HO.out b2).alloc _
          · exact (own_below HU.out b2).alloc _
        | true =>
          obtain ⟨hsf, hlen, htt⟩ := HREST.out rfl rfl
          have hSF2 := HSF.out.of_suffix hsf
          obtain ⟨q3, hq3⟩ : ∃ q3, line.size - xr.length = q3 := ⟨_, rfl⟩
          have h1 := HSF.out.1
          have h2 := hSF2.1
          have hk2 := HK.out
          obtain rfl : xt = (q3 : Int) := by omega
          have HG2 : Hid (rwGo line.size (line.size + 1) (bl line) = (rwGo line.size f xr).map ((acc ++ [(xs, xq)]) ++ ·)) := Lib.hid (by
            rw [HG.out, HST.out]
            simp [Function.comp_def])
          have hql : k < q3 := by omega
          have hqs : q3 ≤ line.size := by omega
          have HQ3 := Lib.hid hq3
          have HSF2 := Lib.hid hSF2
          clear htt hq3 hk2 hSF2
          go_wp2_with fail
          refine HNX.out.mono ?_
          rintro e w2 ⟨rfl, b2⟩
          have hb2 := b2.size
          have HBX : Hid (((w2.alloc (.cells #[.string (mkS xs), .bool xq, .int .i64 xf, .int .i64 q3] 60)).alloc (.cells #[.string (mkS xs)] 9)).heap[w2.heap.size + 1]? = some (.cells #[.string (mkS xs)] 9 (0, 0))) := Lib.hid (by
            have := Go.heap_alloc_new (w2.alloc (.cells #[.string (mkS xs), .bool xq, .int .i64 xf, .int .i64 q3] 60)) (.cells #[.string (mkS xs)] 9)
            rw [World.size_alloc] at this
            exact this)
          have HOb := Lib.hid (((own_below HO.out b2).alloc (.cells #[.string (mkS xs), .bool xq, .int .i64 xf, .int .i64 q3] 60)).alloc (.cells #[.string (mkS xs)] 9))
          have HUb := Lib.hid (((own_below HU.out b2).alloc (.cells #[.string (mkS xs), .bool xq, .int .i64 xf, .int .i64 q3] 60)).alloc (.cells #[.string (mkS xs)] 9))
          have HBb : Hid (Below w.heap.size w ((w2.alloc (.cells #[.string (mkS xs), .bool xq, .int .i64 xf, .int .i64 q3] 60)).alloc (.cells #[.string (mkS xs)] 9))) := Lib.hid (((hB.trans (b2.mono hsz)).alloc (by omega) _).alloc (by simp; omega) _)
          have HN : Hid (∀ w3 : World, ((w2.alloc (.cells #[.string (mkS xs), .bool xq, .int .i64 xf, .int .i64 q3] 60)).alloc (.cells #[.string (mkS xs)] 9)).grownBy w3 v.ownBlock → w3.cell? ⟨w2.heap.size, 1, none⟩ = some (.bool xq) ∧ w3.cell? ⟨w2.heap.size, 3, none⟩ = some (.int .i64 q3) ∧ Hid (w3.ownsRow w.heap.size 4 1 u acc.length (pQ acc)) ∧ w2.heap.size + 1 < w3.heap.size ∧ Hid (Below w.heap.size w w3) ∧ Hid (w3.heap[w2.heap.size]? = some (.cells #[.string (mkS xs), .bool xq, .int .i64 xf, .int .i64 q3] 60 (0, 0)))) := Lib.hid (fun w3 hg => by
            have hbx : ((w2.alloc (.cells #[.string (mkS xs), .bool xq, .int .i64 xf, .int .i64 q3] 60)).alloc (.cells #[.string (mkS xs)] 9)).heap[w2.heap.size]? = some (.cells #[.string (mkS xs), .bool xq, .int .i64 xf, .int .i64 q3] 60 (0, 0)) := by
              rw [Lib.alloc_old _ _ _ (by simp)]
              exact Go.heap_alloc_new w2 _
            have hb3 := (hg.block w2.heap.size (by simp; omega) (fun e => by
              obtain ⟨_, cur, hc⟩ := own_block HOb.out e.symm
              rw [hbx] at hc; cases hc)).trans hbx
            have hsz3 := hg.size
            refine ⟨cellOf hb3, cellOf hb3, Lib.hid (HUb.out.kept hg (rows_apart HUb.out HOb.out (by decide))), by simp at hsz3; omega, Lib.hid (HBb.out.grown hg HBb.out.size (fun j e => (own_block HOb.out e).1)), Lib.hid hb3⟩)
          go_wp2_with (first | (at_builtin; refine wpList_append_own _ rfl _ _ 23 rfl w.heap.size 9 i0 (.string ⟨#[]⟩) 1 16 Tryz.underlying23 hi0 hz0 hz1 hz2 rfl (by decide) _ _ _ rfl HOb.out ⟨w2.heap.size + 1, 0, none⟩ 1 1 [.string (mkS xs)] (by rfl) (by rfl) (World.news_of_block HBX.out) (by simp [Value.oneCell']) (by unfold maxLen; omega) (by omega) (by simp; omega) ?_; intro v' w3 hown' hgrow _; obtain ⟨m1, m3, HU3, hz3, HB3, HX3⟩ := HN.out w3 hgrow; have HV3 := Lib.hid hown'; clear hown' hgrow) | (at_builtin; refine wpList_append_own _ rfl _ _ 24 rfl w.heap.size 4 j0 (.bool false) 1 1 Tryz.underlying24 hj0 hy0 hy1 hy2 rfl (by decide) _ _ _ rfl (HU3.out.alloc _) ⟨w3.heap.size, 0, none⟩ 1 1 [.bool xq] (by rfl) (by rfl) (World.news_of_block (heap_alloc_new w3 _)) (by simp [Value.oneCell']) (by unfold maxLen; omega) (by omega) (by simp; omega) ?_; intro u' w4 hown4 hgrow4 _; have m3' : w4.cell? ⟨w2.heap.size, 3, none⟩ = some (.int .i64 q3) := cellOf (box_far HX3.out HU3.out (by decide) hgrow4); have HG4 := Lib.hid hgrow4; have HO4 := Lib.hid hown4; clear hown4 hgrow4))
          go_wp2
          have HW4 : w4.ownsRow w.heap.size 4 1 u' (acc.length + 1) (pQ acc ++ [.bool xq]) ∧ w4.ownsRow w.heap.size 9 1 v' (acc.length + 1) (pS acc ++ [.string (mkS xs)]) ∧ Below w.heap.size w w4 := ⟨HO4.out, (HV3.out.alloc _).kept HG4.out (rows_apart (HV3.out.alloc (.cells #[.bool xq] 4)) (HU3.out.alloc (.cells #[.bool xq] 4)) (by decide)), (HB3.out.alloc HB3.out.size _).grown HG4.out (by have := HB3.out.size; simp; omega) (fun j e => (own_block HU3.out e).1)⟩
          go_roundw
          case rel => exact ⟨q3, f, xr, acc ++ [(xs, xq)], v', u', hqs, rfl, by first | rfl | trivial, by first | rfl | trivial, HSF2, HQ3, by omega, by rw [List.length_append]; simp only [List.length_cons, List.length_nil]; omega, Lib.hid (by rw [List.length_append]; unfold pS; rw [List.map_append]; exact HW4.2.1), Lib.hid (by rw [List.length_append]; unfold pQ; rw [List.map_append]; exact HW4.1), HW4.2.2, HG2⟩
          case measure => simp [intOf]; omega
end Go.Proofs.YtojppincaalibaaGreatDoor
