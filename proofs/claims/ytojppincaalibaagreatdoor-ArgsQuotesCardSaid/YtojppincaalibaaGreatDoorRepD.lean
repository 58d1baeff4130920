/- The walk of strings.Replacer's build and buildOnce at the six texts. -/
import Derived.Test.YtojppincaalibaaGreatDoorRepC
import Derived.Lib.ConvBytes
import Derived.Lib.AtoiErrMem
import Derived.Laws.BytesArg
set_option linter.unusedVariables false
set_option linter.unusedSimpArgs false
set_option maxRecDepth 100000
namespace Go.Proofs.YtojppincaalibaaGreatDoor
open Go.Shelf Go.RowKit

theorem bytesCells_at (w : World) (s : ByteArray) (j : Nat) (hj : j < s.size) : (Lib.bytesWorld w 5 s).cell? ⟨w.heap.size, j, none⟩ = some (.int .u8 (s.data.toList.getD j 0).toNat) := Lib.bytesWorld_cell w 5 s j hj
theorem grownCap_ge (w : World) (n e : Nat) : n ≤ grownCap w n 0 e := by
  unfold grownCap
  simp [Question.cut]

theorem type_ne_own {W : World} {n k sz : Nat} {tr : Value} {xs : List Value} (h : W.ownsRow n 9 sz tr k xs) {g : Nat} {cells : Array Value} {fz : Nat × Nat} {t : TypeId} (ht : t ≠ 9) (hg : W.heap[g]? = some (.cells cells t fz)) : some g ≠ tr.ownBlock := by
  rcases h.2 with ⟨rfl, _⟩ | ⟨g', cap, cur, rfl, _, hh, _⟩
  · simp [Value.ownBlock]
  · intro e
    have : g = g' := by simpa [Value.ownBlock] using e
    subst this
    rw [hg] at hh
    cases hh
    exact ht rfl
theorem setCell_other_heap (w : World) (a : Addr) (v : Value) (k : Nat) (h : k ≠ a.block) : (w.setCell a v).heap[k]? = w.heap[k]? := Go.heap_setCell_other w a k v h

theorem build_round {w wr w2 : World} {n k g' cap' c : Nat} {C A B : Array Value} {tr : Value} {s : ByteArray} (hk : k < 3) (HC : wr.heap[n + 1]? = some (.cells C 201 (0, 0))) (hsz : C.size = 257)
    (hall : ∀ j, j < 256 → ∃ v, C[j]? = some v ∧ RepAt n k wr j v) (hne : tr.ownBlock ≠ some (n + 1)) (hB : Below n w wr) (hS : n + 2 ≤ wr.heap.size) (hown : wr.ownsRow n 9 1 tr k (toL k))
    (hgrow : ((wr.alloc (.cells A 5)).alloc (.cells B 9)).grownBy w2 tr.ownBlock) (hown' : w2.ownsRow n 9 1 (.slice (some ⟨g', 0, none⟩) (k + 1) cap') (k + 1) (toL (k + 1)))
    (hs : s.data.toList = [42, UInt8.ofNat (xb (ob k))]) (hc : 2 ≤ c) (hxb : (UInt8.ofNat (xb (ob k))).toNat = xb (ob k)) :
    let W := Lib.bytesWorld (w2.setCell ⟨n + 1, 256, none⟩ (.slice (some ⟨g', 0, none⟩) (k + 1) cap')) 5 s
    (W.heap[n + 1]? = some (.cells (C.setIfInBounds 256 (.slice (some ⟨g', 0, none⟩) (k + 1) cap')) 201 (0, 0))) ∧
    RB n (n + 1) (k + 1) (W.setCell ⟨n + 1, ob k, none⟩ (.slice (some ⟨w2.heap.size, 0, none⟩) 2 c)) ∧ Below n w (W.setCell ⟨n + 1, ob k, none⟩ (.slice (some ⟨w2.heap.size, 0, none⟩) 2 c)) ∧ n + 2 ≤ (W.setCell ⟨n + 1, ob k, none⟩ (.slice (some ⟨w2.heap.size, 0, none⟩) 2 c)).heap.size := by
  intro W
  have hsize2 : wr.heap.size + 2 ≤ w2.heap.size := by have := hgrow.size; simp at this; omega
  have old2 : ∀ (g : Nat) (o : Obj), wr.heap[g]? = some o → some g ≠ tr.ownBlock → w2.heap[g]? = some o := fun g o hg hn => by
    have hlt := (Array.getElem?_eq_some_iff.1 hg).1
    rw [hgrow.block g (by simp; omega) hn, Lib.alloc_old _ _ _ (by simp; omega), Lib.alloc_old _ _ _ hlt]
    exact hg
  have hb2 := old2 _ _ HC (fun e => hne e.symm)
  have hWs : W.heap.size = w2.heap.size + 1 := by
    show (Lib.bytesWorld _ _ _).heap.size = _
    rw [Lib.bytesWorld_size]; simp
  have h1 : W.heap[n + 1]? = some (.cells (C.setIfInBounds 256 (.slice (some ⟨g', 0, none⟩) (k + 1) cap')) 201 (0, 0)) := by
    show (Lib.bytesWorld _ _ _).heap[n + 1]? = _
    rw [Lib.bytesWorld_at_old _ _ _ _ (by simp; omega)]
    exact heapSet _ hb2
  have hB2 : Below n w w2 := ((hB.alloc (by omega) _).alloc (by simp; omega) _).grown hgrow (by simp; omega) (fun k e => by
    rcases hown.2 with ⟨rfl, _⟩ | ⟨g1, cap, cur, rfl, hb, _⟩
    · simp [Value.ownBlock] at e
    · have : g1 = k := by simpa [Value.ownBlock] using e
      omega)
  have hBW : Below n w W := (hB2.setCell (p := ⟨n + 1, 256, none⟩) (by show n ≤ n + 1; omega) _).trans ((Lib.bytesWorld_below _ _ _).mono (by simp; omega))
  refine ⟨h1, ?_, hBW.setCell (p := ⟨n + 1, ob k, none⟩) (by show n ≤ n + 1; omega) _, by simp; omega⟩
  obtain ⟨fz, hnew⟩ : ∃ fz, W.heap[w2.heap.size]? = some (.cells (Lib.bytesCells (w2.setCell ⟨n + 1, 256, none⟩ (.slice (some ⟨g', 0, none⟩) (k + 1) cap')) 5 s) 5 fz) := by
    have := Lib.bytesWorld_at_new (w2.setCell ⟨n + 1, 256, none⟩ (.slice (some ⟨g', 0, none⟩) (k + 1) cap')) 5 s
    rw [show (w2.setCell ⟨n + 1, 256, none⟩ (.slice (some ⟨g', 0, none⟩) (k + 1) cap')).heap.size = w2.heap.size by simp] at this
    exact ⟨_, this⟩
  have hnew' := (setCell_other_heap W ⟨n + 1, ob k, none⟩ (.slice (some ⟨w2.heap.size, 0, none⟩) 2 c) w2.heap.size (by show w2.heap.size ≠ n + 1; omega)).trans hnew
  have hci : ∀ (i : Nat) (x : UInt8), s.data.toList[i]? = some x → (Lib.bytesCells (w2.setCell ⟨n + 1, 256, none⟩ (.slice (some ⟨g', 0, none⟩) (k + 1) cap')) 5 s)[i]? = some (.int .u8 x.toNat) := fun i x hx => by
    unfold Lib.bytesCells
    have hx' : s.data[i]? = some x := by rw [← Array.getElem?_toList]; exact hx
    have hi := (Array.getElem?_eq_some_iff.1 hx').1
    rw [Array.getElem?_append_left (by simpa using hi), Array.getElem?_map, hx']
    rfl
  refine RB.step (C := C) (W := wr) hall hsz hk ?_ (heapSet _ h1) ?_ ?_ (by omega) hc hnew' ?_ ?_
  · intro g cells fz hg
    have hlt := (Array.getElem?_eq_some_iff.1 hg).1
    have hgn : g ≠ n + 1 := fun e => by
      subst e
      rw [HC] at hg
      cases hg
    rw [setCell_other_heap _ _ _ _ hgn]
    show (Lib.bytesWorld _ _ _).heap[g]? = _
    rw [Lib.bytesWorld_at_old _ _ _ _ (by simp; omega), setCell_other_heap _ _ _ _ hgn, old2 _ _ hg (type_ne_own hown (by decide) hg)]
    exact hg.symm
  · have hgr : w2.grownBy (W.setCell ⟨n + 1, ob k, none⟩ (.slice (some ⟨w2.heap.size, 0, none⟩) 2 c)) (some (n + 1)) := by
      refine ⟨rfl, rfl, rfl, by simp; omega, fun j hj hne => ?_⟩
      have hjn : j ≠ n + 1 := fun e => hne (by rw [e])
      rw [setCell_other_heap _ _ _ _ hjn]
      show (Lib.bytesWorld _ _ _).heap[j]? = _
      rw [Lib.bytesWorld_at_old _ _ _ _ (by simp; omega), setCell_other_heap _ _ _ _ hjn]
    exact hown'.kept hgr (.inr (fun e => type_ne_own hown' (t := 201) (by decide) hb2 e.symm))
  · exact fun e => type_ne_own hown' (t := 201) (by decide) hb2 e.symm
  · have := hci 0 42 (by rw [hs]; rfl)
    exact this
  · have := hci 1 (UInt8.ofNat (xb (ob k))) (by rw [hs]; rfl)
    rw [hxb] at this
    exact this

theorem one_cell (w : World) (v : Int) : ∀ i, i < 1 → (w.alloc (.cells #[.int .u8 v] 5)).cell? ⟨w.heap.size, 0 + i, none⟩ = some (.int .u8 ([v].getD i 0)) := by
  intro i hi
  obtain rfl : i = 0 := by omega
  simp [go_sem]

set_option maxHeartbeats 4000000 in
theorem build_calls (b g cap : Nat) (w : World) (hb : w.cell? ⟨b, 4, none⟩ = some (.slice (some ⟨g, 0, none⟩) 6 cap))
    (h0 : w.cell? ⟨g, 0, none⟩ = some (.string ⟨#[42]⟩)) (h1 : w.cell? ⟨g, 1, none⟩ = some (.string ⟨#[42, 42]⟩)) (h2 : w.cell? ⟨g, 2, none⟩ = some (.string ⟨#[34]⟩)) (h3 : w.cell? ⟨g, 3, none⟩ = some (.string ⟨#[42, 34]⟩)) (h4 : w.cell? ⟨g, 4, none⟩ = some (.string ⟨#[10]⟩)) (h5 : w.cell? ⟨g, 5, none⟩ = some (.string ⟨#[42, 110]⟩)) :
    Calls Tryz.prog 126 #[.pointer (some ⟨b, 0, none⟩)] w fun e w' => e = .returned (.iface 202 (.pointer (some ⟨w.heap.size + 1, 0, none⟩))) ∧ RB w.heap.size (w.heap.size + 1) 3 w' ∧ Below w.heap.size w w' := by
  obtain ⟨i0, hi, hz0, hz1, hz2⟩ := info_parts infoStr
  have hmk : ∀ w, (Go.Instr.makeSlice 23 (.int .i64 0) (.int .i64 3)).run Tryz.prog w = .ok (.slice (some ⟨w.heap.size, 0, none⟩) 0 3) (w.alloc (.cells #[.string ⟨#[]⟩, .string ⟨#[]⟩, .string ⟨#[]⟩] 9)) := fun _ => by kernel_rfl
  have hnl := fun (w : World) => Lib.run_eql_slice_nil_nil (P := Tryz.prog) w (t := 34) 0 0 Tryz.underlying34
  have x10 : ∀ h, ((⟨#[10]⟩ : ByteArray)[0]'h).toNat = 10 := fun _ => rfl
  have x34 : ∀ h, ((⟨#[34]⟩ : ByteArray)[0]'h).toNat = 34 := fun _ => rfl
  have x42 : ∀ h, ((⟨#[42]⟩ : ByteArray)[0]'h).toNat = 42 := fun _ => rfl
  have hgl : g < w.heap.size := World.block_lt_of_cell? w _ h0
  go_enter Tryz.func126, Tryz.ntmps126
  go_wp2
  go_rounds 4
  have hsc := run_storeCells_new (P := Tryz.prog) (w.alloc (.cells #[.string ⟨#[]⟩, .string ⟨#[]⟩, .string ⟨#[]⟩] 9)) 201 Tryz.zeroCells201 (C0 (.slice (some ⟨w.heap.size, 0, none⟩) 0 3)) (by rw [C0_size]; exact info201) (by rw [C0_size]; exact zs201_size) (C0_one _ rfl)
  rw [World.size_alloc] at hsc
  have hsc' : (Sem.run Tryz.prog (storeCells ⟨w.heap.size + 1, 0, none⟩ (Tryz.zeroCells201.toList.set 256 (.slice (some ⟨w.heap.size, 0, none⟩) 0 3)))
          ((w.alloc (Obj.cells #[.string ⟨#[]⟩, .string ⟨#[]⟩, .string ⟨#[]⟩] 9)).alloc (Obj.cells Tryz.zeroCells201 201))) = _ := hsc
  rw [hsc']
  clear hsc hsc'
  obtain ⟨W0, hW0⟩ : ∃ W0, (w.alloc (Obj.cells #[.string ⟨#[]⟩, .string ⟨#[]⟩, .string ⟨#[]⟩] 9)).alloc (Obj.cells (C0 (.slice (some ⟨w.heap.size, 0, none⟩) 0 3)) 201) = W0 := ⟨_, rfl⟩
  have HB0 : Below w.heap.size w W0 := by rw [← hW0]; exact ((Below.refl _ w).alloc (Nat.le_refl _) _).alloc (by simp) _
  have HS0 : W0.heap.size = w.heap.size + 2 := by rw [← hW0]; simp
  have HR0 : RB w.heap.size (w.heap.size + 1) 0 W0 := by
    refine ⟨C0 (.slice (some ⟨w.heap.size, 0, none⟩) 0 3), _, ?_, C0_size _, C0_hi _, ⟨rfl, .inr ⟨w.heap.size, 3, #[.string ⟨#[]⟩, .string ⟨#[]⟩, .string ⟨#[]⟩], rfl, Nat.le_refl _, ?_, by omega, by unfold maxLen; omega, rfl, rfl⟩⟩, ?_, fun j hj => ⟨_, C0_lo _ j hj, ?_⟩⟩
    · rw [← hW0]; exact Go.heap_alloc2_new w _ _
    · rw [← hW0]; exact Go.heap_alloc2_old w _ _
    · simp [Value.ownBlock]
    · unfold RepAt doneAt; simp
  rw [hW0]
  clear hW0
  simp only [Result.andThen]
  rw [Oper.upon_skip]
  go_wp2
  go_loopw [12, 13, 14] (fun i _ _ wr => ∃ k : Nat, k ≤ 3 ∧ i = .int .i64 (4 - 2 * (k : Int)) ∧ RB w.heap.size (w.heap.size + 1) k wr ∧ Below w.heap.size w wr ∧ w.heap.size + 2 ≤ wr.heap.size) (fun i _ _ _ => (intOf i + 4).toNat)
  case atStart => exact ⟨0, by omega, rfl, HR0, HB0, by omega⟩
  case round =>
    obtain ⟨k, hk, rfl, hR, hB, hS⟩ := hrel
    clear HR0 HB0 HS0
    have hR0 := hR
    obtain ⟨C, tr, hC, hsz, h256, hown, hne, hall⟩ := hR
    have c0 := hB.cell (p := ⟨g, 0, none⟩) hgl
    have c1 := hB.cell (p := ⟨g, 1, none⟩) hgl
    have c2 := hB.cell (p := ⟨g, 2, none⟩) hgl
    have c3 := hB.cell (p := ⟨g, 3, none⟩) hgl
    have c4 := hB.cell (p := ⟨g, 4, none⟩) hgl
    have c5 := hB.cell (p := ⟨g, 5, none⟩) hgl
    rw [h0] at c0; rw [h1] at c1; rw [h2] at c2; rw [h3] at c3; rw [h4] at c4; rw [h5] at c5
    have hgl2 : g < wr.heap.size := by omega
    by_cases hk3 : k < 3
    · obtain ⟨v, hv, hRv⟩ := hall (ob k) (by match k, hk3 with | 0, _ => decide | 1, _ => decide | 2, _ => decide)
      obtain rfl : v = .slice none 0 0 := by unfold RepAt at hRv; rwa [if_neg (by match k, hk3 with | 0, _ => decide | 1, _ => decide | 2, _ => decide)] at hRv
      clear hRv
      have d1 : wr.cell? ⟨w.heap.size + 1, ob k, none⟩ = some (.slice none 0 0) := (cellOf hC).trans hv
      have d2 : wr.cell? ⟨w.heap.size + 1, 256, none⟩ = some tr := (cellOf hC).trans h256
      have f1 := frozOf (i := ob k) hC
      have f2 := frozOf (i := 256) hC
      have HC := Lib.hid hC
      have HOWN := Lib.hid hown
      have HALL := Lib.hid hall
      have HSZ := Lib.hid hsz
      have HNE := Lib.hid hne
      clear hv hC h256 hsz hown hall hne hR0
      rcases (show k = 0 ∨ k = 1 ∨ k = 2 by omega) with rfl | rfl | rfl
      · have hcv := run_convert_bytes_arg (P := Tryz.prog) (wr.alloc (.cells #[.int .u8 10] 5)) 34 5 Tryz.underlying34 Tryz.underlying5 wr.heap.size 0 1 1 [10] rfl (one_cell _ _) 9 Tryz.underlying9
        rw [show strOfNums [10] = (⟨#[10]⟩ : ByteArray) from rfl] at hcv
        simp only [ob] at d1 f1
        go_wp2_with (at_builtin; refine wpList_append_own _ rfl _ _ 23 rfl w.heap.size 9 i0 (.string ⟨#[]⟩) 1 16 Tryz.underlying23 hi hz0 hz1 hz2 rfl (by decide) _ _ _ rfl ((HOWN.out.alloc _).alloc _) ⟨wr.heap.size + 1, 0, none⟩ 1 1 [.string ⟨#[10]⟩] rfl rfl ?c1 ?c2 ?c3 ?c4 ?c5 ?_)
        case c1 =>
          intro j u hj
          match j, hj with
          | 0, hj => simp at hj; subst hj; simp [Addr.add]
        case c2 => decide
        case c3 => unfold maxLen; omega
        case c4 => omega
        case c5 => simp; omega
        intro v' w2 hown' hgrow _
        obtain ⟨g', cap', rfl⟩ : ∃ g' cap', v' = .slice (some ⟨g', 0, none⟩) 1 cap' := by
          rcases hown'.2 with ⟨_, h0⟩ | ⟨g', cap', cur, hv, _⟩
          · omega
          · exact ⟨g', cap', hv⟩
        have HR := Lib.hid (build_round (s := ⟨#[42, 110]⟩) (c := grownCap (w2.setCell ⟨w.heap.size + 1, 256, none⟩ (.slice (some ⟨g', 0, none⟩) 1 cap')) 2 0 5) (by omega) HC.out HSZ.out HALL.out HNE.out hB hS HOWN.out hgrow hown' rfl (grownCap_ge _ _ _) rfl)
        have hb2 : w2.heap[w.heap.size + 1]? = some (.cells C 201 (0, 0)) := by
          rw [hgrow.block _ (by simp; omega) (fun e => HNE.out e.symm), Lib.alloc_old _ _ _ (by simp; omega), Lib.alloc_old _ _ _ (by omega)]
          exact HC.out
        have e256 : w2.cell? ⟨w.heap.size + 1, 256, none⟩ = some tr := by rw [cellOf hb2, ← cellOf HC.out]; exact d2
        have e10 : w2.cell? ⟨w.heap.size + 1, 10, none⟩ = some (.slice none 0 0) := by rw [cellOf hb2, ← cellOf HC.out]; exact d1
        have q1 := frozOf (i := 10) hb2
        have q2 := frozOf (i := 256) hb2
        have hz2' : w.heap.size + 1 < w2.heap.size := (Array.getElem?_eq_some_iff.1 hb2).1
        have hsb := Lib.run_convert_string_bytes (P := Tryz.prog) (w2.setCell ⟨w.heap.size + 1, 256, none⟩ (.slice (some ⟨g', 0, none⟩) 1 cap')) 9 34 5 ⟨#[42, 110]⟩ Tryz.underlying9 Tryz.underlying34 Tryz.underlying5
        have e10' : (Lib.bytesWorld (w2.setCell ⟨w.heap.size + 1, 256, none⟩ (.slice (some ⟨g', 0, none⟩) 1 cap')) 5 ⟨#[42, 110]⟩).cell? ⟨w.heap.size + 1, 10, none⟩ = some (.slice none 0 0) := by
          rw [Lib.bytesWorld_old _ _ _ _ (by simp; omega)]; simp [go_sem, e10]
        have q10 : (Lib.bytesWorld (w2.setCell ⟨w.heap.size + 1, 256, none⟩ (.slice (some ⟨g', 0, none⟩) 1 cap')) 5 ⟨#[42, 110]⟩).frozen? ⟨w.heap.size + 1, 10, none⟩ = false := frozOf HR.out.1
        clear hb2 hgrow hown' e10
        go_wp2
        go_roundw
        case rel => exact ⟨1, by omega, rfl, HR.out.2⟩
        case measure => simp [intOf]
      · have hcv := run_convert_bytes_arg (P := Tryz.prog) (wr.alloc (.cells #[.int .u8 34] 5)) 34 5 Tryz.underlying34 Tryz.underlying5 wr.heap.size 0 1 1 [34] rfl (one_cell _ _) 9 Tryz.underlying9
        rw [show strOfNums [34] = (⟨#[34]⟩ : ByteArray) from rfl] at hcv
        simp only [ob] at d1 f1
        go_wp2_with (at_builtin; refine wpList_append_own _ rfl _ _ 23 rfl w.heap.size 9 i0 (.string ⟨#[]⟩) 1 16 Tryz.underlying23 hi hz0 hz1 hz2 rfl (by decide) _ _ _ rfl ((HOWN.out.alloc _).alloc _) ⟨wr.heap.size + 1, 0, none⟩ 1 1 [.string ⟨#[34]⟩] rfl rfl ?c1 ?c2 ?c3 ?c4 ?c5 ?_)
        case c1 =>
          intro j u hj
          match j, hj with
          | 0, hj => simp at hj; subst hj; simp [Addr.add]
        case c2 => decide
        case c3 => unfold maxLen; omega
        case c4 => omega
        case c5 => simp; omega
        intro v' w2 hown' hgrow _
        obtain ⟨g', cap', rfl⟩ : ∃ g' cap', v' = .slice (some ⟨g', 0, none⟩) 2 cap' := by
          rcases hown'.2 with ⟨_, h0⟩ | ⟨g', cap', cur, hv, _⟩
          · omega
          · exact ⟨g', cap', hv⟩
        have HR := Lib.hid (build_round (s := ⟨#[42, 34]⟩) (c := grownCap (w2.setCell ⟨w.heap.size + 1, 256, none⟩ (.slice (some ⟨g', 0, none⟩) 2 cap')) 2 0 5) (by omega) HC.out HSZ.out HALL.out HNE.out hB hS HOWN.out hgrow hown' rfl (grownCap_ge _ _ _) rfl)
        have hb2 : w2.heap[w.heap.size + 1]? = some (.cells C 201 (0, 0)) := by
          rw [hgrow.block _ (by simp; omega) (fun e => HNE.out e.symm), Lib.alloc_old _ _ _ (by simp; omega), Lib.alloc_old _ _ _ (by omega)]
          exact HC.out
        have e256 : w2.cell? ⟨w.heap.size + 1, 256, none⟩ = some tr := by rw [cellOf hb2, ← cellOf HC.out]; exact d2
        have e10 : w2.cell? ⟨w.heap.size + 1, 34, none⟩ = some (.slice none 0 0) := by rw [cellOf hb2, ← cellOf HC.out]; exact d1
        have q1 := frozOf (i := 34) hb2
        have q2 := frozOf (i := 256) hb2
        have hz2' : w.heap.size + 1 < w2.heap.size := (Array.getElem?_eq_some_iff.1 hb2).1
        have hsb := Lib.run_convert_string_bytes (P := Tryz.prog) (w2.setCell ⟨w.heap.size + 1, 256, none⟩ (.slice (some ⟨g', 0, none⟩) 2 cap')) 9 34 5 ⟨#[42, 34]⟩ Tryz.underlying9 Tryz.underlying34 Tryz.underlying5
        have e10' : (Lib.bytesWorld (w2.setCell ⟨w.heap.size + 1, 256, none⟩ (.slice (some ⟨g', 0, none⟩) 2 cap')) 5 ⟨#[42, 34]⟩).cell? ⟨w.heap.size + 1, 34, none⟩ = some (.slice none 0 0) := by
          rw [Lib.bytesWorld_old _ _ _ _ (by simp; omega)]; simp [go_sem, e10]
        have q10 : (Lib.bytesWorld (w2.setCell ⟨w.heap.size + 1, 256, none⟩ (.slice (some ⟨g', 0, none⟩) 2 cap')) 5 ⟨#[42, 34]⟩).frozen? ⟨w.heap.size + 1, 34, none⟩ = false := frozOf HR.out.1
        clear hb2 hgrow hown' e10
        go_wp2
        go_roundw
        case rel => exact ⟨2, by omega, rfl, HR.out.2⟩
        case measure => simp [intOf]
      · have hcv := run_convert_bytes_arg (P := Tryz.prog) (wr.alloc (.cells #[.int .u8 42] 5)) 34 5 Tryz.underlying34 Tryz.underlying5 wr.heap.size 0 1 1 [42] rfl (one_cell _ _) 9 Tryz.underlying9
        rw [show strOfNums [42] = (⟨#[42]⟩ : ByteArray) from rfl] at hcv
        simp only [ob] at d1 f1
        go_wp2_with (at_builtin; refine wpList_append_own _ rfl _ _ 23 rfl w.heap.size 9 i0 (.string ⟨#[]⟩) 1 16 Tryz.underlying23 hi hz0 hz1 hz2 rfl (by decide) _ _ _ rfl ((HOWN.out.alloc _).alloc _) ⟨wr.heap.size + 1, 0, none⟩ 1 1 [.string ⟨#[42]⟩] rfl rfl ?c1 ?c2 ?c3 ?c4 ?c5 ?_)
        case c1 =>
          intro j u hj
          match j, hj with
          | 0, hj => simp at hj; subst hj; simp [Addr.add]
        case c2 => decide
        case c3 => unfold maxLen; omega
        case c4 => omega
        case c5 => simp; omega
        intro v' w2 hown' hgrow _
        obtain ⟨g', cap', rfl⟩ : ∃ g' cap', v' = .slice (some ⟨g', 0, none⟩) 3 cap' := by
          rcases hown'.2 with ⟨_, h0⟩ | ⟨g', cap', cur, hv, _⟩
          · omega
          · exact ⟨g', cap', hv⟩
        have HR := Lib.hid (build_round (s := ⟨#[42, 42]⟩) (c := grownCap (w2.setCell ⟨w.heap.size + 1, 256, none⟩ (.slice (some ⟨g', 0, none⟩) 3 cap')) 2 0 5) (by omega) HC.out HSZ.out HALL.out HNE.out hB hS HOWN.out hgrow hown' rfl (grownCap_ge _ _ _) rfl)
        have hb2 : w2.heap[w.heap.size + 1]? = some (.cells C 201 (0, 0)) := by
          rw [hgrow.block _ (by simp; omega) (fun e => HNE.out e.symm), Lib.alloc_old _ _ _ (by simp; omega), Lib.alloc_old _ _ _ (by omega)]
          exact HC.out
        have e256 : w2.cell? ⟨w.heap.size + 1, 256, none⟩ = some tr := by rw [cellOf hb2, ← cellOf HC.out]; exact d2
        have e10 : w2.cell? ⟨w.heap.size + 1, 42, none⟩ = some (.slice none 0 0) := by rw [cellOf hb2, ← cellOf HC.out]; exact d1
        have q1 := frozOf (i := 42) hb2
        have q2 := frozOf (i := 256) hb2
        have hz2' : w.heap.size + 1 < w2.heap.size := (Array.getElem?_eq_some_iff.1 hb2).1
        have hsb := Lib.run_convert_string_bytes (P := Tryz.prog) (w2.setCell ⟨w.heap.size + 1, 256, none⟩ (.slice (some ⟨g', 0, none⟩) 3 cap')) 9 34 5 ⟨#[42, 42]⟩ Tryz.underlying9 Tryz.underlying34 Tryz.underlying5
        have e10' : (Lib.bytesWorld (w2.setCell ⟨w.heap.size + 1, 256, none⟩ (.slice (some ⟨g', 0, none⟩) 3 cap')) 5 ⟨#[42, 42]⟩).cell? ⟨w.heap.size + 1, 42, none⟩ = some (.slice none 0 0) := by
          rw [Lib.bytesWorld_old _ _ _ _ (by simp; omega)]; simp [go_sem, e10]
        have q10 : (Lib.bytesWorld (w2.setCell ⟨w.heap.size + 1, 256, none⟩ (.slice (some ⟨g', 0, none⟩) 3 cap')) 5 ⟨#[42, 42]⟩).frozen? ⟨w.heap.size + 1, 42, none⟩ = false := frozOf HR.out.1
        clear hb2 hgrow hown' e10
        go_wp2
        go_roundw
        case rel => exact ⟨3, by omega, rfl, HR.out.2⟩
        case measure => simp [intOf]
    · obtain rfl : k = 3 := by omega
      have HR := Lib.hid hR0
      clear hR0 hall hown hne hC h256 hsz
      go_wp2
      go_ret
      exact ⟨rfl, HR.out, hB⟩
end Go.Proofs.YtojppincaalibaaGreatDoor
