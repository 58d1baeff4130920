/- The walks of strings.Replacer's buildOnce and Replace, and of args.escaped and args.Quote. -/
import Derived.Test.YtojppincaalibaaGreatDoorRepE
set_option linter.unusedVariables false
set_option linter.unusedSimpArgs false
set_option maxRecDepth 100000
namespace Go.Proofs.YtojppincaalibaaGreatDoor
open Go.Shelf Go.RowKit

theorem RB.keep {n k2 k b : Nat} {W W' : World} {C : Array Value} (h : RB n k2 k W) (hg : W.grownBy W' (some b)) (hb : W.heap[b]? = some (.cells C 157 (0, 0))) : RB n k2 k W' := by
  obtain ⟨C2, tr, hC, hsz, h256, hown, hne, hall⟩ := h
  have hlt : ∀ {g : Nat} {o : Obj}, W.heap[g]? = some o → g < W.heap.size := fun h => (Array.getElem?_eq_some_iff.1 h).1
  have hn1 : k2 ≠ b := fun e => by rw [e, hb] at hC; cases hC
  refine ⟨C2, tr, (hg.block k2 (hlt hC) (fun e => hn1 (by injection e))).trans hC, hsz, h256, hown.kept hg (.inr fun e => type_ne_own hown (t := 157) (by decide) hb e.symm), hne, fun j hj => ?_⟩
  obtain ⟨v, hv, hR⟩ := hall j hj
  exact ⟨v, hv, hR.mono (fun g cells fz hgc => hg.block g (hlt hgc) (fun e => by
    have : g = b := by injection e
    rw [this, hb] at hgc
    cases hgc))⟩

def onceBlk (u i : Int) (r o : Value) : Obj := .cells #[.int .u32 u, .int .i32 i, .int .u32 0, r, o] 157 (0, 0)

set_option maxHeartbeats 1000000 in
theorem buildOnce_calls (b g cap : Nat) (w : World) (hb : w.heap[b]? = some (onceBlk 0 1 .nilIface (.slice (some ⟨g, 0, none⟩) 6 cap))) (hown : w.ownsRow 0 9 1 (.slice (some ⟨g, 0, none⟩) 6 cap) 6 six) :
    Calls Tryz.prog 99 #[.pointer (some ⟨b, 0, none⟩)] w fun e w' => e = .returned (.tuple #[]) ∧ (RB w.heap.size (w.heap.size + 1) 3 w' ∧ w'.heap[b]? = some (onceBlk 0 1 (.iface 202 (.pointer (some ⟨w.heap.size + 1, 0, none⟩))) (.slice none 0 0)) ∧ w.grownBy w' (some b)) := by
  have hc := fun j v => hown.cells (g := g) rfl j v
  have hlt : b < w.heap.size := (Array.getElem?_eq_some_iff.1 hb).1
  have e4 : w.cell? ⟨b, 4, none⟩ = some (.slice (some ⟨g, 0, none⟩) 6 cap) := (cellOf hb).trans rfl
  have e3 : w.cell? ⟨b, 3, none⟩ = some .nilIface := (cellOf hb).trans rfl
  have f3 := frozOf (i := 3) hb
  have f4 := frozOf (i := 4) hb
  have HB := Lib.hid (build_calls b g cap w e4 (by simpa [Addr.add] using hc 0 _ rfl) (by simpa [Addr.add] using hc 1 _ rfl) (by simpa [Addr.add] using hc 2 _ rfl) (by simpa [Addr.add] using hc 3 _ rfl) (by simpa [Addr.add] using hc 4 _ rfl) (by simpa [Addr.add] using hc 5 _ rfl))
  clear hc
  go_enter Tryz.func99, Tryz.ntmps99
  go_wp2_with fail
  refine HB.out.mono ?_
  rintro e w1 ⟨rfl, hR, hb1⟩
  have hb' : w1.heap[b]? = some (onceBlk 0 1 .nilIface (.slice (some ⟨g, 0, none⟩) 6 cap)) := (hb1.block b hlt).trans hb
  have k4 : w1.cell? ⟨b, 4, none⟩ = some (.slice (some ⟨g, 0, none⟩) 6 cap) := (cellOf hb').trans rfl
  have k3 : w1.cell? ⟨b, 3, none⟩ = some .nilIface := (cellOf hb').trans rfl
  have q3 := frozOf (i := 3) hb'
  have q4 := frozOf (i := 4) hb'
  go_wp2
  go_end0
  have hg2 : w1.grownBy ((w1.setCell ⟨b, 3, none⟩ (.iface 202 (.pointer (some ⟨w.heap.size + 1, 0, none⟩)))).setCell ⟨b, 4, none⟩ (.slice none 0 0)) (some b) := by
    refine ⟨rfl, rfl, rfl, by simp, fun j hj hne => ?_⟩
    have hjn : j ≠ b := fun e => hne (by rw [e])
    rw [setCell_other_heap _ _ _ _ hjn, setCell_other_heap _ _ _ _ hjn]
  refine ⟨rfl, hR.keep hg2 hb', ?_, hg2.os.trans hb1.os, hg2.tape.trans hb1.tape, hg2.output.trans hb1.output, Nat.le_trans hb1.size hg2.size, fun j hj hne => (hg2.block j (Nat.lt_of_lt_of_le hj hb1.size) hne).trans (hb1.block j hj)⟩
  exact heapSet _ (heapSet _ hb')

theorem grown_setCell (w : World) (b i : Nat) (v : Value) : w.grownBy (w.setCell ⟨b, i, none⟩ v) (some b) :=
  ⟨rfl, rfl, rfl, by simp, fun j hj hne => setCell_other_heap _ _ _ _ (fun e => hne (by rw [e]))⟩
theorem grown_trans {w w1 w2 : World} {r : Option Nat} (h1 : w.grownBy w1 r) (h2 : w1.grownBy w2 r) : w.grownBy w2 r :=
  ⟨h2.os.trans h1.os, h2.tape.trans h1.tape, h2.output.trans h1.output, Nat.le_trans h1.size h2.size, fun j hj hne => (h2.block j (Nat.lt_of_lt_of_le hj h1.size) hne).trans (h1.block j hj hne)⟩
theorem grown_drew (w : World) (r : Option Nat) : w.grownBy w.drew r := ⟨rfl, rfl, rfl, Nat.le_refl _, fun _ _ _ => rfl⟩
theorem grown_below {w w' : World} (h : Below w.heap.size w w') (r : Option Nat) : w.grownBy w' r := ⟨h.os, h.tape, h.output, h.size, fun j hj _ => h.block j hj⟩

set_option maxHeartbeats 2000000 in
theorem replace_calls (b g cap : Nat) (s : ByteArray) (w : World) (hs : s.size ≤ 1000000) (hb : w.heap[b]? = some (onceBlk 0 0 .nilIface (.slice (some ⟨g, 0, none⟩) 6 cap))) (hown : w.ownsRow 0 9 1 (.slice (some ⟨g, 0, none⟩) 6 cap) 6 six) :
    Calls Tryz.prog 58 #[.pointer (some ⟨b, 0, none⟩), .string s] w fun e w' => e = .returned (.string (mkS (escL (bl s)))) ∧ w.grownBy w' (some b) := by
  have hlt : b < w.heap.size := (Array.getElem?_eq_some_iff.1 hb).1
  have hb1 : (w.setCell ⟨b, 1, none⟩ (.int .i32 1)).heap[b]? = some (onceBlk 0 1 .nilIface (.slice (some ⟨g, 0, none⟩) 6 cap)) := heapSet _ hb
  have ho1 := hown.kept (grown_setCell w b 1 (.int .i32 1)) (.inr fun e => type_ne_own hown (t := 157) (by decide) hb e.symm)
  have HF := buildOnce_calls b g cap (w.setCell ⟨b, 1, none⟩ (.int .i32 1)) hb1 ho1
  rw [show (w.setCell ⟨b, 1, none⟩ (.int .i32 1)).heap.size = w.heap.size by simp] at HF
  have HD := Lib.hid (do_first b 99 (.pointer (some ⟨b, 0, none⟩)) w _ ((cellOf hb).trans rfl) ((cellOf hb).trans rfl) (frozOf hb) (frozOf hb) (enters_of Tryz.func99 (by kernel_rfl) rfl) HF (fun w1 h => ⟨(cellOf h.2.1).trans rfl, (cellOf h.2.1).trans rfl, frozOf h.2.1, frozOf h.2.1⟩))
  clear HF ho1 hb1
  go_enter Tryz.func58, Tryz.ntmps58
  go_wp2_with fail
  refine HD.out.mono ?_
  rintro e w' ⟨rfl, w1, ⟨hR, hB1, hg1⟩, rfl⟩
  have hg2 : w1.grownBy ((w1.drew.setCell ⟨b, 0, none⟩ (.int .u32 1)).setCell ⟨b, 1, none⟩ (.int .i32 0)) (some b) := grown_trans (grown_trans (grown_drew _ _) (grown_setCell _ _ _ _)) (grown_setCell _ _ _ _)
  have hB2 : ((w1.drew.setCell ⟨b, 0, none⟩ (.int .u32 1)).setCell ⟨b, 1, none⟩ (.int .i32 0)).heap[b]? = some (onceBlk 1 0 (.iface 202 (.pointer (some ⟨w.heap.size + 1, 0, none⟩))) (.slice none 0 0)) := heapSet _ (heapSet (w := w1.drew) _ hB1)
  have hR2 := hR.keep hg2 hB1
  have hg := grown_trans (grown_trans (grown_setCell w b 1 (.int .i32 1)) hg1) hg2
  obtain ⟨W, hW⟩ : ∃ W, (w1.drew.setCell ⟨b, 0, none⟩ (.int .u32 1)).setCell ⟨b, 1, none⟩ (.int .i32 0) = W := ⟨_, rfl⟩
  rw [hW] at hR2 hg hB2 ⊢
  have e3 : W.cell? ⟨b, 3, none⟩ = some (.iface 202 (.pointer (some ⟨w.heap.size + 1, 0, none⟩))) := (cellOf hB2).trans rfl
  have HG := Lib.hid hg
  clear hW hg2 hg hR hB1 hg1
  go_wp2_with fail
  refine (bsrReplace_calls _ _ s W hs hR2).mono ?_
  rintro e W3 ⟨rfl, hb3⟩
  go_wp2
  go_ret
  exact ⟨rfl, grown_trans HG.out (grown_below hb3 _)⟩

theorem bl_append (a b : ByteArray) : bl (a ++ b) = bl a ++ bl b := by
  unfold bl
  simp
theorem mkS_append (a b : Bs) : mkS a ++ mkS b = mkS (a ++ b) := bl_inj (by rw [bl_append, bl_mkS, bl_mkS, bl_mkS])
def quoL (l : Bs) : Bs := 34 :: (escL l ++ [34])
theorem quo_eq (l : Bs) : (⟨#[34]⟩ : ByteArray) ++ mkS (escL l) ++ ⟨#[34]⟩ = mkS (quoL l) := by
  show mkS [34] ++ mkS (escL l) ++ mkS [34] = _
  rw [mkS_append, mkS_append]
  rfl

set_option maxHeartbeats 2000000 in
theorem escaped_calls (s : ByteArray) (w : World) (hs : s.size ≤ 1000000) :
    Calls Tryz.prog 31 #[.string s] w fun e w' => e = .returned (.string (mkS (quoL (bl s)))) ∧ Below w.heap.size w w' := by
  have HN := Lib.hid (newReplacer_calls w.heap.size (w.alloc (.cells #[.string ⟨#[42]⟩, .string ⟨#[42, 42]⟩, .string ⟨#[34]⟩, .string ⟨#[42, 34]⟩, .string ⟨#[10]⟩, .string ⟨#[42, 110]⟩] 9)) (fun j v hv => by
    rw [cellOf (Go.heap_alloc_new w _)]
    show (six.toArray)[j]? = _
    rw [List.getElem?_toArray]
    exact hv) (by simp))
  go_enter Tryz.func31, Tryz.ntmps31
  go_wp2_with fail
  refine HN.out.mono ?_
  rintro e w2 ⟨g, cap, w1, rfl, rfl, hb1, hown⟩
  have hown0 : w1.ownsRow 0 9 1 (.slice (some ⟨g, 0, none⟩) 6 cap) 6 six := by
    refine ⟨hown.1, ?_⟩
    rcases hown.2 with hn | ⟨g2, cap2, cur, hv, hbg, rest⟩
    · exact .inl hn
    · exact .inr ⟨g2, cap2, cur, hv, Nat.zero_le _, rest⟩
  have HR := Lib.hid (replace_calls w1.heap.size g cap s (w1.alloc (onceBlk 0 0 .nilIface (.slice (some ⟨g, 0, none⟩) 6 cap))) hs (Go.heap_alloc_new w1 _) (hown0.alloc _))
  have HB1 := Lib.hid hb1
  clear hown hown0 hb1 HN
  go_wp2_with fail
  refine HR.out.mono ?_
  rintro e w3 ⟨rfl, hg⟩
  have HG := Lib.hid hg
  clear hg HR
  have hsz : (mkS (escL (bl s))).size ≤ 2000000 := by rw [mkS_size, escL_len, bl_len]; have := cntSp_le (bl s); rw [bl_len] at this; omega
  go_wp2
  go_ret
  have hb1 := HB1.out
  have hg := HG.out
  refine ⟨by rw [quo_eq]; rfl, ?_⟩
  exact ((((Below.refl w.heap.size w).alloc (Nat.le_refl _) _).trans (hb1.mono (by simp))).alloc (by have := hb1.size; simp at this; omega) _).grown hg (by have := hb1.size; simp at this ⊢; omega) (fun k e => by have := hb1.size; simp at this; injection e with e; omega)
end Go.Proofs.YtojppincaalibaaGreatDoor
