/- The walk of args.Number, under what the package-level variables of Go's library hold. -/
import Derived.Test.YtojppincaalibaaGreatDoorArgQ
import Derived.Shelf.Strings.SlTrimAscii
set_option linter.unusedVariables false
set_option linter.unusedSimpArgs false
set_option maxRecDepth 100000
namespace Go.Proofs.YtojppincaalibaaGreatDoor
open Go.Shelf Go.RowKit

/-- What is known of package-level variables of Go's library. -/
structure Glob (w : World) : Prop where
  big : 9 ≤ w.heap.size
  ml : ∃ m, w.cell? ⟨2, 0, none⟩ = some (.int .i64 m)
  es : ∃ tp p, w.var? Tryz.prog "strconv.ErrSyntax" = some #[.iface tp p]
  er : ∃ tp p, w.var? Tryz.prog "strconv.ErrRange" = some #[.iface tp p]
  u8 : Lib.Utf8Tabs 3 4 w

theorem es_named : Tryz.prog.globalNamed "strconv.ErrSyntax" = some 0 := by kernel_rfl
theorem er_named : Tryz.prog.globalNamed "strconv.ErrRange" = some 1 := by kernel_rfl
theorem Glob.below {w w' : World} {B : Nat} (h : Glob w) (hB : 9 ≤ B) (hb : Below B w w') : Glob w' := by
  refine ⟨Nat.le_trans h.big hb.size, ?_, ?_, ?_, ?_, ?_⟩
  · obtain ⟨m, hm⟩ := h.ml
    exact ⟨m, (hb.cell (p := ⟨2, 0, none⟩) (by show 2 < B; omega)).trans hm⟩
  · obtain ⟨tp, p, hp⟩ := h.es
    exact ⟨tp, p, var?_below hb es_named (by omega) hp⟩
  · obtain ⟨tp, p, hp⟩ := h.er
    exact ⟨tp, p, var?_below hb er_named (by omega) hp⟩
  · intro c hc
    exact (hb.cell (p := ⟨3, c, none⟩) (by show 3 < B; omega)).trans (h.u8.1 c hc)
  · intro i hi
    exact ⟨(hb.cell (p := ⟨4, 2 * i, none⟩) (by show 4 < B; omega)).trans (h.u8.2 i hi).1, (hb.cell (p := ⟨4, 2 * i + 1, none⟩) (by show 4 < B; omega)).trans (h.u8.2 i hi).2⟩
theorem Glob.below' {w w' : World} (h : Glob w) (hb : Below w.heap.size w w') : Glob w' := h.below h.big hb

def digitsL : Bs := [48, 49, 50, 51, 52, 53, 54, 55, 56, 57]
def digs (l : Bs) : Bs := Lib.trimPrefix l [45]
def numR (l : Bs) : Int × Int :=
  if digs l = [] ∨ Lib.trimS (digs l) digitsL ≠ [] then (0, 250) else match Lib.parseIntB 32 l with | .ok v => (v, 0) | _ => (0, 250)

theorem digitsL_ascii : ∀ (j : Nat) (b : UInt8), (⟨#[48, 49, 50, 51, 52, 53, 54, 55, 56, 57]⟩ : ByteArray).data.toList[j]? = some b → b.toNat < 128 := ascii_of_all (by decide)

theorem parseInt_any (s : ByteArray) (w : World) (hs : s.size ≤ 1000000) (hG : Glob w) :
    Calls Tryz.prog 29 #[.string s, .int .i64 10, .int .i64 32] w fun e w' => (∃ v x, e = .returned (.tuple #[.int .i64 v, x]) ∧ (match Lib.parseIntB 32 s.data.toList with | .ok u => v = u ∧ x = .nilIface | _ => ∃ tp p, x = .iface tp (.pointer (some p)))) ∧ Below w.heap.size w w' := by
  rcases h : Lib.parseIntB 32 s.data.toList with v | _ | _
  · refine (Tryz.strconv_ParseInt_10_at32_ok s (by omega) v h w).mono ?_
    rintro e w' ⟨rfl, hw⟩
    refine ⟨⟨v, _, rfl, rfl, rfl⟩, ?_⟩
    rcases hw with rfl | ⟨t, rfl⟩
    · exact Below.refl _ _
    · exact Lib.bytesWorld_below _ _ _
  · obtain ⟨tp, p, hp⟩ := hG.es
    refine (Tryz.strconv_ParseInt_10_at32_syntax_var s (by omega) h tp p w hp).mono ?_
    rintro e w' ⟨N, rfl, _, _, hb⟩
    exact ⟨⟨_, _, rfl, _, _, rfl⟩, hb⟩
  · obtain ⟨tp, p, hp⟩ := hG.er
    refine (Tryz.strconv_ParseInt_10_at32_range_var s (by omega) h tp p w hp).mono ?_
    rintro e w' ⟨N, rfl, _, _, hb⟩
    exact ⟨⟨_, _, rfl, _, _, rfl⟩, hb⟩

set_option maxHeartbeats 1000000 in
theorem number_calls (s : ByteArray) (w : World) (hs : s.size ≤ 1000000) (hG : Glob w) :
    Calls Tryz.prog 11 #[.string s] w fun e w' => e = .returned (.tuple #[.int .i64 (numR (bl s)).1, .int .i64 (numR (bl s)).2]) ∧ Below w.heap.size w w' := by
  have hlen : (Lib.trimPrefix s.data.toList [45]).length ≤ s.size := by
    rw [← bl_len]
    unfold Lib.trimPrefix
    split <;> simp [bl]
  by_cases hd : Lib.trimPrefix s.data.toList [45] = []
  · have HR := Lib.hid (show numR (bl s) = (0, 250) by unfold numR; rw [if_pos (.inl hd)])
    go_enter Tryz.func11, Tryz.ntmps11
    go_wp2_with (go_at_call 27; refine (Tryz.strings_TrimPrefix _ _ _).mono ?_; rintro e W1 ⟨rfl, rfl⟩)
    go_ret2
    rw [HR.out]
    exact ⟨rfl, Below.refl _ _⟩
  · have hT := Any.strings_Trim_laid Tryz.lays160 (by kernel_rfl) ⟨(Lib.trimPrefix s.data.toList [45]).toArray⟩ ⟨#[48, 49, 50, 51, 52, 53, 54, 55, 56, 57]⟩ w (by simp [ByteArray.size]; omega) (by decide) digitsL_ascii
    have hdE : (Lib.trimPrefix s.data.toList [45]).isEmpty = false := by simpa using hd
    by_cases ht : Lib.trimS (Lib.trimPrefix s.data.toList [45]) [48, 49, 50, 51, 52, 53, 54, 55, 56, 57] = []
    · have htE : (Lib.trimS (Lib.trimPrefix s.data.toList [45]) [48, 49, 50, 51, 52, 53, 54, 55, 56, 57]).isEmpty = true := by simpa using ht
      have hno : ¬ (digs (bl s) = [] ∨ Lib.trimS (digs (bl s)) digitsL ≠ []) := fun h => h.elim hd (fun h => h ht)
      cases hp : Lib.parseIntB 32 s.data.toList with
      | ok v =>
        have HR := Lib.hid (show numR (bl s) = (v, 0) by unfold numR; rw [if_neg hno, show bl s = s.data.toList from rfl, hp])
        have HP : ∀ w, Glob w → Calls Tryz.prog 29 #[.string s, .int .i64 10, .int .i64 32] w fun e w' => e = .returned (.tuple #[.int .i64 v, .nilIface]) ∧ Below w.heap.size w w' := fun w hG => (parseInt_any s w hs hG).mono (fun e w' h => by
          obtain ⟨⟨v', x, rfl, h1⟩, hb⟩ := h
          rw [hp] at h1
          obtain ⟨rfl, rfl⟩ := h1
          exact ⟨rfl, hb⟩)
        have HH := Lib.hid HP
        clear HP hp hno ht hd
        go_enter Tryz.func11, Tryz.ntmps11
        go_wp2_with (first | (go_at_call 27; refine (Tryz.strings_TrimPrefix _ _ _).mono ?_; rintro e W1 ⟨rfl, rfl⟩) | (go_at_call 28; refine hT.mono ?_; rintro e W2 ⟨rfl, hb⟩))
        refine (HH.out _ (hG.below' hb)).mono ?_
        rintro e W3 ⟨rfl, hb3⟩
        go_wp2
        go_ret2
        rw [HR.out]
        exact ⟨rfl, hb.trans (hb3.mono hb.size)⟩
      | _ =>
        have HR := Lib.hid (show numR (bl s) = (0, 250) by unfold numR; rw [if_neg hno, show bl s = s.data.toList from rfl, hp])
        have HP : ∀ w, Glob w → Calls Tryz.prog 29 #[.string s, .int .i64 10, .int .i64 32] w fun e w' => ∃ v tp p, e = .returned (.tuple #[.int .i64 v, .iface tp (.pointer (some p))]) ∧ Below w.heap.size w w' := fun w hG => (parseInt_any s w hs hG).mono (fun e w' h => by
          obtain ⟨⟨v', x, rfl, h1⟩, hb⟩ := h
          rw [hp] at h1
          obtain ⟨tp, p, rfl⟩ := h1
          exact ⟨_, _, _, rfl, hb⟩)
        have HH := Lib.hid HP
        clear HP hp hno ht hd
        go_enter Tryz.func11, Tryz.ntmps11
        go_wp2_with (first | (go_at_call 27; refine (Tryz.strings_TrimPrefix _ _ _).mono ?_; rintro e W1 ⟨rfl, rfl⟩) | (go_at_call 28; refine hT.mono ?_; rintro e W2 ⟨rfl, hb⟩))
        refine (HH.out _ (hG.below' hb)).mono ?_
        rintro e W3 ⟨v, tp, p, rfl, hb3⟩
        go_wp2
        go_ret2
        rw [HR.out]
        exact ⟨rfl, hb.trans (hb3.mono hb.size)⟩
    · have htE : (Lib.trimS (Lib.trimPrefix s.data.toList [45]) [48, 49, 50, 51, 52, 53, 54, 55, 56, 57]).isEmpty = false := by simpa using ht
      have HR := Lib.hid (show numR (bl s) = (0, 250) by unfold numR; rw [if_pos (.inr ht)])
      clear ht hd
      go_enter Tryz.func11, Tryz.ntmps11
      go_wp2_with (first | (go_at_call 27; refine (Tryz.strings_TrimPrefix _ _ _).mono ?_; rintro e W1 ⟨rfl, rfl⟩) | (go_at_call 28; refine hT.mono ?_; rintro e W2 ⟨rfl, hb⟩))
      go_ret2
      rw [HR.out]
      exact ⟨rfl, hb⟩
end Go.Proofs.YtojppincaalibaaGreatDoor
