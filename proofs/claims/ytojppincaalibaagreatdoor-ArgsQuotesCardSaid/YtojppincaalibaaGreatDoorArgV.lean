/- Slices of strings; the walk of the closure of args.item. -/
import Derived.Test.YtojppincaalibaaGreatDoorArgT
import Derived.Test.YtojppincaalibaaGreatDoorArgU
set_option linter.unusedVariables false
set_option linter.unusedSimpArgs false
set_option maxRecDepth 100000
namespace Go.Proofs.YtojppincaalibaaGreatDoor
open Go.Shelf Go.RowKit

/-- Strings lie in memory from a place on. -/
def Strs (w : World) (b off : Nat) (l : List Bs) : Prop := ∀ i (h : i < l.length), w.cell? ⟨b, off + i, none⟩ = some (.string (mkS l[i]))
theorem Strs.below {w w' : World} {b off B : Nat} {l : List Bs} (h : Strs w b off l) (hb : Below B w w') (hB : b < B) : Strs w' b off l := fun i hi => (hb.cell (p := ⟨b, off + i, none⟩) hB).trans (h i hi)
theorem Strs.drop {w : World} {b off : Nat} {p : Bs} {l : List Bs} (h : Strs w b off (p :: l)) : Strs w b (off + 1) l := fun i hi => by
  have := h (i + 1) (by simp; omega)
  rw [show off + 1 + i = off + (i + 1) by omega, this]
  rfl
theorem strs_new (w : World) (l : List Bs) (t : TypeId) : Strs (w.alloc (.cells (l.map fun x => Value.string (mkS x)).toArray t)) w.heap.size 0 l := fun i hi => by
  rw [Nat.zero_add, cellOf (C := (l.map fun x => Value.string (mkS x)).toArray) (t := t) (show (w.alloc _).heap[w.heap.size]? = _ from Array.getElem?_push_size ..), List.getElem?_toArray, List.getElem?_map, List.getElem?_eq_getElem hi]
  rfl

/-- A block of strings. -/
def StrB (w : World) (b : Nat) (l : List Bs) : Prop := w.heap[b]? = some (.cells (l.map fun x => Value.string (mkS x)).toArray 9 (0, 0))
theorem StrB.strs {w : World} {b : Nat} {l : List Bs} (h : StrB w b l) : Strs w b 0 l := fun i hi => by
  rw [Nat.zero_add, cellOf h, List.getElem?_toArray, List.getElem?_map, List.getElem?_eq_getElem hi]
  rfl
theorem StrB.below {w w' : World} {b B : Nat} {l : List Bs} (h : StrB w b l) (hb : Below B w w') (hB : b < B) : StrB w' b l := (hb.block b hB).trans h
theorem strB_new (w : World) (l : List Bs) : StrB (w.alloc (.cells (l.map fun x => Value.string (mkS x)).toArray 9)) w.heap.size l := Array.getElem?_push_size ..

theorem lettersL_ascii : ∀ (j : Nat) (b : UInt8), (⟨#[97, 98, 99, 100, 101, 102, 103, 104, 105, 106, 107, 108, 109, 110, 111, 112, 113, 114, 115, 116, 117, 118, 119, 120, 121, 122]⟩ : ByteArray).data.toList[j]? = some b → b.toNat < 128 := ascii_of_all (by decide)

set_option maxHeartbeats 1000000 in
theorem item1_calls (l : Bs) (w : World) (hs : l.length ≤ 1000000) :
    Calls Tryz.prog 65 #[.string (mkS l)] w fun e w' => e = .returned (.bool (badName l)) ∧ Below w.heap.size w w' := by
  show Calls Tryz.prog 65 #[.string ⟨l.toArray⟩] w _
  cases h0 : l.isEmpty with
  | true =>
    have HR := Lib.hid (show badName l = true by simp [badName, h0])
    go_enter Tryz.func65, Tryz.ntmps65
    go_wp2
    go_ret
    rw [HR.out]
    exact ⟨rfl, Below.refl _ _⟩
  | false =>
    by_cases h16 : 16 < l.length
    · have HR := Lib.hid (show badName l = true by simp [badName, h16])
      have hg : decide (16 < (l.length : Int)) = true := by simp; omega
      go_enter Tryz.func65, Tryz.ntmps65
      go_wp2
      go_ret
      rw [HR.out]
      exact ⟨rfl, Below.refl _ _⟩
    · have hg : decide (16 < (l.length : Int)) = false := by simp; omega
      have hT := Any.strings_Trim_laid Tryz.lays160 (by kernel_rfl) ⟨l.toArray⟩ ⟨#[97, 98, 99, 100, 101, 102, 103, 104, 105, 106, 107, 108, 109, 110, 111, 112, 113, 114, 115, 116, 117, 118, 119, 120, 121, 122]⟩ w (by show l.toArray.size ≤ _; rw [List.size_toArray]; omega) (by decide) lettersL_ascii
      have HR := Lib.hid (show badName l = !(Lib.trimS l lettersL).isEmpty by simp [badName, h0, h16])
      have HT := Lib.hid hT
      clear hT
      go_enter Tryz.func65, Tryz.ntmps65
      go_wp2_with fail
      refine HT.out.mono ?_
      rintro e W1 ⟨rfl, b1⟩
      obtain ⟨t, ht⟩ : ∃ t, Lib.trimS (⟨l.toArray⟩ : ByteArray).data.toList (⟨#[97, 98, 99, 100, 101, 102, 103, 104, 105, 106, 107, 108, 109, 110, 111, 112, 113, 114, 115, 116, 117, 118, 119, 120, 121, 122]⟩ : ByteArray).data.toList = t := ⟨_, rfl⟩
      have HR2 := Lib.hid (show badName l = !t.isEmpty by rw [HR.out, ← ht]; rfl)
      rw [ht]
      clear ht HR
      cases hte : t.isEmpty with
      | true =>
        go_wp2
        go_ret
        rw [HR2.out, hte]
        exact ⟨rfl, b1⟩
      | false =>
        go_wp2
        go_ret
        rw [HR2.out, hte]
        exact ⟨rfl, b1⟩

set_option maxHeartbeats 1000000 in
theorem ixf_calls (ls : List Bs) (b off cap : Nat) (w : World) (hS : Strs w b off ls) (hb : b < w.heap.size) (hl : ∀ l, l ∈ ls → l.length ≤ 1000000) (hn : ls.length ≤ 2000000) :
    Calls Tryz.prog 105 #[.slice (some ⟨b, off, none⟩) ls.length cap, .func (.func 65) #[] #[]] w fun e w' => (∃ i : Int, e = .returned (.int .i64 i) ∧ decide (0 ≤ i) = ls.any badName) ∧ Below w.heap.size w w' := by
  have eg := enters_of Tryz.func65 (by kernel_rfl) rfl
  go_enter Tryz.func105, Tryz.ntmps105
  go_wp2
  go_loopw [5, 8] (fun _ i wr => ∃ k : Nat, k ≤ ls.length ∧ i = .int .i64 k ∧ Below w.heap.size w wr ∧ Hid ((ls.take k).any badName = false)) (fun _ i _ => (ls.length - intOf i).toNat)
  case atStart => exact ⟨0, by omega, rfl, Below.refl _ _, Lib.hid rfl⟩
  case round =>
    obtain ⟨k, hk, rfl, hB, HA⟩ := hrel
    by_cases hlt : k < ls.length
    · have hlz : decide ((k : Int) < (ls.length : Int)) = true := by simp; omega
      obtain ⟨l, hle⟩ : ∃ l, ls[k] = l := ⟨_, rfl⟩
      have hcell : wr.cell? ⟨b, off + k, none⟩ = some (.string (mkS l)) := by rw [← hle]; exact (hB.cell (p := ⟨b, off + k, none⟩) hb).trans (hS k hlt)
      have HI := Lib.hid (item1_calls l wr (by rw [← hle]; exact hl _ (List.getElem_mem _)))
      have HT : Hid ((ls.take (k + 1)).any badName = badName l) := Lib.hid (by rw [List.take_succ_eq_append_getElem hlt, List.any_append, HA.out, hle]; simp)
      have HW : Hid (badName l = true → ls.any badName = true) := Lib.hid (fun h => List.any_eq_true.2 ⟨l, by rw [← hle]; exact List.getElem_mem _, h⟩)
      clear hS hl hle
      cases hq : badName l with
      | true =>
        go_wp2_with fail
        refine HI.out.mono ?_
        rw [hq]
        rintro e w' ⟨rfl, b1⟩
        go_wp2
        go_ret
        exact ⟨⟨_, rfl, by rw [HW.out hq]; simp⟩, hB.trans (b1.mono hB.size)⟩
      | false =>
        go_wp2_with fail
        refine HI.out.mono ?_
        rw [hq]
        rintro e w' ⟨rfl, b1⟩
        go_wp2
        go_roundw
        case rel => exact ⟨k + 1, by omega, by go_num, hB.trans (b1.mono hB.size), Lib.hid (by rw [HT.out, hq])⟩
        case measure => simp [intOf]; omega
    · obtain rfl : k = ls.length := by omega
      have HA2 := HA.out
      rw [List.take_length] at HA2
      clear HA
      go_wp2
      go_ret
      exact ⟨⟨_, rfl, by rw [HA2]; rfl⟩, hB⟩

set_option maxHeartbeats 1000000 in
theorem ctf_calls (ls : List Bs) (b off cap : Nat) (w : World) (hS : Strs w b off ls) (hb : b < w.heap.size) (hl : ∀ l, l ∈ ls → l.length ≤ 1000000) (hn : ls.length ≤ 2000000) :
    Calls Tryz.prog 64 #[.slice (some ⟨b, off, none⟩) ls.length cap, .func (.func 65) #[] #[]] w fun e w' => e = .returned (.bool (ls.any badName)) ∧ Below w.heap.size w w' := by
  have HI := Lib.hid (ixf_calls ls b off cap w hS hb hl hn)
  clear hS hl
  go_enter Tryz.func64, Tryz.ntmps64
  go_wp2_with fail
  refine HI.out.mono ?_
  rintro e w1 ⟨⟨i, rfl, hi⟩, b1⟩
  go_wp2
  go_ret
  rw [← hi]
  exact ⟨rfl, b1⟩
end Go.Proofs.YtojppincaalibaaGreatDoor
