/- Slices of strings as values; the walk of bluebellref00.EqStrings. -/
import Derived.Test.YtojppincaalibaaGreatDoorArgV
import Derived.Deep.QuietTactic
import Derived.BigQuiet
import Derived.Outline
set_option linter.unusedVariables false
set_option linter.unusedSimpArgs false
set_option maxRecDepth 100000
namespace Go.Proofs.YtojppincaalibaaGreatDoor
open Go.Shelf Go.RowKit

/-- A value is a slice that reads as these strings. -/
def SlS (w : World) (v : Value) (l : List Bs) : Prop :=
  ((∃ p c, v = .slice p 0 c) ∧ l = []) ∨ ∃ b off cap, v = .slice (some ⟨b, off, none⟩) l.length cap ∧ b < w.heap.size ∧ Strs w b off l
theorem SlS.below {w w' : World} {v : Value} {l : List Bs} (h : SlS w v l) (hb : Below w.heap.size w w') : SlS w' v l := by
  rcases h with h | ⟨b, off, cap, h1, h2, h3⟩
  · exact .inl h
  · exact .inr ⟨b, off, cap, h1, Nat.lt_of_lt_of_le h2 hb.size, h3.below hb h2⟩
theorem SlS.own {w : World} {B : Nat} {v : Value} {l : List Bs} (h : w.ownsRow B 9 1 v l.length (l.map fun x => Value.string (mkS x))) : SlS w v l := by
  rcases h.2 with ⟨rfl, h0⟩ | ⟨g, cap, cur, rfl, hB, hh, hle, -, hsz, htk⟩
  · exact .inl ⟨⟨_, _, rfl⟩, List.length_eq_zero_iff.1 h0⟩
  · refine .inr ⟨g, 0, cap, rfl, (Array.getElem?_eq_some_iff.1 hh).1, fun i hi => ?_⟩
    rw [Nat.zero_add, cellOf hh, ← Array.getElem?_toList]
    have : (cur.toList.take (l.length * 1))[i]? = (l.map fun x => Value.string (mkS x))[i]? := by rw [htk]
    rw [List.getElem?_take_of_lt (by omega), List.getElem?_map, List.getElem?_eq_getElem hi] at this
    exact this

theorem below_drewN {B : Nat} {a w : World} (h : Below B a w) (n : Nat) : Below B a (w.drewN n) := ⟨h.os, h.tape, h.output, h.size, h.block⟩
theorem take_eq_succ {a b : List Bs} {k : Nat} (h : a.take k = b.take k) (ha : k < a.length) (hb : k < b.length) (e : a[k] = b[k]) : a.take (k + 1) = b.take (k + 1) := by
  rw [List.take_succ_eq_append_getElem ha, List.take_succ_eq_append_getElem hb, h, e]
set_option maxHeartbeats 2000000 in
theorem eqs_calls (va vb : Value) (a b : List Bs) (w : World) (ha : SlS w va a) (hb : SlS w vb b) (hla : a.length ≤ 100000000) (hlb : b.length ≤ 100000000) :
    Calls Tryz.prog 10 #[va, vb] w fun e w' => e = .returned (.bool (decide (a = b))) ∧ Below w.heap.size w w' := by
  obtain ⟨pa, ca, hva⟩ : ∃ pa ca, va = .slice pa a.length ca := by
    rcases ha with ⟨⟨p, c, rfl⟩, rfl⟩ | ⟨b, off, cap, rfl, _⟩
    · exact ⟨_, _, rfl⟩
    · exact ⟨_, _, rfl⟩
  obtain ⟨pb, cb, hvb⟩ : ∃ pb cb, vb = .slice pb b.length cb := by
    rcases hb with ⟨⟨p, c, rfl⟩, rfl⟩ | ⟨b, off, cap, rfl, _⟩
    · exact ⟨_, _, rfl⟩
    · exact ⟨_, _, rfl⟩
  subst hva hvb
  have HA := Lib.hid ha
  have HB := Lib.hid hb
  clear ha hb
  by_cases hl : a.length = b.length
  · have hlb' : ¬ a.length < b.length := by omega
    have hlz : ((a.length : Int) != (b.length : Int)) = false := by simp; omega
    go_enter Tryz.func10, Tryz.ntmps10
    have HL := Lib.hid hl
    clear hl
    go_wp2
    go_loopw [5] (fun i wr => ∃ k : Nat, k ≤ a.length ∧ i = .int .i64 k ∧ Below w.heap.size w wr ∧ Hid (a.take k = b.take k)) (fun i _ => (a.length - intOf i).toNat)
    case atStart => exact ⟨0, by omega, rfl, Below.refl _ _, Lib.hid rfl⟩
    case round =>
      obtain ⟨k, hk, rfl, hB, HT⟩ := hrel
      by_cases hlt : k < a.length
      · have hltb : k < b.length := by have := HL.out; omega
        obtain ⟨g1, o1, rfl, c1⟩ : ∃ g o, pa = some ⟨g, o, none⟩ ∧ wr.cell? ⟨g, o + k, none⟩ = some (.string (mkS a[k])) := by
          rcases HA.out.below hB with ⟨_, e⟩ | ⟨g, o, cap, e, h1, h2⟩
          · rw [e] at hlt; exact absurd hlt (Nat.not_lt_zero _)
          · simp at e; exact ⟨g, o, e.1, h2 k hlt⟩
        obtain ⟨g2, o2, rfl, c2⟩ : ∃ g o, pb = some ⟨g, o, none⟩ ∧ wr.cell? ⟨g, o + k, none⟩ = some (.string (mkS b[k])) := by
          rcases HB.out.below hB with ⟨_, e⟩ | ⟨g, o, cap, e, h1, h2⟩
          · rw [e] at hltb; exact absurd hltb (Nat.not_lt_zero _)
          · simp at e; exact ⟨g, o, e.1, h2 k hltb⟩
        by_cases hxy : a[k] = b[k]
        · have HT2 := Lib.hid (take_eq_succ HT.out hlt hltb hxy)
          obtain ⟨x, hx⟩ : ∃ x, a[k] = x := ⟨_, rfl⟩
          rw [← hxy, hx] at c2
          rw [hx] at c1
          have heq : (mkS x != mkS x) = false := by
            show (!(x.toArray == x.toArray)) = false
            simp
          clear hx hxy
          go_wp2
          go_quiet (fail)
          go_wp2
          exact ⟨⟨k + 1, by omega, by go_num, below_drewN hB _, HT2⟩, by simp [intOf]; omega⟩
        · obtain ⟨x, hx⟩ : ∃ x, a[k] = x := ⟨_, rfl⟩
          obtain ⟨y, hy⟩ : ∃ y, b[k] = y := ⟨_, rfl⟩
          have HNE : Hid (decide (a = b) = false) := Lib.hid (by
            rw [decide_eq_false_iff_not]
            intro e
            subst e
            exact hxy rfl)
          rw [hx, hy] at hxy
          rw [hx] at c1
          rw [hy] at c2
          have hne : (x == y) = false := by simpa using hxy
          change wr.cell? _ = some (.string ⟨x.toArray⟩) at c1
          change wr.cell? _ = some (.string ⟨y.toArray⟩) at c2
          clear hx hy
          go_wp2
          go_quiet (fail)
          go_wp2
          go_ret
          rw [HNE.out]
          exact ⟨rfl, below_drewN hB _⟩
      · obtain rfl : k = a.length := by omega
        have HE : Hid (decide (a = b) = true) := Lib.hid (by
          have h := HT.out
          rw [List.take_length, HL.out, List.take_length] at h
          rw [decide_eq_true h])
        go_wp2
        go_ret
        rw [HE.out]
        exact ⟨rfl, hB⟩
  · have hlz : ((a.length : Int) != (b.length : Int)) = true := by simp; omega
    have HE : Hid (decide (a = b) = false) := Lib.hid (by
      rw [decide_eq_false_iff_not]
      intro e
      exact hl (by rw [e]))
    clear hl
    go_enter Tryz.func10, Tryz.ntmps10
    go_wp2
    go_ret
    rw [HE.out]
    exact ⟨rfl, Below.refl _ _⟩
end Go.Proofs.YtojppincaalibaaGreatDoor
