/- The walk of bluebelllaw25.heavy. -/
import Derived.Test.YtojppincaalibaaGreatDoorEqS
set_option linter.unusedVariables false
set_option linter.unusedSimpArgs false
set_option maxRecDepth 100000
namespace Go.Proofs.YtojppincaalibaaGreatDoor
open Go.Shelf Go.RowKit

/-- Is one of these longer than 1200 bytes? -/
def heavyR (l : List Bs) : Bool := l.any fun x => decide (1200 < x.length)
theorem heavy_take {l : List Bs} {k : Nat} (hk : k < l.length) (h : heavyR (l.take k) = false) : heavyR (l.take (k + 1)) = decide (1200 < l[k].length) := by
  unfold heavyR at *
  rw [List.take_succ_eq_append_getElem hk, List.any_append, h]
  simp
theorem heavy_true {l : List Bs} {k : Nat} (hk : k < l.length) (h : 1200 < l[k].length) : heavyR l = true := by
  unfold heavyR
  rw [List.any_eq_true]
  exact ⟨l[k], List.getElem_mem hk, by simpa using h⟩
theorem strs_two (w : World) (a b : Bs) (t : TypeId) : SlS (w.alloc (.cells #[.string ⟨a.toArray⟩, .string ⟨b.toArray⟩] t)) (.slice (some ⟨w.heap.size, 0, none⟩) 2 2) [a, b] :=
  .inr ⟨w.heap.size, 0, 2, rfl, by rw [World.size_alloc]; exact Nat.lt_succ_self _, strs_new w [a, b] t⟩
set_option maxHeartbeats 2000000 in
theorem heavy_calls (va : Value) (a : List Bs) (w : World) (ha : SlS w va a) (hla : a.length ≤ 100000000) (hsz : ∀ x ∈ a, x.length ≤ 9223372036854775807) :
    Calls Tryz.prog 7 #[va] w fun e w' => e = .returned (.bool (heavyR a)) ∧ Below w.heap.size w w' := by
  obtain ⟨pa, ca, hva⟩ : ∃ pa ca, va = .slice pa a.length ca := by
    rcases ha with ⟨⟨p, c, rfl⟩, rfl⟩ | ⟨b, off, cap, rfl, _⟩
    · exact ⟨_, _, rfl⟩
    · exact ⟨_, _, rfl⟩
  subst hva
  have HA := Lib.hid ha
  clear ha
  have HS := Lib.hid hsz
  clear hsz
  go_enter Tryz.func7, Tryz.ntmps7
  go_wp2
  go_loopw [3] (fun i wr => ∃ k : Nat, k ≤ a.length ∧ i = .int .i64 k ∧ Below w.heap.size w wr ∧ Hid (heavyR (a.take k) = false)) (fun i _ => (a.length - intOf i).toNat)
  case atStart => exact ⟨0, by omega, rfl, Below.refl _ _, Lib.hid rfl⟩
  case round =>
    obtain ⟨k, hk, rfl, hB, HT⟩ := hrel
    by_cases hlt : k < a.length
    · obtain ⟨g1, o1, rfl, c1⟩ : ∃ g o, pa = some ⟨g, o, none⟩ ∧ wr.cell? ⟨g, o + k, none⟩ = some (.string (mkS a[k])) := by
        rcases HA.out.below hB with ⟨_, e⟩ | ⟨g, o, cap, e, h1, h2⟩
        · rw [e] at hlt; exact absurd hlt (Nat.not_lt_zero _)
        · simp at e; exact ⟨g, o, e.1, h2 k hlt⟩
      have hsk : a[k].length ≤ 9223372036854775807 := HS.out _ (List.getElem_mem hlt)
      by_cases hx : 1200 < a[k].length
      · have HE := Lib.hid (heavy_true hlt hx)
        obtain ⟨x, hxx⟩ : ∃ x, a[k] = x := ⟨_, rfl⟩
        rw [hxx] at c1 hx hsk
        clear hxx
        obtain ⟨n, hn⟩ : ∃ n, (mkS x).size = n := ⟨_, rfl⟩
        obtain rfl : n = x.length := by rw [← hn]; rfl
        go_wp2
        go_ret
        rw [HE.out]
        exact ⟨rfl, hB⟩
      · have HE : Hid (heavyR (a.take (k + 1)) = false) := Lib.hid (by rw [heavy_take hlt HT.out]; simpa using hx)
        obtain ⟨x, hxx⟩ : ∃ x, a[k] = x := ⟨_, rfl⟩
        rw [hxx] at c1 hx hsk
        clear hxx
        obtain ⟨n, hn⟩ : ∃ n, (mkS x).size = n := ⟨_, rfl⟩
        obtain rfl : n = x.length := by rw [← hn]; rfl
        go_wp2
        exact ⟨⟨k + 1, by omega, by go_num, hB, HE⟩, by simp [intOf]; omega⟩
    · obtain rfl : k = a.length := by omega
      have HE : Hid (heavyR a = false) := Lib.hid (by
        have h := HT.out
        rwa [List.take_length] at h)
      go_wp2
      go_ret
      rw [HE.out]
      exact ⟨rfl, hB⟩
end Go.Proofs.YtojppincaalibaaGreatDoor
