/- strings.NewReplacer at the six texts that package args gives it, and what it builds. -/
import Derived.Test.YtojppincaalibaaGreatDoorRepA
import Derived.Test.YtojppincaalibaaGreatDoorBld
import Derived.Deep.WholeRow
import Derived.Handy
import Derived.Lib.Hide
set_option linter.unusedVariables false
set_option linter.unusedSimpArgs false
set_option maxRecDepth 100000
namespace Go.Proofs.YtojppincaalibaaGreatDoor
open Go.Shelf Go.RowKit

theorem infoStr : (Tryz.prog.info? 9).map (fun i => (i.zero, i.size, i.bytes)) = some (some (.string ⟨#[]⟩), 1, 16) := by kernel_rfl

def six : List Value := [.string ⟨#[42]⟩, .string ⟨#[42, 42]⟩, .string ⟨#[34]⟩, .string ⟨#[42, 34]⟩, .string ⟨#[10]⟩, .string ⟨#[42, 110]⟩]

set_option maxHeartbeats 1600000 in
theorem newReplacer_calls (k : Nat) (w : World) (hc : ∀ j v, six[j]? = some v → w.cell? ⟨k, j, none⟩ = some v) (hk : k < w.heap.size) :
    Calls Tryz.prog 57 #[.slice (some ⟨k, 0, none⟩) 6 6] w fun e w' => ∃ g cap w1, e = .returned (.pointer (some ⟨w1.heap.size, 0, none⟩)) ∧ w' = w1.alloc (.cells #[.int .u32 0, .int .i32 0, .int .u32 0, .nilIface, .slice (some ⟨g, 0, none⟩) 6 cap] 157) ∧
      Below w.heap.size w w1 ∧ w1.ownsRow w.heap.size 9 1 (.slice (some ⟨g, 0, none⟩) 6 cap) 6 six := by
  obtain ⟨i0, hi, hz0, hz1, hz2⟩ := info_parts infoStr
  go_enter Tryz.func57, Tryz.ntmps57
  go_wp2_with (at_builtin; refine wpList_append_own _ rfl _ _ 23 rfl w.heap.size 9 i0 (.string ⟨#[]⟩) 1 16 Tryz.underlying23 hi hz0 hz1 hz2 rfl (by decide) _ _ _ rfl (World.ownsRow_nil _ _ _ _) ⟨k, 0, none⟩ 6 6 six rfl rfl ?c1 ?c2 ?c3 ?c4 ?c5 ?_)
  case c1 =>
    intro j u hj
    have := hc j u hj
    have ha : (⟨k, 0, none⟩ : Addr).add (j * 1) = ⟨k, j, none⟩ := by unfold Addr.add; split <;> simp_all
    first | (rw [ha]; exact this) | (simp at ha ⊢; simpa [ha] using this)
  case c2 => decide
  case c3 => unfold maxLen; omega
  case c4 => omega
  case c5 => omega
  intro v' w1 hown hgrow _
  obtain ⟨g, cap, rfl⟩ : ∃ g cap, v' = .slice (some ⟨g, 0, none⟩) 6 cap := by
    rcases hown.2 with ⟨_, h0⟩ | ⟨g, cap, cur, hv, _⟩
    · simp [six] at h0
    · exact ⟨g, cap, hv⟩
  have HO := Lib.hid hown
  have HB := Lib.hid ((Below.refl w.heap.size w).grown hgrow (Nat.le_refl _) (fun k e => by simp [Value.ownBlock] at e))
  clear hown hgrow
  go_wp2
  go_ret
  exact ⟨g, cap, w1, rfl, rfl, HB.out, by simpa using HO.out⟩
end Go.Proofs.YtojppincaalibaaGreatDoor
