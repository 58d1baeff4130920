/- The row of bluebelllaw25.ArgsQuotes, and its card: whatever the words, the blanks and the template, it returns true, and they read as they did. -/
import Derived.Test.YtojppincaalibaaGreatDoorRow
import Derived.Test.YtojppincaalibaaGreatDoorLqA
import Derived.Test.YtojppincaalibaaGreatDoorTie
import Derived.Test.YtojppincaalibaaGreatDoorCards
import Derived.SevenTiedAt
import Derived.SliceStrings
set_option linter.unusedVariables false
namespace Go.Proofs.YtojppincaalibaaGreatDoor
open Go.ChangeShapes Go.WideShapes Go.ChangeAt Go.RowKit Go.ChangeMaps
set_option maxRecDepth 100000

theorem laidOut : laidOutB Tryz.prog = true := by kernel_rfl
theorem bytes_wf {z : Int} (h : (Lit.int .u8 z).wf = true) : ∃ n : Nat, n < 256 ∧ z = (n : Int) := by
  have h2 : 0 ≤ z ∧ z ≤ 255 := by simpa [Lit.wf, IntKind.min, IntKind.max, IntKind.signed, IntKind.bits] using h
  exact ⟨z.toNat, by omega, by omega⟩
/-- Words that came in, read. -/
theorem words_came {H : Type} {enc : TypeId × Value → H} {W : World} {fuel : Nat} {p : Option Addr} {n c : Nat} {x : DataW H × List MemPlace} (h : DataW.trod enc Tryz.prog W 0 (fun _ => true) true fuel 23 [.slice p n c] = some x) :
    ∃ wl : List Bs, wl.length = n ∧ n ≤ maxLen ∧ (∀ y ∈ wl, y.length ≤ maxLen) ∧ SlS W (.slice p n c) wl := by
  rcases open_strings Tryz.underlying23 Tryz.underlying9 (by kernel_rfl) h with ⟨hcs, _⟩ | ⟨a, len, cap, ss, hcs, _, hl, hm, hz, _, hcell, hsz⟩
  · simp at hcs
    obtain ⟨rfl, rfl, rfl⟩ := hcs
    exact ⟨[], rfl, Nat.zero_le _, fun y hy => (by cases hy), .inl ⟨⟨_, _, rfl⟩, rfl⟩⟩
  · simp at hcs
    obtain ⟨rfl, rfl, rfl⟩ := hcs
    have hzl : ss.length = c := by simpa using hz
    have hlen : ((ss.take n).map bl).length = n := by rw [List.length_map, List.length_take]; omega
    refine ⟨(ss.take n).map bl, hlen, by omega, fun y hy => ?_, ?_⟩
    · obtain ⟨s, hs, rfl⟩ := List.mem_map.1 hy
      rw [bl_len]
      exact hsz s (List.mem_of_mem_take hs)
    · by_cases h0 : n = 0
      · subst h0
        exact .inl ⟨⟨_, _, rfl⟩, by simp⟩
      · obtain ⟨b, off, spot⟩ := a
        have hc0 := hcell 0 (by omega)
        have hspot : spot = none := by simpa [Addr.add] using World.cell?_spot hc0
        subst hspot
        refine .inr ⟨b, off, c, by rw [hlen], ?_, fun i hi => ?_⟩
        · rcases Nat.lt_or_ge b W.heap.size with h' | h'
          · exact h'
          · simp [Addr.add, World.cell?, Array.getElem?_eq_none h'] at hc0
        · rw [hlen] at hi
          have hci := hcell i (by omega)
          rw [Go.WideShapes.add_plain] at hci
          rw [hci, List.getElem_map, List.getElem_take, List.getD_eq_getElem?_getD, List.getElem?_eq_getElem (by omega)]
          congr 2
/-- Bytes that came in, read. -/
theorem bytes_came {H : Type} {enc : TypeId × Value → H} {W : World} {fuel : Nat} {p : Option Addr} {n c : Nat} {x : DataW H × List MemPlace} (h : DataW.trod enc Tryz.prog W 0 (fun _ => true) true fuel 34 [.slice p n c] = some x) :
    n ≤ maxLen ∧ BySl W (.slice p n c) n := by
  rcases open_ints Tryz.underlying34 Tryz.underlying5 (by kernel_rfl) h with ⟨hcs, _⟩ | ⟨a, len, cap, zs, hcs, _, hl, hm, hz, _, hcell, hwz⟩
  · simp at hcs
    obtain ⟨rfl, rfl, rfl⟩ := hcs
    exact ⟨Nat.zero_le _, .inl ⟨⟨_, _, rfl⟩, rfl⟩⟩
  · simp at hcs
    obtain ⟨rfl, rfl, rfl⟩ := hcs
    have hzl : zs.length = c := by simpa using hz
    refine ⟨by omega, ?_⟩
    by_cases h0 : n = 0
    · subst h0
      exact .inl ⟨⟨_, _, rfl⟩, rfl⟩
    · obtain ⟨b, off, spot⟩ := a
      have hc0 := hcell 0 (by omega)
      have hspot : spot = none := by simpa [Addr.add] using World.cell?_spot hc0
      subst hspot
      refine .inr ⟨b, off, c, rfl, ?_, fun i hi => ?_⟩
      · rcases Nat.lt_or_ge b W.heap.size with h' | h'
        · exact h'
        · simp [Addr.add, World.cell?, Array.getElem?_eq_none h'] at hc0
      · have hci := hcell i (by omega)
        rw [Go.WideShapes.add_plain] at hci
        have hmem : zs.getD i 0 ∈ zs := by
          rw [List.getD_eq_getElem?_getD, List.getElem?_eq_getElem (by omega)]
          exact List.getElem_mem _
        obtain ⟨m, hm1, hm2⟩ := bytes_wf (hwz _ hmem)
        exact ⟨m, hm1, by rw [hci, hm2]⟩

theorem quotes_lifted (os : Os) (started : os.Started) (H : Type) (enc : TypeId × Value → H) :
    ReturnsInHanded {} Tryz.checked os 4 .any (fun w args => (Rows.argsQuotesSpec.pre enc Tryz.prog Tryz.f4 Rows.argsQuotesRow.domain false w args ∧ laidMetH Tryz.prog laidL w) ∧ sizedMet enc Tryz.prog Tryz.f4 (OpenSpec.ofChange Rows.argsQuotesSpec) false w args)
      (Rows.argsQuotesSpec.post enc Tryz.prog Tryz.f4 false true false false) := by
  refine returns_laid (C := Tryz.checked) (X := fun w _ => laidMetH Tryz.prog laidL w) (fun _ _ _ hh h => h.of_heap hh) ownNone started (by kernel_rfl) Tryz.func4
    (ChangeSpec.witness_shaped (enc := enc) (C := Tryz.checked) (os := os) (X := fun w _ => laidMetH Tryz.prog laidL w) false (World.laidAll Tryz.prog os laidL) #[.slice none 0 0, .slice none 0 0, .string ⟨#[]⟩] 8 (World.laidAll_os _ _ _)
      (World.shaped_of_ZipB (by kernel_rfl) (by kernel_rfl)) (by kernel_rfl) (by kernel_rfl) (by kernel_rfl) (laid_met os _)) ?_
  intro W base args ds gs before hval0 hW hL hsh
  have hval : ∀ (j : Nat) t v, Tryz.f4.params[j]? = some t → args[j]? = some v → Value.okWide Tryz.prog W .any base t v := hval0
  have hW' := hW
  obtain ⟨p, q, hA0, hV, rfl, _, _⟩ := hW
  have hA : DataW.TrodAll enc Tryz.prog W 0 (fun _ => true) true Tryz.f4.params.toList args.toList ds p := hA0
  rw [Tryz.params4] at hA hval
  obtain ⟨v0, vs0, d0, ds0, p0, q0, hargs, rfl, rfl, h0, r0⟩ := trodAll_cons hA
  obtain ⟨v1, vs1, d1, ds1, p1, q1, rfl, rfl, rfl, h1, r1⟩ := trodAll_cons r0
  obtain ⟨v2, vs2, d2, ds2, p2, q2, rfl, rfl, rfl, h2, r2⟩ := trodAll_cons r1
  obtain ⟨rfl, rfl, rfl⟩ := trodAll_nil r2
  obtain rfl : args = #[v0, v1, v2] := by cases args; simp_all
  obtain ⟨rfl, rfl⟩ := trodVars_none hV
  obtain ⟨a0, len0, cap0, rfl⟩ := okWide_slice Tryz.underlying23 (hval 0 23 v0 rfl rfl)
  obtain ⟨a1, len1, cap1, rfl⟩ := okWide_slice Tryz.underlying34 (hval 1 34 v1 rfl rfl)
  have k0 := h0
  have lt0 : ∀ x ∈ p0, x.block < W.heap.size := by obtain ⟨m, hm⟩ := k0; exact DataW.trod_lt m _ _ _ hm
  have k1 := h1
  have lt1 : ∀ x ∈ p1, x.block < W.heap.size := by obtain ⟨m, hm⟩ := k1; exact DataW.trod_lt m _ _ _ hm
  obtain ⟨wl, hwn, hwm, hws, hwS⟩ : ∃ wl : List Bs, wl.length = len0 ∧ len0 ≤ maxLen ∧ (∀ y ∈ wl, y.length ≤ maxLen) ∧ SlS W (.slice a0 len0 cap0) wl := by
    obtain ⟨fuel, hf⟩ := h0
    exact words_came hf
  obtain ⟨hbm, hbS⟩ : len1 ≤ maxLen ∧ BySl W (.slice a1 len1 cap1) len1 := by
    obtain ⟨fuel, hf⟩ := h1
    exact bytes_came hf
  obtain ⟨s2, rfl, rfl, rfl, z2⟩ := open_string Tryz.underlying9 (hval 2 9 v2 rfl rfl) h2
  clear hA0 hV hval0 hval hA
  refine (argsQuotes_calls _ _ wl len1 s2 W hwS hbS (by unfold maxLen at z2; omega) (fun y hy => by have := hws y hy; unfold maxLen at this; omega) (by unfold maxLen at hwm; omega) (by unfold maxLen at hbm; omega) (glob_of_laid hsh hL)).mono ?_
  rintro e W' ⟨rfl, bel⟩
  exact ⟨_, rfl, _, _, _, [], _, [], hW', trodAll_mk1 (shut_bool Tryz.underlying4 _), (trodAll_cons_mk (Below.trod laidOut (by kernel_rfl) (of_decide_eq_true (by kernel_rfl)) k0 bel lt0) (trodAll_cons_mk (Below.trod laidOut (by kernel_rfl) (of_decide_eq_true (by kernel_rfl)) k1 bel lt1) (trodAll_cons_mk (shut_string Tryz.underlying9 z2) trodAll_mk0))), rfl, bel.frame _, fun h => by cases h⟩

theorem argsQuotes_holds : Rows.ArgsQuotesSaid :=
  OpenClaim.holds_of_wide 4 Tryz.f4 rfl rfl rfl rfl rfl rfl rfl ⟨rfl, rfl, rfl, rfl, rfl⟩ rfl rfl rfl rfl rfl (by kernel_rfl) Tryz.func4 (by kernel_rfl)
    (of_decide_eq_true (by kernel_rfl)) (by unfold Func.isWrapper; first | (rw [if_pos (by decide +kernel)]; kernel_rfl) | (rw [if_neg (by decide +kernel)]; exact ⟨rfl, rfl⟩))
    (fun os started H enc _ => quotes_lifted os started H enc)

theorem argsQuotes_card : Rows.ArgsQuotesCardSaid :=
  Claim7.holds_tied_plain_at .later [] [.data, .data, .data, .data, .sentinel, .sentinel, .pinned, .pinned] true (true, "751db233e6a2e784877b2a88a8afaf535e16907ccd163c703b78b1eede6ecb7a") true argsQuotes_holds (fun _ h => by cases h) (by kernel_rfl) (fun _ h => by cases h) argsQuotes_row_tie rfl ⟨rfl, rfl⟩ (by kernel_rfl) rfl
    (fun f fn hf hfn => by
      obtain rfl : f = 4 := Option.some.inj ((show Tryz.prog.funcNamed "bluebell/bluebelllaw25.ArgsQuotes" = some 4 by kernel_rfl).symm.trans hf) |>.symm
      obtain rfl : fn = Tryz.f4 := (Option.some.inj (Tryz.func4.symm.trans hfn)).symm
      exact ⟨by kernel_rfl, fun j t ht => by
        rw [Tryz.params4] at ht
        have hm : t ∈ [23, 34, 9] := by simpa using Array.mem_of_getElem? ht
        have hall : ([23, 34, 9].all fun u => !Tryz.prog.wantsStandIn u) = true := by kernel_rfl
        exact (show Tryz.prog.wantsStandIn t = false by simpa using List.all_eq_true.1 hall t hm)⟩)
    (by kernel_rfl)
#print axioms argsQuotes_card
end Go.Proofs.YtojppincaalibaaGreatDoor
