/- The walk of the replacer's Replace. -/
import Derived.Test.YtojppincaalibaaGreatDoorRepD
import Derived.Test.YtojppincaalibaaGreatDoorArgE
import Derived.Test.YtojppincaalibaaGreatDoorShelf
import Derived.Laws.CopyOwn
import Derived.Deep.RegionLaw
import Derived.Deep.QuietTactic
import Derived.BigQuiet
import Derived.Lib.LazyBuf
set_option linter.unusedVariables false
set_option linter.unusedSimpArgs false
set_option maxRecDepth 100000
namespace Go.Proofs.YtojppincaalibaaGreatDoor
open Go.Shelf Go.RowKit

theorem doneAt3 (c : UInt8) : doneAt 3 c.toNat = isSp c := by
  unfold doneAt isSp
  rw [Bool.eq_iff_iff]
  simp [← UInt8.toNat_inj]
theorem xb_of {c : UInt8} (h : isSp c = true) : (xb c.toNat : Int) = (xbU c).toNat := by
  unfold isSp at h
  simp at h
  rcases h with (rfl | rfl) | rfl <;> rfl
theorem RB.at_sp {n k2 : Nat} {W : World} (h : RB n k2 3 W) (c : UInt8) (hs : isSp c = true) : ∃ g cc, W.cell? ⟨k2, c.toNat, none⟩ = some (.slice (some ⟨g, 0, none⟩) 2 cc) ∧ 2 ≤ cc ∧ W.cell? ⟨g, 0, none⟩ = some (.int .u8 42) ∧ W.cell? ⟨g, 1, none⟩ = some (.int .u8 (xbU c).toNat) := by
  obtain ⟨C, tr, hC, hsz, h256, hown, hne, hall⟩ := h
  obtain ⟨v, hv, hR⟩ := hall c.toNat (UInt8.toNat_lt c)
  unfold RepAt at hR
  rw [doneAt3, if_pos hs] at hR
  obtain ⟨g, cc, cells, fz, rfl, h1, h2, h3, h4, h5⟩ := hR
  exact ⟨g, cc, (cellOf hC).trans hv, h2, (cellOf h3).trans h4, by rw [cellOf h3, h5, xb_of hs]⟩
theorem RB.at_no {n k2 : Nat} {W : World} (h : RB n k2 3 W) (c : UInt8) (hs : isSp c = false) : W.cell? ⟨k2, c.toNat, none⟩ = some (.slice none 0 0) := by
  obtain ⟨C, tr, hC, hsz, h256, hown, hne, hall⟩ := h
  obtain ⟨v, hv, hR⟩ := hall c.toNat (UInt8.toNat_lt c)
  unfold RepAt at hR
  rw [doneAt3, if_neg (by simp [hs])] at hR
  rw [cellOf hC, hv, hR]
theorem RB.list {n k2 : Nat} {W : World} (h : RB n k2 3 W) : ∃ g cc, W.cell? ⟨k2, 256, none⟩ = some (.slice (some ⟨g, 0, none⟩) 3 cc) ∧ W.cell? ⟨g, 0, none⟩ = some (.string ⟨#[10]⟩) ∧ W.cell? ⟨g, 1, none⟩ = some (.string ⟨#[34]⟩) ∧ W.cell? ⟨g, 2, none⟩ = some (.string ⟨#[42]⟩) := by
  obtain ⟨C, tr, hC, hsz, h256, hown, hne, hall⟩ := h
  obtain ⟨g, cc, rfl⟩ : ∃ g cc, tr = .slice (some ⟨g, 0, none⟩) 3 cc := by
    rcases hown.2 with ⟨_, h0⟩ | ⟨g, cap, cur, hv, _⟩
    · simp [toL] at h0
    · exact ⟨g, cap, hv⟩
  have hc := fun j v => hown.cells (g := g) rfl j v
  exact ⟨g, cc, (cellOf hC).trans h256, by simpa [Addr.add] using hc 0 _ rfl, by simpa [Addr.add] using hc 1 _ rfl, by simpa [Addr.add] using hc 2 _ rfl⟩

/-- What the counting has come to behind k bytes. -/
def pc (l : Bs) : Nat → Nat
  | 0 => 0
  | 1 => Lib.countByte l 10
  | 2 => Lib.countByte l 10 + Lib.countByte l 34
  | _ => Lib.countByte l 10 + Lib.countByte l 34 + Lib.countByte l 42
theorem pc_le (l : Bs) (k : Nat) : pc l k ≤ 3 * l.length := by
  have h : ∀ c, Lib.countByte l c ≤ l.length := fun c => List.count_le_length
  have h1 := h 10; have h2 := h 34; have h3 := h 42
  unfold pc
  split <;> omega
theorem pw_below_drewN {B : Nat} {w W : World} (h : Below B w W) (n : Nat) : Below B w (W.drewN n) := ⟨h.os, h.tape, h.output, h.size, h.block⟩
theorem take_splice {α : Type} (L : List α) (J : Nat) (cs : List α) (h : J ≤ L.length) : (splice L J cs).take (J + cs.length) = L.take J ++ cs := by
  unfold splice
  rw [← List.append_assoc, List.take_append_of_le_length (by simp; omega), List.take_of_length_le (by simp; omega)]

set_option maxHeartbeats 4000000 in
theorem bsrReplace_calls (n k2 : Nat) (s : ByteArray) (w : World) (hs : s.size ≤ 1000000) (hR : RB n k2 3 w) :
    Calls Tryz.prog 215 #[.pointer (some ⟨k2, 0, none⟩), .string s] w fun e w' => e = .returned (.string (mkS (escL (bl s)))) ∧ Below w.heap.size w w' := by
  obtain ⟨gt, ct, t0, l0, l1, l2⟩ := hR.list
  obtain ⟨ga, ca, a0, a1, a2, a3⟩ := hR.at_sp 10 rfl
  obtain ⟨gb, cb, b0, b1, b2, b3⟩ := hR.at_sp 34 rfl
  obtain ⟨gc, cc, c0, c1, c2, c3⟩ := hR.at_sp 42 rfl
  have x10 : ∀ h, ((⟨#[10]⟩ : ByteArray)[0]'h).toNat = 10 := fun _ => rfl
  have x34 : ∀ h, ((⟨#[34]⟩ : ByteArray)[0]'h).toNat = 34 := fun _ => rfl
  have x42 : ∀ h, ((⟨#[42]⟩ : ByteArray)[0]'h).toNat = 42 := fun _ => rfl
  have a0' : w.cell? ⟨k2, 10, none⟩ = some (.slice (some ⟨ga, 0, none⟩) 2 ca) := a0
  have b0' : w.cell? ⟨k2, 34, none⟩ = some (.slice (some ⟨gb, 0, none⟩) 2 cb) := b0
  have c0' : w.cell? ⟨k2, 42, none⟩ = some (.slice (some ⟨gc, 0, none⟩) 2 cc) := c0
  clear a0 b0 c0
  by_cases h24 : 24 ≤ s.size
  · have h24b : decide ((24 : Int) ≤ s.size) = true := by simp; omega
    go_enter Tryz.func215, Tryz.ntmps215
    go_wp2
    go_loopw [5, 6, 8, 9, 32] (fun ns an _ _ i wr => ∃ (k nd : Nat), k ≤ 3 ∧ i = .int .i64 k ∧ ns = .int .i64 ((s.size : Int) + pc (bl s) k) ∧ an = .bool (decide (pc (bl s) k ≠ 0)) ∧ wr = w.drewN nd) (fun _ _ _ _ i _ => 3 - (intOf i).toNat)
    case atStart => exact ⟨0, 0, by omega, rfl, by simp [pc], by simp [pc], rfl⟩
    case round =>
      obtain ⟨k, nd, hk, rfl, rfl, rfl, rfl⟩ := hrel
      rcases (show k = 0 ∨ k = 1 ∨ k = 2 ∨ k = 3 by omega) with rfl | rfl | rfl | rfl
      · have hle : pc (bl s) 0 ≤ 3000000 := Nat.le_trans (pc_le _ _) (by rw [bl_len]; omega)
        have HP := Lib.hid (show pc (bl s) 1 = pc (bl s) 0 + Lib.countByte (bl s) 10 by simp [pc])
        obtain ⟨q, hq⟩ : ∃ q, pc (bl s) 0 = q := ⟨_, rfl⟩
        obtain ⟨m, hm⟩ : ∃ m, Lib.countByte s.data.toList 10 = m := ⟨_, rfl⟩
        have hml : m ≤ s.size := by rw [← hm, ← bl_len]; exact List.count_le_length
        have HP2 : pc (bl s) 1 = q + m := by rw [HP.out, hq, show Lib.countByte (bl s) 10 = m from hm]
        have HPH := Lib.hid HP2
        rw [hq] at hle
        rw [hq]
        clear HP2 HP
        have hcnt : ∀ W, Calls Tryz.prog 103 #[.string s, .string ⟨#[10]⟩] W fun e w' => e = .returned (.int .i64 m) ∧ w' = W := fun W => by
          have := Tryz.strings_Count_one s 10 W
          rwa [hm] at this
        have HC := Lib.hid hcnt
        clear hcnt hm hq
        by_cases hz : m = 0
        · have hz' : ((m : Int) != 0) = false := by simp [hz]
          have HZ := Lib.hid hz
          clear hz
          go_wp2_with (go_at_call 103; refine (HC.out _).mono ?_; rintro e W1 ⟨rfl, rfl⟩)
          go_roundw
          case rel => exact ⟨1, nd, by omega, rfl, by rw [HPH.out, HZ.out]; rfl, by rw [HPH.out, HZ.out]; simp, rfl⟩
          case measure => simp [intOf]
        · have hz' : ((m : Int) != 0) = true := by simp; omega
          have HZ := Lib.hid hz
          clear hz
          go_wp2_with (go_at_call 103; refine (HC.out _).mono ?_; rintro e W1 ⟨rfl, rfl⟩)
          go_region
          go_wp2
          go_roundw
          case rel => exact ⟨1, nd + 1, by omega, rfl, by rw [HPH.out]; go_num, by have := HZ.out; rw [HPH.out]; simp; omega, rfl⟩
          case measure => simp [intOf]
      · have hle : pc (bl s) 1 ≤ 3000000 := Nat.le_trans (pc_le _ _) (by rw [bl_len]; omega)
        have HP := Lib.hid (show pc (bl s) 2 = pc (bl s) 1 + Lib.countByte (bl s) 34 by simp [pc])
        obtain ⟨q, hq⟩ : ∃ q, pc (bl s) 1 = q := ⟨_, rfl⟩
        obtain ⟨m, hm⟩ : ∃ m, Lib.countByte s.data.toList 34 = m := ⟨_, rfl⟩
        have hml : m ≤ s.size := by rw [← hm, ← bl_len]; exact List.count_le_length
        have HP2 : pc (bl s) 2 = q + m := by rw [HP.out, hq, show Lib.countByte (bl s) 34 = m from hm]
        have HPH := Lib.hid HP2
        rw [hq] at hle
        rw [hq]
        clear HP2 HP
        have hcnt : ∀ W, Calls Tryz.prog 103 #[.string s, .string ⟨#[34]⟩] W fun e w' => e = .returned (.int .i64 m) ∧ w' = W := fun W => by
          have := Tryz.strings_Count_one s 34 W
          rwa [hm] at this
        have HC := Lib.hid hcnt
        clear hcnt hm hq
        by_cases hz : m = 0
        · have hz' : ((m : Int) != 0) = false := by simp [hz]
          have HZ := Lib.hid hz
          clear hz
          go_wp2_with (go_at_call 103; refine (HC.out _).mono ?_; rintro e W1 ⟨rfl, rfl⟩)
          go_roundw
          case rel => exact ⟨2, nd, by omega, rfl, by rw [HPH.out, HZ.out]; rfl, by rw [HPH.out, HZ.out]; simp, rfl⟩
          case measure => simp [intOf]
        · have hz' : ((m : Int) != 0) = true := by simp; omega
          have HZ := Lib.hid hz
          clear hz
          go_wp2_with (go_at_call 103; refine (HC.out _).mono ?_; rintro e W1 ⟨rfl, rfl⟩)
          go_region
          go_wp2
          go_roundw
          case rel => exact ⟨2, nd + 1, by omega, rfl, by rw [HPH.out]; go_num, by have := HZ.out; rw [HPH.out]; simp; omega, rfl⟩
          case measure => simp [intOf]
      · have hle : pc (bl s) 2 ≤ 3000000 := Nat.le_trans (pc_le _ _) (by rw [bl_len]; omega)
        have HP := Lib.hid (show pc (bl s) 3 = pc (bl s) 2 + Lib.countByte (bl s) 42 by simp [pc])
        obtain ⟨q, hq⟩ : ∃ q, pc (bl s) 2 = q := ⟨_, rfl⟩
        obtain ⟨m, hm⟩ : ∃ m, Lib.countByte s.data.toList 42 = m := ⟨_, rfl⟩
        have hml : m ≤ s.size := by rw [← hm, ← bl_len]; exact List.count_le_length
        have HP2 : pc (bl s) 3 = q + m := by rw [HP.out, hq, show Lib.countByte (bl s) 42 = m from hm]
        have HPH := Lib.hid HP2
        rw [hq] at hle
        rw [hq]
        clear HP2 HP
        have hcnt : ∀ W, Calls Tryz.prog 103 #[.string s, .string ⟨#[42]⟩] W fun e w' => e = .returned (.int .i64 m) ∧ w' = W := fun W => by
          have := Tryz.strings_Count_one s 42 W
          rwa [hm] at this
        have HC := Lib.hid hcnt
        clear hcnt hm hq
        by_cases hz : m = 0
        · have hz' : ((m : Int) != 0) = false := by simp [hz]
          have HZ := Lib.hid hz
          clear hz
          go_wp2_with (go_at_call 103; refine (HC.out _).mono ?_; rintro e W1 ⟨rfl, rfl⟩)
          go_roundw
          case rel => exact ⟨3, nd, by omega, rfl, by rw [HPH.out, HZ.out]; rfl, by rw [HPH.out, HZ.out]; simp, rfl⟩
          case measure => simp [intOf]
        · have hz' : ((m : Int) != 0) = true := by simp; omega
          have HZ := Lib.hid hz
          clear hz
          go_wp2_with (go_at_call 103; refine (HC.out _).mono ?_; rintro e W1 ⟨rfl, rfl⟩)
          go_region
          go_wp2
          go_roundw
          case rel => exact ⟨3, nd + 1, by omega, rfl, by rw [HPH.out]; go_num, by have := HZ.out; rw [HPH.out]; simp; omega, rfl⟩
          case measure => simp [intOf]
      · have hpe : pc (bl s) 3 = cntSp (bl s) := (cntSp_eq _).symm
        rw [hpe, show ((3 : Nat) : Int) = 3 from rfl]
        clear hpe
        by_cases hz : cntSp (bl s) = 0
        · have hes := Lib.hid (cntSp_zero hz)
          have hzb : decide (cntSp (bl s) ≠ 0) = false := by simp [hz]
          rw [hzb]
          clear hz hzb
          go_wp2
          go_ret
          rw [hes.out, mkS_bl]
          exact ⟨rfl, pw_below_drewN (Below.refl w.heap.size w) nd⟩
        · have hzb : decide (cntSp (bl s) ≠ 0) = true := by simp [hz]
          rw [hzb]
          clear hz hzb
          have hN : (escL (bl s)).length = s.size + cntSp (bl s) := by rw [escL_len, bl_len]
          have hNle : (escL (bl s)).length ≤ 2000000 := by rw [hN]; have := cntSp_le (bl s); rw [bl_len] at this; omega
          obtain ⟨N, hNN⟩ : ∃ N, (escL (bl s)).length = N := ⟨_, rfl⟩
          rw [show ((s.size : Int) + (cntSp (bl s) : Int)) = (N : Int) by omega]
          have hmk := Go.run_make_row' (P := Tryz.prog) 34 5 (.int .u8 0) 1 Tryz.underlying34 bldInfo5 rfl .i64 .i64 N (by omega) (by omega) (w.drewN nd)
          have HN := Lib.hid hNN
          have hN2 : N ≤ 2000000 := by omega
          clear hN hNN
          go_wp2
          have hb0 : Below w.heap.size w ((w.drewN nd).alloc (.cells (madeCells #[.int .u8 0] N) 5)) := (pw_below_drewN (Below.refl w.heap.size w) nd).alloc (by simp) _
          go_loopw [13, 14, 15] (fun j i _ wr => ∃ (k : Nat) (cur : List Value), k ≤ s.size ∧ i = .int .i64 k ∧ j = .int .i64 ((escL ((bl s).take k)).length) ∧ Hid (wr.heap[w.heap.size]? = some (.cells cur.toArray 5 (0, 0)) ∧ cur.length = N ∧ cur.take (escL ((bl s).take k)).length = Lib.byteCells (escL ((bl s).take k))) ∧ Below w.heap.size w wr ∧ w.heap.size < wr.heap.size) (fun _ i _ _ => s.size - (intOf i).toNat)
          case atStart =>
            refine ⟨0, (madeCells #[.int .u8 0] N).toList, by omega, rfl, rfl, Lib.hid ⟨?_, ?_, rfl⟩, hb0, by simp⟩
            · have := Go.heap_alloc_new (w.drewN nd) (.cells (madeCells #[.int .u8 0] N) 5)
              simpa using this
            · simp [madeCells]
          case round =>
            obtain ⟨k, cur, hk, rfl, rfl, HC, hb, hlt⟩ := hrel
            by_cases hks : k < s.size
            · obtain ⟨c, hc⟩ : ∃ c, s[k]'hks = c := ⟨_, rfl⟩
              have hcb : (bl s)[k]'(by rw [bl_len]; exact hks) = c := hc
              have hsucc := Lib.hid (escL_take_succ (bl s) k (by rw [bl_len]; exact hks))
              have hkle : (escL ((bl s).take (k + 1))).length ≤ N := by
                rw [← HN.out]
                conv => rhs; rw [← List.take_append_drop (k + 1) (bl s), escL_append, List.length_append]
                omega
              obtain ⟨J, hJ⟩ : ∃ J, (escL ((bl s).take k)).length = J := ⟨_, rfl⟩
              rw [hJ]
              rw [hJ] at HC
              have HJ := Lib.hid hJ
              clear hJ
              cases hsp : isSp c with
              | true =>
                obtain ⟨gs, cs, s0, s1, s2, s3⟩ := hR.at_sp c hsp
                have u0 := (hb.cell (p := ⟨k2, c.toNat, none⟩) (World.block_lt_of_cell? w _ s0)).trans s0
                have u2 := (hb.cell (p := ⟨gs, 0, none⟩) (World.block_lt_of_cell? w _ s2)).trans s2
                have u3 := (hb.cell (p := ⟨gs, 1, none⟩) (World.block_lt_of_cell? w _ s3)).trans s3
                have hnn := fun (W : World) => run_neq_slice_nil_any (P := Tryz.prog) W 34 5 (some ⟨gs, 0, none⟩) 2 cs 0 0 Tryz.underlying34
                have hlen2 : (escL ((bl s).take (k + 1))).length = J + 2 := by rw [hsucc.out, List.length_append, HJ.out, hcb]; simp [esc1, hsp]
                have hJN : J + 2 ≤ N := by omega
                have hj0 : (0 : Int) ≤ (J : Int) := by omega
                have hj1 : (J : Int) ≤ (N : Int) := by omega
                have hj2 : (J : Int) < (N : Int) := by omega
                have hj3 : J < N := by omega
                have hj4 : ¬ N = J := by omega
                have HL2 := Lib.hid hlen2
                have hc256 : (c.toNat : Int) < 256 := by have := UInt8.toNat_lt c; omega
                have HSP := Lib.hid hsp
                have HCB := Lib.hid hcb
                clear hsp hlen2 hkle s0 s2 s3 hcb
                have P1 : ∀ (j : Nat) (v : Value), [Value.int .u8 42, .int .u8 (xbU c).toNat][j]? = some v → wr.drew.cell? ((⟨gs, 0, none⟩ : Addr).add j) = some v := by
                  intro j v hj
                  match j, hj with
                  | 0, hj => simp at hj; subst hj; simpa [Addr.add] using u2
                  | 1, hj => simp at hj; subst hj; simpa [Addr.add] using u3
                have PM : ([Value.int .u8 42, .int .u8 (xbU c).toNat]).length = Nat.min 2 (N - J) := (Nat.min_eq_left (show 2 ≤ N - J by omega)).symm
                have PF : J + ([Value.int .u8 42, .int .u8 (xbU c).toNat]).length ≤ cur.length := by rw [HC.out.2.1]; exact hJN
                have PH := Lib.hid P1
                have PMH := Lib.hid PM
                have PFH := Lib.hid PF
                clear P1 PM PF
                go_wp2
                go_region_law (refine step_copy_splice rfl _ _ 34 34 rfl 5 Tryz.underlying34 (by kernel_rfl) _ _ _ _ _ _ rfl rfl w.heap.size J cur 5 HC.out.1 [.int .u8 42, .int .u8 (xbU c).toNat] PMH.out (fun _ => ⟨rfl, _, rfl, PH.out⟩) PFH.out (by intro v hv; simp at hv; rcases hv with rfl | rfl <;> rfl) w.heap.size w hb.drew (Nat.le_refl _) ?_; intro w3 HC3 hb3)
                have hs3 : w.heap.size < w3.heap.size := (Array.getElem?_eq_some_iff.1 HC3.out).1
                go_wp2
                go_roundw
                case rel =>
                  refine ⟨k + 1, splice cur J [.int .u8 42, .int .u8 (xbU c).toNat], by omega, by go_num, by rw [HL2.out]; go_num, Lib.hid ⟨HC3.out, ?_, ?_⟩, hb3, hs3⟩
                  · rw [length_splice _ _ _ PFH.out]; exact HC.out.2.1
                  · rw [HL2.out, hsucc.out, HCB.out]
                    have := take_splice cur J [.int .u8 42, .int .u8 (xbU c).toNat] (by rw [HC.out.2.1]; omega)
                    rw [show J + 2 = J + [Value.int .u8 42, .int .u8 (xbU c).toNat].length from rfl, this, HC.out.2.2]
                    simp [Lib.byteCells, esc1, HSP.out]
                case measure => simp [intOf]; omega
              | false =>
                have s0 := hR.at_no c hsp
                have u0 := (hb.cell (p := ⟨k2, c.toNat, none⟩) (World.block_lt_of_cell? w _ s0)).trans s0
                have hnn := fun (W : World) => run_neq_slice_nil_any (P := Tryz.prog) W 34 5 none 0 0 0 0 Tryz.underlying34
                have hlen2 : (escL ((bl s).take (k + 1))).length = J + 1 := by rw [hsucc.out, List.length_append, HJ.out, hcb]; simp [esc1, hsp]
                have hJN : J + 1 ≤ N := by omega
                have hj1 : (J : Int) < (N : Int) := by omega
                have HL2 := Lib.hid hlen2
                have hc256 : (c.toNat : Int) < 256 := by have := UInt8.toNat_lt c; omega
                have HSP := Lib.hid hsp
                have HCB := Lib.hid hcb
                obtain ⟨v0, e1⟩ : ∃ v0, wr.cell? ⟨w.heap.size, J, none⟩ = some v0 := ⟨_, by
                  rw [cellOf HC.out.1, List.getElem?_toArray, List.getElem?_eq_getElem (by rw [HC.out.2.1]; omega)]⟩
                have e2 := frozOf (i := J) HC.out.1
                clear hsp hlen2 hkle s0 hcb
                go_wp2
                go_roundw
                case rel =>
                  refine ⟨k + 1, cur.set J (.int .u8 c.toNat), by omega, by go_num, by rw [HL2.out]; go_num, Lib.hid ⟨?_, ?_, ?_⟩, hb.setCell (p := ⟨w.heap.size, J, none⟩) (Nat.le_refl _) _, by simpa using hlt⟩
                  · have := heapSet (i := J) (.int .u8 c.toNat) HC.out.1
                    rw [this]
                    simp
                  · rw [List.length_set]; exact HC.out.2.1
                  · rw [HL2.out, hsucc.out, HCB.out, List.take_succ_eq_append_getElem (by rw [List.length_set, HC.out.2.1]; omega), List.take_set_of_le (Nat.le_refl _), List.getElem_set_self]
                    rw [HC.out.2.2]
                    simp [Lib.byteCells, esc1, HSP.out]
                case measure => simp [intOf]; omega
            · obtain rfl : k = s.size := by omega
              have htk : (bl s).take s.size = bl s := List.take_of_length_le (by rw [bl_len]; exact Nat.le_refl _)
              rw [htk] at HC
              rw [htk, HN.out]
              have hcv := run_convert_bytes_arg (P := Tryz.prog) wr 34 5 Tryz.underlying34 Tryz.underlying5 w.heap.size 0 N N ((escL (bl s)).map fun b => (b.toNat : Int)) (by rw [List.length_map, HN.out]) (fun i hi => by
                rw [Nat.zero_add, cellOf HC.out.1, List.getElem?_toArray]
                have h1 := HC.out.2.2
                rw [HN.out, List.take_of_length_le (by rw [HC.out.2.1]; exact Nat.le_refl _)] at h1
                rw [h1]
                unfold Lib.byteCells
                rw [List.getElem?_map, List.getD_eq_getElem?_getD, List.getElem?_map, List.getElem?_eq_getElem (by rw [HN.out]; exact hi)]
                rfl) 9 Tryz.underlying9
              rw [Lib.Lz.strOfNums_map] at hcv
              clear htk
              go_wp2
              go_ret
              exact ⟨rfl, hb⟩
  · have h24b : decide ((24 : Int) ≤ s.size) = false := by simp; omega
    go_enter Tryz.func215, Tryz.ntmps215
    go_wp2
    go_loop [5, 6, 10, 11] (fun ns an i _ => ∃ k : Nat, k ≤ s.size ∧ i = .int .i64 k ∧ ns = .int .i64 ((s.size : Int) + cntSp ((bl s).take k)) ∧ an = .bool (decide (cntSp ((bl s).take k) ≠ 0))) (fun _ _ i _ => s.size - (intOf i).toNat)
    case atStart => exact ⟨0, by omega, rfl, by simp [cntSp], by simp [cntSp]⟩
    case round =>
      obtain ⟨k, hk, rfl, rfl, rfl⟩ := hrel
      by_cases hks : k < s.size
      · obtain ⟨c, hc⟩ : ∃ c, s[k]'hks = c := ⟨_, rfl⟩
        have hcb : (bl s)[k]'(by rw [bl_len]; exact hks) = c := hc
        have hsucc := cntSp_take_succ (bl s) k (by rw [bl_len]; exact hks)
        rw [hcb] at hsucc
        have hq2 : cntSp ((bl s).take k) ≤ 1000000 := Nat.le_trans (cntSp_le _) (by rw [List.length_take, bl_len]; omega)
        obtain ⟨q, hq⟩ : ∃ q, cntSp ((bl s).take k) = q := ⟨_, rfl⟩
        rw [hq] at hsucc hq2 ⊢
        have HS := Lib.hid hsucc
        have hc256 : (c.toNat : Int) < 256 := by have := UInt8.toNat_lt c; omega
        clear hq hsucc hcb
        cases hsp : isSp c with
        | true =>
          obtain ⟨gs, cs, u0, _, _, _⟩ := hR.at_sp c hsp
          have hnn := run_neq_slice_nil_any (P := Tryz.prog) w 34 5 (some ⟨gs, 0, none⟩) 2 cs 0 0 Tryz.underlying34
          have HSP := Lib.hid hsp
          clear hsp
          go_wp2
          go_round
          case rel => exact ⟨k + 1, by omega, by go_num, by rw [HS.out, HSP.out, if_pos rfl]; go_num, by rw [HS.out, HSP.out, if_pos rfl]; simp⟩
          case measure => simp [intOf]; omega
        | false =>
          have u0 := hR.at_no c hsp
          have hnn := run_neq_slice_nil_any (P := Tryz.prog) w 34 5 none 0 0 0 0 Tryz.underlying34
          have HSP := Lib.hid hsp
          clear hsp
          go_wp2
          go_round
          case rel => exact ⟨k + 1, by omega, by go_num, by rw [HS.out, HSP.out, if_neg (by decide)]; rfl, by rw [HS.out, HSP.out, if_neg (by decide)]; simp⟩
          case measure => simp [intOf]; omega
      · obtain rfl : k = s.size := by omega
        have htk0 : (bl s).take s.size = bl s := List.take_of_length_le (by rw [bl_len]; exact Nat.le_refl _)
        rw [htk0]
        clear htk0
        by_cases hz : cntSp (bl s) = 0
        · have hes := Lib.hid (cntSp_zero hz)
          have hzb : decide (cntSp (bl s) ≠ 0) = false := by simp [hz]
          rw [hzb]
          clear hz hzb
          go_wp2
          go_ret
          rw [hes.out, mkS_bl]
          exact ⟨rfl, Below.refl w.heap.size w⟩
        · have hzb : decide (cntSp (bl s) ≠ 0) = true := by simp [hz]
          rw [hzb]
          clear hz hzb
          have hN : (escL (bl s)).length = s.size + cntSp (bl s) := by rw [escL_len, bl_len]
          have hNle : (escL (bl s)).length ≤ 2000000 := by rw [hN]; have := cntSp_le (bl s); rw [bl_len] at this; omega
          obtain ⟨N, hNN⟩ : ∃ N, (escL (bl s)).length = N := ⟨_, rfl⟩
          rw [show ((s.size : Int) + (cntSp (bl s) : Int)) = (N : Int) by omega]
          have hmk := Go.run_make_row' (P := Tryz.prog) 34 5 (.int .u8 0) 1 Tryz.underlying34 bldInfo5 rfl .i64 .i64 N (by omega) (by omega) (w)
          have HN := Lib.hid hNN
          have hN2 : N ≤ 2000000 := by omega
          clear hN hNN
          go_wp2
          have hb0 : Below w.heap.size w ((w).alloc (.cells (madeCells #[.int .u8 0] N) 5)) := (Below.refl w.heap.size w).alloc (by simp) _
          go_loopw [13, 14, 15] (fun j i _ wr => ∃ (k : Nat) (cur : List Value), k ≤ s.size ∧ i = .int .i64 k ∧ j = .int .i64 ((escL ((bl s).take k)).length) ∧ Hid (wr.heap[w.heap.size]? = some (.cells cur.toArray 5 (0, 0)) ∧ cur.length = N ∧ cur.take (escL ((bl s).take k)).length = Lib.byteCells (escL ((bl s).take k))) ∧ Below w.heap.size w wr ∧ w.heap.size < wr.heap.size) (fun _ i _ _ => s.size - (intOf i).toNat)
          case atStart =>
            refine ⟨0, (madeCells #[.int .u8 0] N).toList, by omega, rfl, rfl, Lib.hid ⟨?_, ?_, rfl⟩, hb0, by simp⟩
            · have := Go.heap_alloc_new (w) (.cells (madeCells #[.int .u8 0] N) 5)
              simpa using this
            · simp [madeCells]
          case round =>
            obtain ⟨k, cur, hk, rfl, rfl, HC, hb, hlt⟩ := hrel
            by_cases hks : k < s.size
            · obtain ⟨c, hc⟩ : ∃ c, s[k]'hks = c := ⟨_, rfl⟩
              have hcb : (bl s)[k]'(by rw [bl_len]; exact hks) = c := hc
              have hsucc := Lib.hid (escL_take_succ (bl s) k (by rw [bl_len]; exact hks))
              have hkle : (escL ((bl s).take (k + 1))).length ≤ N := by
                rw [← HN.out]
                conv => rhs; rw [← List.take_append_drop (k + 1) (bl s), escL_append, List.length_append]
                omega
              obtain ⟨J, hJ⟩ : ∃ J, (escL ((bl s).take k)).length = J := ⟨_, rfl⟩
              rw [hJ]
              rw [hJ] at HC
              have HJ := Lib.hid hJ
              clear hJ
              cases hsp : isSp c with
              | true =>
                obtain ⟨gs, cs, s0, s1, s2, s3⟩ := hR.at_sp c hsp
                have u0 := (hb.cell (p := ⟨k2, c.toNat, none⟩) (World.block_lt_of_cell? w _ s0)).trans s0
                have u2 := (hb.cell (p := ⟨gs, 0, none⟩) (World.block_lt_of_cell? w _ s2)).trans s2
                have u3 := (hb.cell (p := ⟨gs, 1, none⟩) (World.block_lt_of_cell? w _ s3)).trans s3
                have hnn := fun (W : World) => run_neq_slice_nil_any (P := Tryz.prog) W 34 5 (some ⟨gs, 0, none⟩) 2 cs 0 0 Tryz.underlying34
                have hlen2 : (escL ((bl s).take (k + 1))).length = J + 2 := by rw [hsucc.out, List.length_append, HJ.out, hcb]; simp [esc1, hsp]
                have hJN : J + 2 ≤ N := by omega
                have hj0 : (0 : Int) ≤ (J : Int) := by omega
                have hj1 : (J : Int) ≤ (N : Int) := by omega
                have hj2 : (J : Int) < (N : Int) := by omega
                have hj3 : J < N := by omega
                have hj4 : ¬ N = J := by omega
                have HL2 := Lib.hid hlen2
                have hc256 : (c.toNat : Int) < 256 := by have := UInt8.toNat_lt c; omega
                have HSP := Lib.hid hsp
                have HCB := Lib.hid hcb
                clear hsp hlen2 hkle s0 s2 s3 hcb
                have P1 : ∀ (j : Nat) (v : Value), [Value.int .u8 42, .int .u8 (xbU c).toNat][j]? = some v → wr.drew.cell? ((⟨gs, 0, none⟩ : Addr).add j) = some v := by
                  intro j v hj
                  match j, hj with
                  | 0, hj => simp at hj; subst hj; simpa [Addr.add] using u2
                  | 1, hj => simp at hj; subst hj; simpa [Addr.add] using u3
                have PM : ([Value.int .u8 42, .int .u8 (xbU c).toNat]).length = Nat.min 2 (N - J) := (Nat.min_eq_left (show 2 ≤ N - J by omega)).symm
                have PF : J + ([Value.int .u8 42, .int .u8 (xbU c).toNat]).length ≤ cur.length := by rw [HC.out.2.1]; exact hJN
                have PH := Lib.hid P1
                have PMH := Lib.hid PM
                have PFH := Lib.hid PF
                clear P1 PM PF
                go_wp2
                go_region_law (refine step_copy_splice rfl _ _ 34 34 rfl 5 Tryz.underlying34 (by kernel_rfl) _ _ _ _ _ _ rfl rfl w.heap.size J cur 5 HC.out.1 [.int .u8 42, .int .u8 (xbU c).toNat] PMH.out (fun _ => ⟨rfl, _, rfl, PH.out⟩) PFH.out (by intro v hv; simp at hv; rcases hv with rfl | rfl <;> rfl) w.heap.size w hb.drew (Nat.le_refl _) ?_; intro w3 HC3 hb3)
                have hs3 : w.heap.size < w3.heap.size := (Array.getElem?_eq_some_iff.1 HC3.out).1
                go_wp2
                go_roundw
                case rel =>
                  refine ⟨k + 1, splice cur J [.int .u8 42, .int .u8 (xbU c).toNat], by omega, by go_num, by rw [HL2.out]; go_num, Lib.hid ⟨HC3.out, ?_, ?_⟩, hb3, hs3⟩
                  · rw [length_splice _ _ _ PFH.out]; exact HC.out.2.1
                  · rw [HL2.out, hsucc.out, HCB.out]
                    have := take_splice cur J [.int .u8 42, .int .u8 (xbU c).toNat] (by rw [HC.out.2.1]; omega)
                    rw [show J + 2 = J + [Value.int .u8 42, .int .u8 (xbU c).toNat].length from rfl, this, HC.out.2.2]
                    simp [Lib.byteCells, esc1, HSP.out]
                case measure => simp [intOf]; omega
              | false =>
                have s0 := hR.at_no c hsp
                have u0 := (hb.cell (p := ⟨k2, c.toNat, none⟩) (World.block_lt_of_cell? w _ s0)).trans s0
                have hnn := fun (W : World) => run_neq_slice_nil_any (P := Tryz.prog) W 34 5 none 0 0 0 0 Tryz.underlying34
                have hlen2 : (escL ((bl s).take (k + 1))).length = J + 1 := by rw [hsucc.out, List.length_append, HJ.out, hcb]; simp [esc1, hsp]
                have hJN : J + 1 ≤ N := by omega
                have hj1 : (J : Int) < (N : Int) := by omega
                have HL2 := Lib.hid hlen2
                have hc256 : (c.toNat : Int) < 256 := by have := UInt8.toNat_lt c; omega
                have HSP := Lib.hid hsp
                have HCB := Lib.hid hcb
                obtain ⟨v0, e1⟩ : ∃ v0, wr.cell? ⟨w.heap.size, J, none⟩ = some v0 := ⟨_, by
                  rw [cellOf HC.out.1, List.getElem?_toArray, List.getElem?_eq_getElem (by rw [HC.out.2.1]; omega)]⟩
                have e2 := frozOf (i := J) HC.out.1
                clear hsp hlen2 hkle s0 hcb
                go_wp2
                go_roundw
                case rel =>
                  refine ⟨k + 1, cur.set J (.int .u8 c.toNat), by omega, by go_num, by rw [HL2.out]; go_num, Lib.hid ⟨?_, ?_, ?_⟩, hb.setCell (p := ⟨w.heap.size, J, none⟩) (Nat.le_refl _) _, by simpa using hlt⟩
                  · have := heapSet (i := J) (.int .u8 c.toNat) HC.out.1
                    rw [this]
                    simp
                  · rw [List.length_set]; exact HC.out.2.1
                  · rw [HL2.out, hsucc.out, HCB.out, List.take_succ_eq_append_getElem (by rw [List.length_set, HC.out.2.1]; omega), List.take_set_of_le (Nat.le_refl _), List.getElem_set_self]
                    rw [HC.out.2.2]
                    simp [Lib.byteCells, esc1, HSP.out]
                case measure => simp [intOf]; omega
            · obtain rfl : k = s.size := by omega
              have htk : (bl s).take s.size = bl s := List.take_of_length_le (by rw [bl_len]; exact Nat.le_refl _)
              rw [htk] at HC
              rw [htk, HN.out]
              have hcv := run_convert_bytes_arg (P := Tryz.prog) wr 34 5 Tryz.underlying34 Tryz.underlying5 w.heap.size 0 N N ((escL (bl s)).map fun b => (b.toNat : Int)) (by rw [List.length_map, HN.out]) (fun i hi => by
                rw [Nat.zero_add, cellOf HC.out.1, List.getElem?_toArray]
                have h1 := HC.out.2.2
                rw [HN.out, List.take_of_length_le (by rw [HC.out.2.1]; exact Nat.le_refl _)] at h1
                rw [h1]
                unfold Lib.byteCells
                rw [List.getElem?_map, List.getD_eq_getElem?_getD, List.getElem?_map, List.getElem?_eq_getElem (by rw [HN.out]; exact hi)]
                rfl) 9 Tryz.underlying9
              rw [Lib.Lz.strOfNums_map] at hcv
              clear htk
              go_wp2
              go_ret
              exact ⟨rfl, hb⟩
end Go.Proofs.YtojppincaalibaaGreatDoor
