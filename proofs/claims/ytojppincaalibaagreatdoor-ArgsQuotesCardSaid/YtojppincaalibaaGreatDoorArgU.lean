/- The walk of args.Quote. -/
import Derived.Test.YtojppincaalibaaGreatDoorRepF
import Derived.Shelf.Strings.SlTrimAscii
set_option linter.unusedVariables false
set_option linter.unusedSimpArgs false
set_option maxRecDepth 100000
namespace Go.Proofs.YtojppincaalibaaGreatDoor
open Go.Shelf Go.RowKit

def odd (c : UInt8) : Bool := decide (c ≠ 10) && (decide (c.toNat < 32) || decide (126 < c.toNat))
def cl1 (c : UInt8) : UInt8 := if odd c then 63 else c
def cl (l : Bs) : Bs := l.map cl1
def spcs : Bs := [32, 34, 61, 42, 10]
def quoteL (l : Bs) : Bs := if (cl l).isEmpty = false ∧ Lib.containsAny (cl l) spcs = false then cl l else quoL (cl l)
theorem cl_len (l : Bs) : (cl l).length = l.length := by simp [cl]
theorem cl1_ascii (c : UInt8) : (cl1 c).toNat < 128 := by
  unfold cl1 odd
  split
  · decide
  · rename_i h
    simp only [Bool.and_eq_true, Bool.or_eq_true, decide_eq_true_eq, not_and, not_or] at h
    by_cases e : c = 10
    · subst e; decide
    · have := h e; omega
theorem cl_ascii (l : Bs) : ∀ (j : Nat) b, (cl l)[j]? = some b → b.toNat < 128 := by
  intro j b hb
  unfold cl at hb
  rw [List.getElem?_map] at hb
  simp only [Option.map_eq_some_iff] at hb
  obtain ⟨c, _, rfl⟩ := hb
  exact cl1_ascii c

/-- The bytes, k of them looked at. -/
def mixL (l : Bs) (k : Nat) : Bs := cl (l.take k) ++ l.drop k
theorem mixL_at (l : Bs) (k : Nat) (h : k < l.length) : (mixL l k)[k]? = some l[k] := by
  unfold mixL
  rw [List.getElem?_append_right (by rw [cl_len, List.length_take]; omega), cl_len, List.length_take, List.getElem?_drop, show k + (k - min k l.length) = k by omega, List.getElem?_eq_getElem h]
theorem mixL_set (l : Bs) (k : Nat) (h : k < l.length) (c : UInt8) (hc : cl1 l[k] = c) : (mixL l k).set k c = mixL l (k + 1) := by
  unfold mixL
  rw [List.set_append_right _ _ (by rw [cl_len, List.length_take]; omega), cl_len, List.length_take, show k - min k l.length = 0 by omega, List.drop_eq_getElem_cons h, List.set_cons_zero, List.take_succ_eq_append_getElem h]
  unfold cl
  rw [List.map_append, ← hc]
  simp
theorem mixL_same (l : Bs) (k : Nat) (h : k < l.length) (hc : cl1 l[k] = l[k]) : mixL l k = mixL l (k + 1) := by
  have := mixL_set l k h _ hc
  rw [← this]
  have h2 := mixL_at l k h
  obtain ⟨hlt, h3⟩ := List.getElem?_eq_some_iff.1 h2
  rw [← h3, List.set_getElem_self]
theorem mixL_len (l : Bs) (k : Nat) : (mixL l k).length = l.length := by
  unfold mixL; rw [List.length_append, cl_len, List.length_take, List.length_drop]; omega
theorem mixL_all (l : Bs) : mixL l l.length = cl l := by unfold mixL; simp

theorem frozOf2 {w : World} {b i m k : Nat} {C : Array Value} {t : TypeId} (h : w.heap[b]? = some (.cells C t (m, k))) (hi : i < m) : w.frozen? ⟨b, i, none⟩ = false := by
  simp [World.frozen?, h]; omega

set_option maxHeartbeats 4000000 in
theorem quote_calls (s : ByteArray) (w : World) (hs : s.size ≤ 900000) :
    Calls Tryz.prog 13 #[.string s] w fun e w' => e = .returned (.string (mkS (quoteL (bl s)))) ∧ Below w.heap.size w w' := by
  have hsb := Lib.run_convert_string_bytes (P := Tryz.prog) w 9 34 5 s Tryz.underlying9 Tryz.underlying34 Tryz.underlying5
  have hnew := Lib.bytesWorld_at_new w 5 s
  have hsz := Lib.bytesWorld_size w 5 s
  have hbw := Lib.bytesWorld_below w 5 s
  have hcap := grownCap_ge w s.size 5
  have hcsz : (Lib.bytesCells w 5 s).size = grownCap w s.size 0 5 := by
    unfold Lib.bytesCells
    have e : s.data.size = s.size := rfl
    rw [Array.size_append, Array.size_map, Array.size_replicate]
    omega
  have htk : (Lib.bytesCells w 5 s).toList.take s.size = Lib.byteCells (bl s) := by
    unfold Lib.bytesCells
    have e : (s.data.map fun b => Value.int .u8 b.toNat).toList.length = s.size := by rw [Array.toList_map, List.length_map]; exact bl_len s
    rw [Array.toList_append, List.take_append_of_le_length (by rw [e]; exact Nat.le_refl _), List.take_of_length_le (by rw [e]; exact Nat.le_refl _), Array.toList_map]
    rfl
  obtain ⟨W, hW⟩ : ∃ W, Lib.bytesWorld w 5 s = W := ⟨_, rfl⟩
  obtain ⟨m, hm⟩ : ∃ m, grownCap w s.size 0 5 = m := ⟨_, rfl⟩
  rw [hW] at hnew hsz hbw hsb
  rw [hcsz] at hnew
  rw [hm] at hnew hsb hcap hcsz
  have HC0 := Lib.hid (And.intro hnew (And.intro hcsz htk))
  clear hnew hcsz htk hW hm
  go_enter Tryz.func13, Tryz.ntmps13
  go_wp2
  go_loopw [4, 5, 10] (fun _ _ i wr => ∃ (k : Nat) (cur : List Value), k ≤ s.size ∧ i = .int .i64 k ∧ Hid (wr.heap[w.heap.size]? = some (.cells cur.toArray 5 (m, m + 1)) ∧ cur.length = m ∧ cur.take s.size = Lib.byteCells (mixL (bl s) k)) ∧ Below w.heap.size w wr ∧ w.heap.size < wr.heap.size) (fun _ _ i _ => s.size - (intOf i).toNat)
  case atStart =>
    refine ⟨0, (Lib.bytesCells w 5 s).toList, by omega, rfl, Lib.hid ⟨?_, ?_, ?_⟩, hbw, by omega⟩
    · exact HC0.out.1
    · exact HC0.out.2.1
    · rw [HC0.out.2.2]; simp [mixL, cl]
  case round =>
    obtain ⟨k, cur, hk, rfl, HC, hb, hlt⟩ := hrel
    by_cases hks : k < s.size
    · obtain ⟨c, hc⟩ : ∃ c, (bl s)[k]'(by rw [bl_len]; exact hks) = c := ⟨_, rfl⟩
      have hat := mixL_at (bl s) k (by rw [bl_len]; exact hks)
      have hcur : cur[k]? = some (.int .u8 c.toNat) := by
        have h1 := HC.out.2.2
        have h2 : (cur.take s.size)[k]? = cur[k]? := by rw [List.getElem?_take_of_lt hks]
        rw [← h2, h1]
        unfold Lib.byteCells
        rw [List.getElem?_map, hat, hc]
        rfl
      have e1 : wr.cell? ⟨w.heap.size, k, none⟩ = some (.int .u8 c.toNat) := by rw [cellOf HC.out.1, List.getElem?_toArray, hcur]
      have e2 := frozOf2 (i := k) HC.out.1 (by omega)
      have hki : (k : Int) < (s.size : Int) := by omega
      cases ho : odd c with
      | true =>
        have MS := Lib.hid (mixL_set (bl s) k (by rw [bl_len]; exact hks) 63 (by rw [hc]; simp [cl1, ho]))
        have ho2 : c ≠ 10 ∧ (c.toNat < 32 ∨ 126 < c.toNat) := by simpa [odd] using ho
        have t1 := bne_t c 10 10 rfl ho2.1
        obtain ⟨_, h32⟩ := ho2
        by_cases hlo : c.toNat < 32
        · have t2 : decide ((c.toNat : Int) < 32) = true := by simp; omega
          clear ho hcur hat hc h32 hlo
          go_wp2
          go_roundw
          case rel =>
            refine ⟨k + 1, cur.set k (.int .u8 63), by omega, by go_num, Lib.hid ⟨?_, ?_, ?_⟩, hb.setCell (p := ⟨w.heap.size, k, none⟩) (Nat.le_refl _) _, by simpa using hlt⟩
            · have := heapSet (i := k) (.int .u8 63) HC.out.1
              rw [this]
              simp
            · rw [List.length_set]; exact HC.out.2.1
            · rw [List.take_set, HC.out.2.2, ← MS.out]
              simp [Lib.byteCells, List.map_set]
          case measure => simp [intOf]; omega
        · have t2 : decide ((c.toNat : Int) < 32) = false := by simp; omega
          have t3 : decide (126 < (c.toNat : Int)) = true := by simp; omega
          clear ho hcur hat hc h32 hlo
          go_wp2
          go_roundw
          case rel =>
            refine ⟨k + 1, cur.set k (.int .u8 63), by omega, by go_num, Lib.hid ⟨?_, ?_, ?_⟩, hb.setCell (p := ⟨w.heap.size, k, none⟩) (Nat.le_refl _) _, by simpa using hlt⟩
            · have := heapSet (i := k) (.int .u8 63) HC.out.1
              rw [this]
              simp
            · rw [List.length_set]; exact HC.out.2.1
            · rw [List.take_set, HC.out.2.2, ← MS.out]
              simp [Lib.byteCells, List.map_set]
          case measure => simp [intOf]; omega
      | false =>
        have MS := Lib.hid (mixL_same (bl s) k (by rw [bl_len]; exact hks) (by rw [hc]; simp [cl1, ho]))
        by_cases h10 : c = 10
        · have t1 := bne_f c 10 10 rfl h10
          clear ho hcur hat hc h10
          go_wp2
          go_roundw
          case rel => exact ⟨k + 1, cur, by omega, by go_num, Lib.hid ⟨HC.out.1, HC.out.2.1, by rw [HC.out.2.2, MS.out]⟩, hb, hlt⟩
          case measure => simp [intOf]; omega
        · have t1 := bne_t c 10 10 rfl h10
          have ho2 : ¬ (c.toNat < 32 ∨ 126 < c.toNat) := by
            intro h
            have : odd c = true := by simp [odd, h10, h]
            rw [ho] at this
            cases this
          have t2 : decide ((c.toNat : Int) < 32) = false := by simp; omega
          have t3 : decide (126 < (c.toNat : Int)) = false := by simp; omega
          clear ho hcur hat hc h10 ho2
          go_wp2
          go_roundw
          case rel => exact ⟨k + 1, cur, by omega, by go_num, Lib.hid ⟨HC.out.1, HC.out.2.1, by rw [HC.out.2.2, MS.out]⟩, hb, hlt⟩
          case measure => simp [intOf]; omega
    · obtain rfl : k = s.size := by omega
      have hmx : mixL (bl s) s.size = cl (bl s) := by rw [← bl_len]; exact mixL_all _
      rw [hmx] at HC
      have hcv := run_convert_bytes_arg (P := Tryz.prog) wr 34 5 Tryz.underlying34 Tryz.underlying5 w.heap.size 0 s.size m ((cl (bl s)).map fun b => (b.toNat : Int)) (by rw [List.length_map, cl_len, bl_len]) (fun i hi => by
        rw [Nat.zero_add, cellOf HC.out.1, List.getElem?_toArray]
        have h2 : (cur.take s.size)[i]? = cur[i]? := by rw [List.getElem?_take_of_lt hi]
        rw [← h2, HC.out.2.2]
        unfold Lib.byteCells
        rw [List.getElem?_map, List.getD_eq_getElem?_getD, List.getElem?_map, List.getElem?_eq_getElem (by rw [cl_len, bl_len]; exact hi)]
        rfl) 9 Tryz.underlying9
      rw [Lib.Lz.strOfNums_map] at hcv
      have hlen3 : (cl (bl s)).length = s.size := by rw [cl_len, bl_len]
      have hasc := cl_ascii (bl s)
      clear hmx
      have HQ : Hid (quoteL (bl s) = if (cl (bl s)).isEmpty = false ∧ Lib.containsAny (cl (bl s)) spcs = false then cl (bl s) else quoL (cl (bl s))) := Lib.hid rfl
      obtain ⟨t, ht⟩ : ∃ t, cl (bl s) = t := ⟨_, rfl⟩
      rw [ht] at hcv hlen3 hasc HQ
      clear ht
      have hCA := fun W => Tryz.strings_ContainsAny_laid ⟨t.toArray⟩ ⟨#[32, 34, 61, 42, 10]⟩ W (by show t.toArray.size < _; rw [List.size_toArray]; omega) (by decide) hasc (ascii_of_all (by decide))
      have hES := fun W => escaped_calls ⟨t.toArray⟩ W (by show t.toArray.size ≤ _; rw [List.size_toArray]; omega)
      have HCA := Lib.hid hCA
      have HES := Lib.hid hES
      clear hCA hES hasc
      cases hte : t.isEmpty with
      | true =>
        go_wp2_with fail
        refine (HES.out _).mono ?_
        rintro e w2 ⟨rfl, hb2⟩
        go_wp2
        go_ret
        rw [HQ.out, if_neg (by rw [hte]; simp)]
        exact ⟨rfl, hb.trans (hb2.mono hb.size)⟩
      | false =>
        cases hca : Lib.containsAny t [32, 34, 61, 42, 10] with
        | true =>
          have hCB : ∀ W, Calls Tryz.prog 30 #[.string ⟨t.toArray⟩, .string ⟨#[32, 34, 61, 42, 10]⟩] W fun e w' => e = .returned (.bool true) ∧ Below W.heap.size W w' := fun W => by
            have := HCA.out W
            rwa [show Lib.containsAny (⟨t.toArray⟩ : ByteArray).data.toList (⟨#[32, 34, 61, 42, 10]⟩ : ByteArray).data.toList = true from hca] at this
          have HCB := Lib.hid hCB
          have hq : quoteL (bl s) = quoL t := by rw [HQ.out, if_neg (by rw [show spcs = [32, 34, 61, 42, 10] from rfl, hca]; simp)]
          have HQQ := Lib.hid hq
          clear hCB hq hca HCA HQ
          go_wp2_with fail
          refine (HCB.out _).mono ?_
          rintro e w2 ⟨rfl, hb2⟩
          go_wp2_with fail
          refine (HES.out _).mono ?_
          rintro e w3 ⟨rfl, hb3⟩
          go_wp2
          go_ret
          rw [HQQ.out]
          exact ⟨rfl, (hb.trans (hb2.mono hb.size)).trans (hb3.mono (Nat.le_trans hb.size hb2.size))⟩
        | false =>
          have hCB : ∀ W, Calls Tryz.prog 30 #[.string ⟨t.toArray⟩, .string ⟨#[32, 34, 61, 42, 10]⟩] W fun e w' => e = .returned (.bool false) ∧ Below W.heap.size W w' := fun W => by
            have := HCA.out W
            rwa [show Lib.containsAny (⟨t.toArray⟩ : ByteArray).data.toList (⟨#[32, 34, 61, 42, 10]⟩ : ByteArray).data.toList = false from hca] at this
          have HCB := Lib.hid hCB
          have hq : quoteL (bl s) = t := by rw [HQ.out, if_pos ⟨hte, hca⟩]
          have HQQ := Lib.hid hq
          clear hCB hq hca HCA HQ
          go_wp2_with fail
          refine (HCB.out _).mono ?_
          rintro e w2 ⟨rfl, hb2⟩
          go_wp2
          go_ret
          rw [HQQ.out]
          exact ⟨rfl, hb.trans (hb2.mono hb.size)⟩
end Go.Proofs.YtojppincaalibaaGreatDoor
