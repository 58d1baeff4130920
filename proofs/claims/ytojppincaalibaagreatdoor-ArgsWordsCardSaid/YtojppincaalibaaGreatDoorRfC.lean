/- The walks of the reference: Quote. -/
import Derived.Test.YtojppincaalibaaGreatDoorRfA
import Derived.Test.YtojppincaalibaaGreatDoorByt
set_option linter.unusedVariables false
set_option linter.unusedSimpArgs false
set_option maxRecDepth 100000
namespace Go.Proofs.YtojppincaalibaaGreatDoor
open Go.Shelf Go.RowKit

theorem cl_take_succ (l : Bs) (k : Nat) (c : UInt8) (h : l[k]? = some c) : cl (l.take (k + 1)) = cl (l.take k) ++ [cl1 c] := by
  rw [List.take_add_one, h]; simp [cl]
theorem esc_step (l : Bs) (k : Nat) (c : UInt8) (h : l[k]? = some c) : escL (cl (l.take (k + 1))) = escL (cl (l.take k)) ++ esc1 (cl1 c) := by
  rw [cl_take_succ l k c h, escL_append]; simp [escL]
theorem sp_step (l : Bs) (k : Nat) (c : UInt8) (h : l[k]? = some c) : (cl (l.take (k + 1))).any rqSp = ((cl (l.take k)).any rqSp || rqSp (cl1 c)) := by
  rw [cl_take_succ l k c h, List.any_append]; simp
theorem esc_len (l : Bs) (k : Nat) : (escL (cl (l.take k))).length ≤ 2 * l.length := by
  rw [escL_len, cl_len]
  have h1 := cntSp_le (cl (l.take k))
  rw [cl_len] at h1
  have h2 := List.length_take_le k l
  have h3 : (l.take k).length ≤ l.length := by rw [List.length_take]; omega
  omega

/-- What Quote has made of the first bytes. -/
structure QRow (w : World) (B : Nat) (s : ByteArray) (k : Nat) (pb : Bool) (v : Value) (n : Nat) (wr : World) : Prop where
  own : wr.ownsRow B 5 1 v n (bC (34 :: escL (cl ((bl s).take k))))
  pl : pb = (decide (0 < s.size) && !((cl ((bl s).take k)).any rqSp))
  b : Below w.heap.size w wr
theorem QRow.len {w : World} {B : Nat} {s : ByteArray} {k : Nat} {pb : Bool} {v : Value} {n : Nat} {wr : World} (h : QRow w B s k pb v n wr) : n ≤ 2 * s.size + 1 ∧ 1 ≤ n := by
  have h1 := h.own.1
  rw [bC_len, List.length_cons] at h1
  have h2 := esc_len (bl s) k
  rw [bl_len] at h2
  omega
theorem QRow.next {w w1 wr : World} {s : ByteArray} {k : Nat} {pb : Bool} {v v' : Value} {n m : Nat} {c : UInt8} {o : Obj} (h : QRow w w.heap.size s k pb v n wr) (hc : (bl s)[k]? = some c) {news : List Value} (hn : news = bC (esc1 (cl1 c))) (hm : m = (esc1 (cl1 c)).length) {pb' : Bool} (hp : pb' = (pb && !rqSp (cl1 c)))
    (hown : w1.ownsRow w.heap.size 5 1 v' (n + m) (bC (34 :: escL (cl ((bl s).take k))) ++ news)) (hg : (wr.alloc o).grownBy w1 v.ownBlock) : QRow w w.heap.size s (k + 1) pb' v' (n + m) w1 := by
  subst hn hm
  refine ⟨?_, ?_, ?_⟩
  · rw [esc_step (bl s) k c hc, ← List.cons_append, bC_append]
    exact hown
  · rw [hp, h.pl, sp_step (bl s) k c hc]
    cases decide (0 < s.size) <;> cases (cl ((bl s).take k)).any rqSp <;> cases rqSp (cl1 c) <;> rfl
  · have hsz := h.b.size
    exact (h.b.alloc hsz _).grown hg (by simp; omega) (fun j e => (own_block h.own e).1)
theorem QRow.slice {w : World} {B : Nat} {s : ByteArray} {k : Nat} {pb : Bool} {v : Value} {n : Nat} {wr : World} (h : QRow w B s k pb v n wr) : ∃ g cap, v = .slice (some ⟨g, 0, none⟩) n cap ∧ n ≤ cap := by
  rcases h.own.2 with ⟨_, h0⟩ | ⟨g, cap, cur, rfl, _, _, hle, _⟩
  · have := h.len; omega
  · exact ⟨g, cap, rfl, hle⟩

set_option maxHeartbeats 8000000 in
theorem rquote_calls (s : ByteArray) (hs : s.size ≤ 1000000) (w : World) :
    Calls Tryz.prog 14 #[.string s] w fun e w' => e = .returned (.string (mkS (refQuoteL (bl s)))) ∧ Below w.heap.size w w' := by
  obtain ⟨i0, hi0, hz0, hz1, hz2⟩ := info_parts infoByte
  obtain ⟨p0, hp0⟩ : ∃ p0, decide (0 < s.size) = p0 := ⟨_, rfl⟩
  have hne : s.toList.isEmpty = !p0 := by
    rw [← hp0, Lib.toList_data]
    show (bl s).isEmpty = _
    cases h : bl s with
    | nil =>
      have : s.size = 0 := by rw [← bl_len, h]; rfl
      simp [this]
    | cons x xs =>
      have : s.size = xs.length + 1 := by rw [← bl_len, h]; rfl
      simp [this]
  have HP0 := Lib.hid hp0
  have HOWN : Hid ((w.alloc (.cells #[.int .u8 34] 5)).ownsRow w.heap.size 5 1 (.slice (some ⟨w.heap.size, 0, none⟩) 1 1) 1 (bC (34 :: escL (cl ((bl s).take 0))))) := Lib.hid (by
    have := (row_new w w.heap.size (Nat.le_refl _) [34]).resolve_right (by unfold maxLen; simp)
    exact this)
  clear hp0
  go_enter Tryz.func14, Tryz.ntmps14
  go_wp2
  go_loopw [3, 4, 5, 6] (fun pv v i _ wr => ∃ (k : Nat) (pb : Bool) (v0 : Value) (n : Nat), k ≤ s.size ∧ i = .int .i64 k ∧ pv = .bool pb ∧ v = v0 ∧ Hid (QRow w w.heap.size s k pb v0 n wr)) (fun _ _ i _ _ => (s.size - intOf i).toNat)
  case atStart => exact ⟨0, p0, _, 1, by omega, rfl, rfl, rfl, Lib.hid ⟨HOWN.out, by rw [HP0.out]; cases p0 <;> rfl, (Below.refl _ _).alloc (Nat.le_refl _) _⟩⟩
  case round =>
    obtain ⟨k, pb, v, n, hk, rfl, rfl, hv, HQ⟩ := hrel
    obtain rfl := hv.symm
    have HQL := HQ.out.len
    have hsz := HQ.out.b.size
    by_cases hlt : k < s.size
    · have hlz : decide ((k : Int) < (s.size : Int)) = true := by simp; omega
      obtain ⟨c, hcc⟩ : ∃ c, s[k] = c := ⟨_, rfl⟩
      have HBK : Hid ((bl s)[k]? = some c) := Lib.hid (by
        rw [← hcc]; unfold bl; rw [Array.getElem?_toList]; exact Array.getElem?_eq_getElem hlt)
      by_cases h10 : c = 10
      · have ti := beq_t c 10 10 rfl h10
        have tn := bne_f c 10 10 rfl h10
        have HNX : Hid (∀ v' w1, w1.ownsRow w.heap.size 5 1 v' (n + 2) (bC (34 :: escL (cl ((bl s).take k))) ++ [.int .u8 42, .int .u8 110]) → (wr.alloc (.cells #[.int .u8 42, .int .u8 110] 5)).grownBy w1 v.ownBlock → QRow w w.heap.size s (k + 1) false v' (n + 2) w1) := Lib.hid (fun v' w1 h1 h2 => HQ.out.next HBK.out (by subst h10; rfl) (by subst h10; rfl) (by subst h10; cases pb <;> rfl) h1 h2)
        clear h10
        go_wp2_with (at_builtin; refine wpList_append_own _ rfl _ _ 34 rfl w.heap.size 5 i0 (.int .u8 0) 1 1 Tryz.underlying34 hi0 hz0 hz1 hz2 rfl (by decide) _ _ _ rfl (HQ.out.own.alloc _) ⟨wr.heap.size, 0, none⟩ 2 2 [.int .u8 42, .int .u8 110] (by rfl) (by rfl) (World.news_of_block (heap_alloc_new wr _)) (by simp [Value.oneCell']) (by unfold maxLen; omega) (by omega) (by simp; omega) ?_; intro v' w1 hown' hgrow _)
        go_wp2
        go_roundw
        case rel => exact ⟨k + 1, false, v', n + 2, by omega, by go_num, by first | rfl | trivial, by first | rfl | trivial, Lib.hid (HNX.out _ _ hown' hgrow)⟩
        case measure => simp [intOf]; omega

      · have ti := beq_f c 10 10 rfl h10
        have tn := bne_t c 10 10 rfl h10
        by_cases hod : c.toNat < 32 ∨ 126 < c.toNat
        · have hcl : cl1 c = 63 := by
            unfold cl1 odd
            rw [if_pos]
            simp [h10, hod]
          rcases hod with hod | hod
          · have tl : decide ((c.toNat : Int) < 32) = true := by simp; omega
            have HNX : Hid (∀ v' w1, w1.ownsRow w.heap.size 5 1 v' (n + 1) (bC (34 :: escL (cl ((bl s).take k))) ++ [.int .u8 63]) → (wr.alloc (.cells #[.int .u8 63] 5)).grownBy w1 v.ownBlock → QRow w w.heap.size s (k + 1) pb v' (n + 1) w1) := Lib.hid (fun v' w1 h1 h2 => HQ.out.next HBK.out (by rw [hcl]; rfl) (by rw [hcl]; rfl) (by rw [hcl]; cases pb <;> rfl) h1 h2)
            clear h10 hcl hod
            go_wp2_with (at_builtin; refine wpList_append_own _ rfl _ _ 34 rfl w.heap.size 5 i0 (.int .u8 0) 1 1 Tryz.underlying34 hi0 hz0 hz1 hz2 rfl (by decide) _ _ _ rfl (HQ.out.own.alloc _) ⟨wr.heap.size, 0, none⟩ 1 1 [.int .u8 63] (by rfl) (by rfl) (World.news_of_block (heap_alloc_new wr _)) (by simp [Value.oneCell']) (by unfold maxLen; omega) (by omega) (by simp; omega) ?_; intro v' w1 hown' hgrow _)
            go_wp2
            go_roundw
            case rel => exact ⟨k + 1, pb, v', n + 1, by omega, by go_num, by first | rfl | trivial, by first | rfl | trivial, Lib.hid (HNX.out _ _ hown' hgrow)⟩
            case measure => simp [intOf]; omega

          · have tl : decide ((c.toNat : Int) < 32) = false := by simp; omega
            have tg : decide (126 < (c.toNat : Int)) = true := by simp; omega
            have HNX : Hid (∀ v' w1, w1.ownsRow w.heap.size 5 1 v' (n + 1) (bC (34 :: escL (cl ((bl s).take k))) ++ [.int .u8 63]) → (wr.alloc (.cells #[.int .u8 63] 5)).grownBy w1 v.ownBlock → QRow w w.heap.size s (k + 1) pb v' (n + 1) w1) := Lib.hid (fun v' w1 h1 h2 => HQ.out.next HBK.out (by rw [hcl]; rfl) (by rw [hcl]; rfl) (by rw [hcl]; cases pb <;> rfl) h1 h2)
            clear h10 hcl hod
            go_wp2_with (at_builtin; refine wpList_append_own _ rfl _ _ 34 rfl w.heap.size 5 i0 (.int .u8 0) 1 1 Tryz.underlying34 hi0 hz0 hz1 hz2 rfl (by decide) _ _ _ rfl (HQ.out.own.alloc _) ⟨wr.heap.size, 0, none⟩ 1 1 [.int .u8 63] (by rfl) (by rfl) (World.news_of_block (heap_alloc_new wr _)) (by simp [Value.oneCell']) (by unfold maxLen; omega) (by omega) (by simp; omega) ?_; intro v' w1 hown' hgrow _)
            go_wp2
            go_roundw
            case rel => exact ⟨k + 1, pb, v', n + 1, by omega, by go_num, by first | rfl | trivial, by first | rfl | trivial, Lib.hid (HNX.out _ _ hown' hgrow)⟩
            case measure => simp [intOf]; omega

        · have tl : decide ((c.toNat : Int) < 32) = false := by simp; omega
          have tg : decide (126 < (c.toNat : Int)) = false := by simp; omega
          have hcl : cl1 c = c := by
            unfold cl1 odd
            rw [if_neg]
            simp [h10]
            omega
          have HCL := Lib.hid hcl
          clear hcl hod
          by_cases h32 : c = 32
          · have u1 := beq_t c 32 32 rfl h32
            have u2 := beq_f c 34 34 rfl (by rw [h32]; decide)
            have u3 := beq_f c 42 42 rfl (by rw [h32]; decide)
            have HNX : Hid (∀ v' w1, w1.ownsRow w.heap.size 5 1 v' (n + 1) (bC (34 :: escL (cl ((bl s).take k))) ++ [.int .u8 (c.toNat : Int)]) → (wr.alloc (.cells #[.int .u8 (c.toNat : Int)] 5)).grownBy w1 v.ownBlock → QRow w w.heap.size s (k + 1) false v' (n + 1) w1) := Lib.hid (fun v' w1 h1 h2 => HQ.out.next HBK.out (by rw [HCL.out]; subst h32; rfl) (by rw [HCL.out]; subst h32; rfl) (by rw [HCL.out]; subst h32; cases pb <;> rfl) h1 h2)
            clear h10 h32
            go_wp2_with (at_builtin; refine wpList_append_own _ rfl _ _ 34 rfl w.heap.size 5 i0 (.int .u8 0) 1 1 Tryz.underlying34 hi0 hz0 hz1 hz2 rfl (by decide) _ _ _ rfl (HQ.out.own.alloc _) ⟨wr.heap.size, 0, none⟩ 1 1 [.int .u8 (c.toNat : Int)] (by rfl) (by rfl) (World.news_of_block (heap_alloc_new wr _)) (by simp [Value.oneCell']) (by unfold maxLen; omega) (by omega) (by simp; omega) ?_; intro v' w1 hown' hgrow _)
            go_wp2
            go_roundw
            case rel => exact ⟨k + 1, false, v', n + 1, by omega, by go_num, by first | rfl | trivial, by first | rfl | trivial, Lib.hid (HNX.out _ _ hown' hgrow)⟩
            case measure => simp [intOf]; omega

          · have u1 := beq_f c 32 32 rfl h32
            by_cases h34 : c = 34
            · have u2 := beq_t c 34 34 rfl h34
              have HNX : Hid (∀ v' w1, w1.ownsRow w.heap.size 5 1 v' (n + 2) (bC (34 :: escL (cl ((bl s).take k))) ++ [.int .u8 42, .int .u8 (c.toNat : Int)]) → (wr.alloc (.cells #[.int .u8 42, .int .u8 (c.toNat : Int)] 5)).grownBy w1 v.ownBlock → QRow w w.heap.size s (k + 1) false v' (n + 2) w1) := Lib.hid (fun v' w1 h1 h2 => HQ.out.next HBK.out (by rw [HCL.out]; subst h34; rfl) (by rw [HCL.out]; subst h34; rfl) (by rw [HCL.out]; subst h34; cases pb <;> rfl) h1 h2)
              clear h10 h32 h34
              go_wp2_with (at_builtin; refine wpList_append_own _ rfl _ _ 34 rfl w.heap.size 5 i0 (.int .u8 0) 1 1 Tryz.underlying34 hi0 hz0 hz1 hz2 rfl (by decide) _ _ _ rfl (HQ.out.own.alloc _) ⟨wr.heap.size, 0, none⟩ 2 2 [.int .u8 42, .int .u8 (c.toNat : Int)] (by rfl) (by rfl) (World.news_of_block (heap_alloc_new wr _)) (by simp [Value.oneCell']) (by unfold maxLen; omega) (by omega) (by simp; omega) ?_; intro v' w1 hown' hgrow _)
              go_wp2
              go_roundw
              case rel => exact ⟨k + 1, false, v', n + 2, by omega, by go_num, by first | rfl | trivial, by first | rfl | trivial, Lib.hid (HNX.out _ _ hown' hgrow)⟩
              case measure => simp [intOf]; omega

            · have u2 := beq_f c 34 34 rfl h34
              by_cases h61 : c = 61
              · have u3 := beq_t c 61 61 rfl h61
                have u4 := beq_f c 42 42 rfl (by rw [h61]; decide)
                have HNX : Hid (∀ v' w1, w1.ownsRow w.heap.size 5 1 v' (n + 1) (bC (34 :: escL (cl ((bl s).take k))) ++ [.int .u8 (c.toNat : Int)]) → (wr.alloc (.cells #[.int .u8 (c.toNat : Int)] 5)).grownBy w1 v.ownBlock → QRow w w.heap.size s (k + 1) false v' (n + 1) w1) := Lib.hid (fun v' w1 h1 h2 => HQ.out.next HBK.out (by rw [HCL.out]; subst h61; rfl) (by rw [HCL.out]; subst h61; rfl) (by rw [HCL.out]; subst h61; cases pb <;> rfl) h1 h2)
                clear h10 h32 h34 h61
                go_wp2_with (at_builtin; refine wpList_append_own _ rfl _ _ 34 rfl w.heap.size 5 i0 (.int .u8 0) 1 1 Tryz.underlying34 hi0 hz0 hz1 hz2 rfl (by decide) _ _ _ rfl (HQ.out.own.alloc _) ⟨wr.heap.size, 0, none⟩ 1 1 [.int .u8 (c.toNat : Int)] (by rfl) (by rfl) (World.news_of_block (heap_alloc_new wr _)) (by simp [Value.oneCell']) (by unfold maxLen; omega) (by omega) (by simp; omega) ?_; intro v' w1 hown' hgrow _)
                go_wp2
                go_roundw
                case rel => exact ⟨k + 1, false, v', n + 1, by omega, by go_num, by first | rfl | trivial, by first | rfl | trivial, Lib.hid (HNX.out _ _ hown' hgrow)⟩
                case measure => simp [intOf]; omega

              · have u3 := beq_f c 61 61 rfl h61
                by_cases h42 : c = 42
                · have u4 := beq_t c 42 42 rfl h42
                  have HNX : Hid (∀ v' w1, w1.ownsRow w.heap.size 5 1 v' (n + 2) (bC (34 :: escL (cl ((bl s).take k))) ++ [.int .u8 42, .int .u8 (c.toNat : Int)]) → (wr.alloc (.cells #[.int .u8 42, .int .u8 (c.toNat : Int)] 5)).grownBy w1 v.ownBlock → QRow w w.heap.size s (k + 1) false v' (n + 2) w1) := Lib.hid (fun v' w1 h1 h2 => HQ.out.next HBK.out (by rw [HCL.out]; subst h42; rfl) (by rw [HCL.out]; subst h42; rfl) (by rw [HCL.out]; subst h42; cases pb <;> rfl) h1 h2)
                  clear h10 h32 h34 h61 h42
                  go_wp2_with (at_builtin; refine wpList_append_own _ rfl _ _ 34 rfl w.heap.size 5 i0 (.int .u8 0) 1 1 Tryz.underlying34 hi0 hz0 hz1 hz2 rfl (by decide) _ _ _ rfl (HQ.out.own.alloc _) ⟨wr.heap.size, 0, none⟩ 2 2 [.int .u8 42, .int .u8 (c.toNat : Int)] (by rfl) (by rfl) (World.news_of_block (heap_alloc_new wr _)) (by simp [Value.oneCell']) (by unfold maxLen; omega) (by omega) (by simp; omega) ?_; intro v' w1 hown' hgrow _)
                  go_wp2
                  go_roundw
                  case rel => exact ⟨k + 1, false, v', n + 2, by omega, by go_num, by first | rfl | trivial, by first | rfl | trivial, Lib.hid (HNX.out _ _ hown' hgrow)⟩
                  case measure => simp [intOf]; omega

                · have u4 := beq_f c 42 42 rfl h42
                  have HSP : Hid (rqSp c = false ∧ isSp c = false) := Lib.hid (by unfold rqSp isSp; simp [h10, h32, h34, h61, h42])
                  have HNX : Hid (∀ v' w1, w1.ownsRow w.heap.size 5 1 v' (n + 1) (bC (34 :: escL (cl ((bl s).take k))) ++ [.int .u8 (c.toNat : Int)]) → (wr.alloc (.cells #[.int .u8 (c.toNat : Int)] 5)).grownBy w1 v.ownBlock → QRow w w.heap.size s (k + 1) pb v' (n + 1) w1) := Lib.hid (fun v' w1 h1 h2 => HQ.out.next HBK.out (by rw [HCL.out]; unfold esc1; rw [HSP.out.2]; rfl) (by rw [HCL.out]; unfold esc1; rw [HSP.out.2]; rfl) (by rw [HCL.out, HSP.out.1]; cases pb <;> rfl) h1 h2)
                  clear h10 h32 h34 h61 h42
                  go_wp2_with (at_builtin; refine wpList_append_own _ rfl _ _ 34 rfl w.heap.size 5 i0 (.int .u8 0) 1 1 Tryz.underlying34 hi0 hz0 hz1 hz2 rfl (by decide) _ _ _ rfl (HQ.out.own.alloc _) ⟨wr.heap.size, 0, none⟩ 1 1 [.int .u8 (c.toNat : Int)] (by rfl) (by rfl) (World.news_of_block (heap_alloc_new wr _)) (by simp [Value.oneCell']) (by unfold maxLen; omega) (by omega) (by simp; omega) ?_; intro v' w1 hown' hgrow _)
                  go_wp2
                  go_roundw
                  case rel => exact ⟨k + 1, pb, v', n + 1, by omega, by go_num, by first | rfl | trivial, by first | rfl | trivial, Lib.hid (HNX.out _ _ hown' hgrow)⟩
                  case measure => simp [intOf]; omega

    · obtain rfl : k = s.size := by omega
      have hlz : ¬ s.size < s.size := by omega
      have hall : (bl s).take s.size = bl s := by rw [← bl_len]; exact List.take_length
      have HPL := Lib.hid HQ.out.pl
      have hown := HQ.out.own
      have hBq := HQ.out.b
      rw [hall] at hown HPL
      have HNZ : Hid (0 < s.size → bl s ≠ []) := Lib.hid (fun h e => by
        have : s.size = 0 := by rw [← bl_len, e]; rfl
        omega)
      obtain ⟨g, cap, rfl, hncap⟩ := HQ.out.slice
      have hn2 : n = (escL (cl (bl s))).length + 1 := by have := hown.1; rw [bC_len, List.length_cons] at this; omega
      have HOWN2 := Lib.hid hown
      clear hown hall
      cases pb with
      | true =>
        have HZ : Hid (0 < s.size ∧ (cl (bl s)).any rqSp = false) := Lib.hid (by
          have h := HPL.out
          cases e1 : decide (0 < s.size) <;> cases e2 : (cl (bl s)).any rqSp <;> rw [e1, e2] at h
          · cases h
          · cases h
          · exact ⟨by simpa using e1, rfl⟩
          · cases h)
        have HE : Hid (refQuoteL (bl s) = escL (cl (bl s))) := Lib.hid (by
          unfold refQuoteL
          rw [if_neg]
          intro e
          rcases e with e | e
          · exact HNZ.out HZ.out.1 e
          · rw [HZ.out.2] at e; cases e)
        have h1n : 1 ≤ n := HQL.2
        have h2n : 2 ≤ n := by
          have : (escL (cl (bl s))).length ≥ 1 := by
            rw [escL_len, cl_len]
            have := List.length_pos_iff.2 (HNZ.out HZ.out.1)
            omega
          omega
        have hcv := conv_row_tail HOWN2.out (n - 1) (by omega) (cap - 1)
        have HN2 := Lib.hid hn2
        have hc1 : ¬ cap = 1 := by omega
        have hi1 : (1 : Int) ≤ (n : Int) := by omega
        have hi2 : (n : Int) ≤ (cap : Int) := by omega
        clear hn2
        go_wp2
        go_ret
        rw [HE.out]
        exact ⟨rfl, hBq⟩
      | false =>
        have HE : Hid (refQuoteL (bl s) = 34 :: (escL (cl (bl s)) ++ [34])) := Lib.hid (by
          have h := HPL.out
          unfold refQuoteL
          rw [if_pos]
          by_cases hz : 0 < s.size
          · right
            cases e : (cl (bl s)).any rqSp with
            | true => rfl
            | false => rw [e] at h; simp [hz] at h
          · left
            have := drop_end s 0 (by omega)
            rwa [List.drop_zero] at this)
        clear hn2
        go_wp2_with (at_builtin; refine wpList_append_own _ rfl _ _ 34 rfl w.heap.size 5 i0 (.int .u8 0) 1 1 Tryz.underlying34 hi0 hz0 hz1 hz2 rfl (by decide) _ _ _ rfl (HOWN2.out.alloc _) ⟨wr.heap.size, 0, none⟩ 1 1 [.int .u8 34] (by rfl) (by rfl) (World.news_of_block (heap_alloc_new wr _)) (by simp [Value.oneCell']) (by unfold maxLen; omega) (by omega) (by simp; omega) ?_; intro v' w1 hown' hgrow _; obtain ⟨g', cap', rfl⟩ := ownsRow_succ hown'; have hcv := conv_row (l := 34 :: (escL (cl (bl s)) ++ [34])) (by simpa [bC] using hown'))
        go_wp2
        go_ret
        rw [HE.out]
        exact ⟨rfl, (hBq.alloc hsz _).grown hgrow (by simp; omega) (fun j e => (own_block HOWN2.out e).1)⟩
end Go.Proofs.YtojppincaalibaaGreatDoor
