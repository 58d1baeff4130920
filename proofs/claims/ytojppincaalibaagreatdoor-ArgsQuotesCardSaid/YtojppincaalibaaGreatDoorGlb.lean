/- From what a row lists, and the world's shape, to the predicate on the variables that the contracts ask. -/
import Derived.Test.YtojppincaalibaaGreatDoorRows
import Derived.Test.YtojppincaalibaaGreatDoorArgN
import Derived.Test.YtojppincaalibaaGreatDoorShelf
import Derived.ProofKit
import Derived.OpenShut
import Derived.ShutString
import Derived.LaidMore
import Derived.Lay
import Derived.LaidLaws
import Derived.Stop.Joined
import Derived.Shelf.Vars
import Derived.Lib.LaidU8
set_option linter.unusedVariables false
namespace Go.Proofs.YtojppincaalibaaGreatDoor
open Go.ChangeShapes Go.WideShapes Go.ChangeAt Go.RowKit Go.Lib
set_option maxRecDepth 100000

def laidL : List (String × DataW Unit) := Rows.argsWordsRow.laid
theorem acc_data : (Rows.laid_unicode_utf8_acceptRanges : DataW Unit) = acceptData := by kernel_rfl
theorem fst_data : Rows.laid_unicode_utf8_first = firstData := by kernel_rfl
theorem laidL_plain {W : World} (h : laidMetH Tryz.prog laidL W) : laidMet Tryz.prog laidL W := by
  rwa [MakeChecks.laidMetH_plain _ _ _ (by kernel_rfl)] at h
theorem iface_read {W : World} {n nm : String} {d : DataW Unit} {g : Nat} (h : VarReads Tryz.prog W n (.iface nm d)) (hg : Tryz.prog.globalNamed n = some g)
    (ht : (Tryz.prog.globals[g]?).map (·.type) = some 65) : ∃ tp p, W.var? Tryz.prog n = some #[.iface tp p] := by
  obtain ⟨g', t, cs, fuel, p, hg', hty, hvar, hd⟩ := h
  obtain rfl := Option.some.inj (hg.symm.trans hg')
  obtain rfl := Option.some.inj (ht.symm.trans hty)
  obtain ⟨f1, u, v, hcs, _, _⟩ := iface_of_trod Tryz.underlying65 hd
  refine ⟨u, v, ?_⟩
  rw [hvar]
  exact congrArg some (Array.eq_one_of_toList hcs)
theorem glob_of_laid {W : World} (hs : W.ShapedOpen Tryz.prog) (hL : laidMetH Tryz.prog laidL W) : Glob W := by
  have hl := laidL_plain hL
  have hr : ∀ n d, (n, d) ∈ laidL → VarReads Tryz.prog W n d := fun n d hm => Lib.laidMet.reads hl hm
  refine ⟨?_, ?_, ?_, ?_, ?_⟩
  · obtain ⟨o, o0, h1, -, -⟩ := hs.2 9 (of_decide_eq_true (by kernel_rfl)) (of_decide_eq_true (by kernel_rfl))
    exact Nat.le_of_lt (Array.getElem?_eq_some_iff.1 h1).1
  · exact cell_of_shapedOpen_int (t := 3) (zero := #[.int .i64 0]) hs (of_decide_eq_true (by kernel_rfl)) (by kernel_rfl) rfl (by kernel_rfl) (by kernel_rfl) Tryz.underlying3
  · exact iface_read (hr "strconv.ErrSyntax" Rows.laid_strconv_ErrSyntax (.tail _ (.tail _ (.tail _ (.tail _ (.tail _ (.head _))))))) es_named (by kernel_rfl)
  · exact iface_read (hr "strconv.ErrRange" Rows.laid_strconv_ErrRange (.tail _ (.tail _ (.tail _ (.tail _ (.head _)))))) er_named (by kernel_rfl)
  · exact utf8Tabs_of_reads Tryz.lays260 ⟨by kernel_rfl, by kernel_rfl, by kernel_rfl, by kernel_rfl, by kernel_rfl, by kernel_rfl, by kernel_rfl⟩ (fst_data ▸ hr "unicode/utf8.first" Rows.laid_unicode_utf8_first (.tail _ (.tail _ (.tail _ (.tail _ (.tail _ (.tail _ (.tail _ (.head _)))))))))
      (acc_data ▸ hr "unicode/utf8.acceptRanges" Rows.laid_unicode_utf8_acceptRanges (.tail _ (.tail _ (.tail _ (.head _)))))
end Go.Proofs.YtojppincaalibaaGreatDoor
