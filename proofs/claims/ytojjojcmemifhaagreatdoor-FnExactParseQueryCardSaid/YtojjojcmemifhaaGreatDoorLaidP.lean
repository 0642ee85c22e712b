/- From the rows' condition on listed variables, and the world's shape, to what the program's reading of texts wants of the library's variables. No condition beyond the row's own. -/
import Derived.Test.YtojjojcmemifhaaGreatDoorLaidE
import Derived.Test.YtojjojcmemifhaaGreatDoorSplitI
namespace Go.Proofs.YtojjojcmemifhaaGreatDoor
open Go.RowKit
set_option linter.unusedVariables false
theorem libW_of {W : World} {r : List (String × DataW Unit)} (h2 : laidMet Tryz.prog (("internal/strconv.uint64pow10", Rows.laid_internal_strconv_uint64pow10) :: r) W)
    (hS : ∃ tp p, W.cell? ⟨1, 0, none⟩ = some (.iface tp p)) (hR : ∃ tp p, W.cell? ⟨2, 0, none⟩ = some (.iface tp p)) (hsh : W.ShapedOpen Tryz.prog) : LibW W := by
  rw [powData] at h2
  exact ⟨hS, hR, Lib.tabBelow_of_tabIs (Lib.tabIs_of_head (g := 3) (t := 253) (e := 235) (n := 20) (by kernel_rfl) (by kernel_rfl) (by kernel_rfl) (by kernel_rfl) (by kernel_rfl) (by kernel_rfl) h2), Tryz.laysM146.s1_3 W hsh⟩
theorem libW_of_FnExactParseFact {W : World} (h : laidMetH Tryz.prog Rows.fnExactParseFactRow.laid W) (hsh : W.ShapedOpen Tryz.prog) : LibW W := by
  rw [MakeChecks.laidMetH_plain _ _ _ (by kernel_rfl)] at h
  have h2 := laidMet.tail (laidMet.tail h)
  have h3 := laidMet.tail h2
  refine libW_of h2 ?_ ?_ hsh
  · first
    | exact errVar (n := "strconv.ErrSyntax") h3 (by kernel_rfl) (by kernel_rfl)
    | exact errVar (n := "strconv.ErrSyntax") (laidMet.tail h3) (by kernel_rfl) (by kernel_rfl)
    | exact errVar (n := "strconv.ErrSyntax") (laidMet.tail (laidMet.tail h3)) (by kernel_rfl) (by kernel_rfl)
    | exact errVar (n := "strconv.ErrSyntax") (laidMet.tail (laidMet.tail (laidMet.tail h3))) (by kernel_rfl) (by kernel_rfl)
  · first
    | exact errVar (n := "strconv.ErrRange") h3 (by kernel_rfl) (by kernel_rfl)
    | exact errVar (n := "strconv.ErrRange") (laidMet.tail h3) (by kernel_rfl) (by kernel_rfl)
    | exact errVar (n := "strconv.ErrRange") (laidMet.tail (laidMet.tail h3)) (by kernel_rfl) (by kernel_rfl)
    | exact errVar (n := "strconv.ErrRange") (laidMet.tail (laidMet.tail (laidMet.tail h3))) (by kernel_rfl) (by kernel_rfl)
theorem libW_of_FnExactParseQuery {W : World} (h : laidMetH Tryz.prog Rows.fnExactParseQueryRow.laid W) (hsh : W.ShapedOpen Tryz.prog) : LibW W := by
  rw [MakeChecks.laidMetH_plain _ _ _ (by kernel_rfl)] at h
  have h2 := laidMet.tail (laidMet.tail h)
  have h3 := laidMet.tail h2
  refine libW_of h2 ?_ ?_ hsh
  · first
    | exact errVar (n := "strconv.ErrSyntax") h3 (by kernel_rfl) (by kernel_rfl)
    | exact errVar (n := "strconv.ErrSyntax") (laidMet.tail h3) (by kernel_rfl) (by kernel_rfl)
    | exact errVar (n := "strconv.ErrSyntax") (laidMet.tail (laidMet.tail h3)) (by kernel_rfl) (by kernel_rfl)
    | exact errVar (n := "strconv.ErrSyntax") (laidMet.tail (laidMet.tail (laidMet.tail h3))) (by kernel_rfl) (by kernel_rfl)
  · first
    | exact errVar (n := "strconv.ErrRange") h3 (by kernel_rfl) (by kernel_rfl)
    | exact errVar (n := "strconv.ErrRange") (laidMet.tail h3) (by kernel_rfl) (by kernel_rfl)
    | exact errVar (n := "strconv.ErrRange") (laidMet.tail (laidMet.tail h3)) (by kernel_rfl) (by kernel_rfl)
    | exact errVar (n := "strconv.ErrRange") (laidMet.tail (laidMet.tail (laidMet.tail h3))) (by kernel_rfl) (by kernel_rfl)
theorem libW_of_FnFacts {W : World} (h : laidMetH Tryz.prog Rows.fnFactsRow.laid W) (hsh : W.ShapedOpen Tryz.prog) : LibW W := by
  rw [MakeChecks.laidMetH_plain _ _ _ (by kernel_rfl)] at h
  have h2 := laidMet.tail (laidMet.tail h)
  have h3 := laidMet.tail h2
  refine libW_of h2 ?_ ?_ hsh
  · first
    | exact errVar (n := "strconv.ErrSyntax") h3 (by kernel_rfl) (by kernel_rfl)
    | exact errVar (n := "strconv.ErrSyntax") (laidMet.tail h3) (by kernel_rfl) (by kernel_rfl)
    | exact errVar (n := "strconv.ErrSyntax") (laidMet.tail (laidMet.tail h3)) (by kernel_rfl) (by kernel_rfl)
    | exact errVar (n := "strconv.ErrSyntax") (laidMet.tail (laidMet.tail (laidMet.tail h3))) (by kernel_rfl) (by kernel_rfl)
  · first
    | exact errVar (n := "strconv.ErrRange") h3 (by kernel_rfl) (by kernel_rfl)
    | exact errVar (n := "strconv.ErrRange") (laidMet.tail h3) (by kernel_rfl) (by kernel_rfl)
    | exact errVar (n := "strconv.ErrRange") (laidMet.tail (laidMet.tail h3)) (by kernel_rfl) (by kernel_rfl)
    | exact errVar (n := "strconv.ErrRange") (laidMet.tail (laidMet.tail (laidMet.tail h3))) (by kernel_rfl) (by kernel_rfl)
theorem libW_of_FnQueries {W : World} (h : laidMetH Tryz.prog Rows.fnQueriesRow.laid W) (hsh : W.ShapedOpen Tryz.prog) : LibW W := by
  rw [MakeChecks.laidMetH_plain _ _ _ (by kernel_rfl)] at h
  have h2 := laidMet.tail (laidMet.tail h)
  have h3 := laidMet.tail h2
  refine libW_of h2 ?_ ?_ hsh
  · first
    | exact errVar (n := "strconv.ErrSyntax") h3 (by kernel_rfl) (by kernel_rfl)
    | exact errVar (n := "strconv.ErrSyntax") (laidMet.tail h3) (by kernel_rfl) (by kernel_rfl)
    | exact errVar (n := "strconv.ErrSyntax") (laidMet.tail (laidMet.tail h3)) (by kernel_rfl) (by kernel_rfl)
    | exact errVar (n := "strconv.ErrSyntax") (laidMet.tail (laidMet.tail (laidMet.tail h3))) (by kernel_rfl) (by kernel_rfl)
  · first
    | exact errVar (n := "strconv.ErrRange") h3 (by kernel_rfl) (by kernel_rfl)
    | exact errVar (n := "strconv.ErrRange") (laidMet.tail h3) (by kernel_rfl) (by kernel_rfl)
    | exact errVar (n := "strconv.ErrRange") (laidMet.tail (laidMet.tail h3)) (by kernel_rfl) (by kernel_rfl)
    | exact errVar (n := "strconv.ErrRange") (laidMet.tail (laidMet.tail (laidMet.tail h3))) (by kernel_rfl) (by kernel_rfl)
theorem libW_of_FnMethods {W : World} (h : laidMetH Tryz.prog Rows.fnMethodsRow.laid W) (hsh : W.ShapedOpen Tryz.prog) : LibW W := by
  rw [MakeChecks.laidMetH_plain _ _ _ (by kernel_rfl)] at h
  have h2 := laidMet.tail (laidMet.tail h)
  have h3 := laidMet.tail h2
  refine libW_of h2 ?_ ?_ hsh
  · first
    | exact errVar (n := "strconv.ErrSyntax") h3 (by kernel_rfl) (by kernel_rfl)
    | exact errVar (n := "strconv.ErrSyntax") (laidMet.tail h3) (by kernel_rfl) (by kernel_rfl)
    | exact errVar (n := "strconv.ErrSyntax") (laidMet.tail (laidMet.tail h3)) (by kernel_rfl) (by kernel_rfl)
    | exact errVar (n := "strconv.ErrSyntax") (laidMet.tail (laidMet.tail (laidMet.tail h3))) (by kernel_rfl) (by kernel_rfl)
  · first
    | exact errVar (n := "strconv.ErrRange") h3 (by kernel_rfl) (by kernel_rfl)
    | exact errVar (n := "strconv.ErrRange") (laidMet.tail h3) (by kernel_rfl) (by kernel_rfl)
    | exact errVar (n := "strconv.ErrRange") (laidMet.tail (laidMet.tail h3)) (by kernel_rfl) (by kernel_rfl)
    | exact errVar (n := "strconv.ErrRange") (laidMet.tail (laidMet.tail (laidMet.tail h3))) (by kernel_rfl) (by kernel_rfl)
end Go.Proofs.YtojjojcmemifhaaGreatDoor
