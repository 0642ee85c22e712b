/- From the rows' condition on listed variables, and the world's shape, to what the program's reading of texts wants of the library's variables. No condition beyond the row's own. -/
import Derived.Test.YtojjojcmemifhaaDoorLaidE
import Derived.Test.YtojjojcmemifhaaDoorSplitI
namespace Go.Proofs.YtojjojcmemifhaaDoor
open Go.RowKit
set_option linter.unusedVariables false
theorem libW_of {W : World} {r : List (String × DataW Unit)} (h2 : laidMet Tryd.prog (("internal/strconv.uint64pow10", Rows.laid_internal_strconv_uint64pow10) :: r) W)
    (hS : ∃ tp p, W.cell? ⟨1, 0, none⟩ = some (.iface tp p)) (hR : ∃ tp p, W.cell? ⟨2, 0, none⟩ = some (.iface tp p)) (hsh : W.ShapedOpen Tryd.prog) : LibW W := by
  rw [powData] at h2
  exact ⟨hS, hR, Lib.tabBelow_of_tabIs (Lib.tabIs_of_head (g := 5) (t := 112) (e := 82) (n := 20) (by kernel_rfl) (by kernel_rfl) (by kernel_rfl) (by kernel_rfl) (by kernel_rfl) (by kernel_rfl) h2), Tryd.laysM146.s1_3 W hsh⟩
theorem libW_of_FnExactParseMethod {W : World} (h : laidMetH Tryd.prog Rows.fnExactParseMethodRow.laid W) (hsh : W.ShapedOpen Tryd.prog) : LibW W := by
  rw [MakeChecks.laidMetH_plain _ _ _ (by kernel_rfl)] at h
  have h2 := laidMet.tail (laidMet.tail h)
  have h3 := laidMet.tail h2
  refine libW_of h2 ?_ ?_ hsh
  · first
    | exact errVar (n := "strconv.ErrSyntax") h3 (by kernel_rfl) (by kernel_rfl)
    | exact errVar (n := "strconv.ErrSyntax") (laidMet.tail h3) (by kernel_rfl) (by kernel_rfl)
    | exact errVar (n := "strconv.ErrSyntax") (laidMet.tail (laidMet.tail h3)) (by kernel_rfl) (by kernel_rfl)
    | exact errVar (n := "strconv.ErrSyntax") (laidMet.tail (laidMet.tail (laidMet.tail h3))) (by kernel_rfl) (by kernel_rfl)
  · first
    | exact errVar (n := "strconv.ErrRange") h3 (by kernel_rfl) (by kernel_rfl)
    | exact errVar (n := "strconv.ErrRange") (laidMet.tail h3) (by kernel_rfl) (by kernel_rfl)
    | exact errVar (n := "strconv.ErrRange") (laidMet.tail (laidMet.tail h3)) (by kernel_rfl) (by kernel_rfl)
    | exact errVar (n := "strconv.ErrRange") (laidMet.tail (laidMet.tail (laidMet.tail h3))) (by kernel_rfl) (by kernel_rfl)
end Go.Proofs.YtojjojcmemifhaaDoor
