/- From the rows' condition on listed variables to what the libraries' error variables hold. No condition beyond the row's own. -/
import Derived.Test.YtkjlfhccjpimcaaDoorLaid
import Derived.LaidLaws
namespace Go.Proofs.YtkjlfhccjpimcaaDoor
open Go.RowKit
set_option linter.unusedVariables false
theorem starE : "*" ++ "errors.errorString" = "*errors.errorString" := by decide
theorem rowE (u : TypeId) (h : Tryd.prog.typeName? 3 u = some "*errors.errorString") : u = 152 :=
  typeName_ptr_named (nm := "errors.errorString") (by rw [starE]; kernel_rfl) (by kernel_rfl) (by decide) u (by rw [starE]; exact h)
theorem errVar {n : String} {g : Nat} {text : List UInt8} {r : List (String × DataW Unit)} {W : World} (h : laidMet Tryd.prog ((n, .iface "*errors.errorString" (.ptr (.agg [.lit (.string text)]))) :: r) W)
    (hg : Tryd.prog.globalNamed n = some g) (ht : (Tryd.prog.globals[g]?).map (·.type) = some 61) : ∃ tp p, W.cell? ⟨g, 0, none⟩ = some (.iface tp p) := by
  obtain ⟨a, s, hv, _⟩ := laid_sentinel h hg ht Tryd.underlying61 rowE Tryd.underlying152 Tryd.underlying154 rfl rfl Tryd.underlying9 (by kernel_rfl) (by kernel_rfl)
  exact ⟨_, _, by have h0 := World.var?_cell hg hv 0; simpa using h0⟩
theorem intErr_of_laid {W : World} (h : laidMetH Tryd.prog Rows.fnExactParseIntRow.laid W) : (∃ tp p, W.cell? ⟨1, 0, none⟩ = some (.iface tp p)) ∧ (∃ tp p, W.cell? ⟨2, 0, none⟩ = some (.iface tp p)) ∧
    Lib.TabBelow Tryd.prog W.heap.size W "internal/strconv.uint64pow10" .u64 Lib.pow10Tab := by
  rw [MakeChecks.laidMetH_plain _ _ _ (by kernel_rfl)] at h
  have h2 := laidMet.tail (laidMet.tail h)
  have h3 := laidMet.tail h2
  refine ⟨?_, ?_, ?_⟩
  · first
    | exact errVar (n := "strconv.ErrSyntax") h3 (by kernel_rfl) (by kernel_rfl)
    | exact errVar (n := "strconv.ErrSyntax") (laidMet.tail h3) (by kernel_rfl) (by kernel_rfl)
  · first
    | exact errVar (n := "strconv.ErrRange") h3 (by kernel_rfl) (by kernel_rfl)
    | exact errVar (n := "strconv.ErrRange") (laidMet.tail h3) (by kernel_rfl) (by kernel_rfl)
  · have h4 : laidMet Tryd.prog (("internal/strconv.uint64pow10", Rows.laid_internal_strconv_uint64pow10) :: _) W := h2
    rw [powData] at h4
    exact Lib.tabBelow_of_tabIs (Lib.tabIs_of_head (g := 3) (t := 156) (e := 133) (n := 20) (by kernel_rfl) (by kernel_rfl) (by kernel_rfl) (by kernel_rfl) (by kernel_rfl) (by kernel_rfl) h4)
theorem encErr_of_laid {W : World} (h : laidMetH Tryd.prog Rows.fnIntegerEncodingsRow.laid W) : (∃ tp p, W.cell? ⟨0, 0, none⟩ = some (.iface tp p)) ∧ (∃ tp p, W.cell? ⟨1, 0, none⟩ = some (.iface tp p)) ∧ (∃ tp p, W.cell? ⟨2, 0, none⟩ = some (.iface tp p)) ∧
    Lib.TabBelow Tryd.prog W.heap.size W "internal/strconv.uint64pow10" .u64 Lib.pow10Tab := by
  rw [MakeChecks.laidMetH_plain _ _ _ (by kernel_rfl)] at h
  have h2 := laidMet.tail (laidMet.tail h)
  have h3 := laidMet.tail h2
  refine ⟨?_, ?_, ?_, ?_⟩
  · exact errVar (n := "encoding/hex.ErrLength") (laidMet.tail (laidMet.tail h3)) (by kernel_rfl) (by kernel_rfl)
  · first
    | exact errVar (n := "strconv.ErrSyntax") h3 (by kernel_rfl) (by kernel_rfl)
    | exact errVar (n := "strconv.ErrSyntax") (laidMet.tail h3) (by kernel_rfl) (by kernel_rfl)
  · first
    | exact errVar (n := "strconv.ErrRange") h3 (by kernel_rfl) (by kernel_rfl)
    | exact errVar (n := "strconv.ErrRange") (laidMet.tail h3) (by kernel_rfl) (by kernel_rfl)
  · have h4 : laidMet Tryd.prog (("internal/strconv.uint64pow10", Rows.laid_internal_strconv_uint64pow10) :: _) W := h2
    rw [powData] at h4
    exact Lib.tabBelow_of_tabIs (Lib.tabIs_of_head (g := 3) (t := 156) (e := 133) (n := 20) (by kernel_rfl) (by kernel_rfl) (by kernel_rfl) (by kernel_rfl) (by kernel_rfl) (by kernel_rfl) h4)
end Go.Proofs.YtkjlfhccjpimcaaDoor
