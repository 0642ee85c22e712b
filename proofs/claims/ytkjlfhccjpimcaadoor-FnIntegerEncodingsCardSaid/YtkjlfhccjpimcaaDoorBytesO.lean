/- An argument of bytes as it is read off memory. No condition. -/
import Derived.Test.YtkjlfhccjpimcaaDoorOpen
import Derived.Test.YtkjlfhccjpimcaaDoorDraws
namespace Go.Proofs.YtkjlfhccjpimcaaDoor
open Go.RowKit Go.ChangeShapes Go.WideShapes Go.Deep
set_option linter.unusedVariables false
theorem reads_byte {P : Program} {t : TypeId} (ht : P.underlying t = some (.int .u8)) : Reads P t byteW := by
  intro H enc w fuel cs x h
  obtain ⟨n, rfl, _, hw⟩ := DataW.trod_int ht h
  have hb : 0 ≤ n ∧ n ≤ 255 := by
    simp [Lit.wf, IntKind.min, IntKind.max, IntKind.signed, IntKind.bits] at hw
    omega
  exact ⟨n, rfl, hb⟩
theorem bytesO : Reads Tryd.prog 25 (elW 1 byteW) := reads_slice Tryd.underlying25 (by kernel_rfl) (by decide) (reads_byte Tryd.underlying5)
end Go.Proofs.YtkjlfhccjpimcaaDoor
