/- The walk of the law FnExactParseInt: it returns true, whatever the input. -/
import Derived.Test.YtkjlfhccjpimcaaDoorParI
namespace Go.Proofs.YtkjlfhccjpimcaaDoor
open Go.RowKit
set_option linter.unusedVariables false
set_option linter.unusedSimpArgs false
set_option maxHeartbeats 800000 in
theorem fnExactParseInt_walk (s : ByteArray) (w : World) (hT : (∃ tp p, w.cell? ⟨1, 0, none⟩ = some (.iface tp p)) ∧ (∃ tp p, w.cell? ⟨2, 0, none⟩ = some (.iface tp p)) ∧
    Lib.TabBelow Tryd.prog w.heap.size w "internal/strconv.uint64pow10" .u64 Lib.pow10Tab) :
    Calls Tryd.prog 3 #[.string s] w fun e w' => e = .returned (.bool true) ∧ Below w.heap.size w w' := by
  by_cases hs : s.size ≤ 1048576
  · have h1 := specParseInt_any s w hs
    obtain ⟨⟨t1, p1, hE⟩, ⟨t2, p2, hR⟩, hT⟩ := hT
    have HT := Lib.hid hT
    clear hT
    go_enter Tryd.func3, Tryd.ntmps3
    go_wp2_with fail
    refine h1.mono ?_
    rintro e w1 ⟨v, k, rfl, hI, hb1⟩
    have HI := Lib.hid hI
    clear h1 hI
    have h3 := implParseInt_any s w1 hs ⟨t1, p1, cell_below hE hb1⟩ ⟨t2, p2, cell_below hR hb1⟩ (Tab.on HT.out hb1)
    go_wp2_with fail
    refine h3.mono ?_
    rintro e w2 ⟨v', k', rfl, hI', hb2⟩
    obtain ⟨rfl, rfl⟩ := HI.out.one hI'
    clear h3 hI'
    have hb3 := bt hb1 hb2
    have hvv : (v != v) = false := by simp
    have hkk : (k != k) = false := by simp
    go_wp2
    go_ret
    exact ⟨rfl, hb3⟩
  · go_enter Tryd.func3, Tryd.ntmps3
    go_wp2
    go_ret
    exact ⟨rfl, Below.refl _ _⟩
end Go.Proofs.YtkjlfhccjpimcaaDoor
