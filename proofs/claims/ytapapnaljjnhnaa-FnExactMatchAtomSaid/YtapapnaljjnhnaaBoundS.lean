/- l4Bound of the reference. Condition: none. -/
import Derived.Test.YtapapnaljjnhnaaValue
import Derived.Test.YtapapnaljjnhnaaCopBS
namespace Go.Proofs.Ytapapnaljjnhnaa
open Go.RowKit
set_option linter.unusedVariables false
set_option linter.unusedSimpArgs false
theorem ret_boolB {b c : Bool} (h : b = c) : Ending.returned (.bool b) = Ending.returned (.bool c) := by rw [h]
set_option maxRecDepth 100000 in
set_option maxHeartbeats 800000 in
theorem l4Bound_any (b : BindD) (vv vx : Value) (fv fx : List Nat) (t : Int) (w : World) (hv : ints w vv b.vars fv) (hx : ints w vx b.vals fx) :
    Calls Try.prog 23 #[.agg #[vv, vx], .int .i64 t] w fun e w' => e = .returned (.bool (boundL b.vars b.vals t)) ∧ Below w.heap.size w w' := by
  obtain ⟨s, l⟩ := b
  obtain ⟨a, cap, rfl⟩ := slR.form hv
  obtain ⟨b, cap', rfl⟩ := slR.form hx
  have hla := slR.le_max hv
  have hlb := slR.le_max hx
  have hv' := hv.al (.cells #[.slice a s.length cap, .slice b l.length cap'] 32)
  have hx' := hx.al (.cells #[.slice a s.length cap, .slice b l.length cap'] 32)
  go_enter Try.func23, Try.ntmps23
  go_wp2
  go_loop [5] (fun i => ∃ k : Nat, i = .int .i64 k ∧ k ≤ s.length ∧ k ≤ l.length ∧ Hid (boundL s l t = boundL (s.drop k) (l.drop k) t)) (fun i => s.length - (intOf i).toNat)
  case atStart => exact ⟨0, rfl, Nat.zero_le _, Nat.zero_le _, Lib.hid (by simp)⟩
  case round =>
    obtain ⟨k, rfl, hk, hk2, HN⟩ := hrel
    by_cases h1 : k < s.length
    · by_cases h2 : k < l.length
      · obtain ⟨g, hga, hc, _, _, _⟩ := hv'.get k h1
        obtain ⟨g', hgb, hc', _, _, _⟩ := hx'.get k h2
        subst hga hgb
        by_cases he : s[k] = t
        · have Hg := Lib.hid (id (HN.out.trans ((boundL_at h1 h2).trans (if_pos he))))
          have hd : (s[k] == t) = true := by simp [he]
          clear he
          go_wp2
          go_ret
          exact ⟨ret_boolB (by rw [Hg.out]), ba (Below.refl _ _)⟩
        · have HN2 := Lib.hid (HN.out.trans ((boundL_at h1 h2).trans (if_neg he)))
          have hd : (s[k] == t) = false := by simp [he]
          clear he
          go_wp2
          go_round
          case rel => exact ⟨k + 1, by go_num, by omega, by omega, HN2⟩
          case measure => simp [intOf]; omega
      · have Hg := Lib.hid (id (HN.out.trans (boundL_end (.inr (by omega)))))
        go_wp2
        go_ret
        exact ⟨ret_boolB (by rw [Hg.out]), ba (Below.refl _ _)⟩
    · have Hg := Lib.hid (id (HN.out.trans (boundL_end (.inl (by omega)))))
      go_wp2
      go_ret
      exact ⟨ret_boolB (by rw [Hg.out]), ba (Below.refl _ _)⟩
end Go.Proofs.Ytapapnaljjnhnaa
