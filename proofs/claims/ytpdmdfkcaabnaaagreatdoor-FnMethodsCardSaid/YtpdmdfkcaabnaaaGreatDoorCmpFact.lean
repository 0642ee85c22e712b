/- CompareFacts, of the program and of the reference. No condition. -/
import Derived.Test.YtpdmdfkcaabnaaaGreatDoorCompare
import Derived.Test.YtpdmdfkcaabnaaaGreatDoorMC
namespace Go.Proofs.YtpdmdfkcaabnaaaGreatDoor
open Go.RowKit
set_option linter.unusedVariables false
set_option linter.unusedSimpArgs false
theorem ints_lit2 (w : World) (a b : Int) (ha : I64 a) (hb : I64 b) : ints (w.alloc (.cells #[.int .i64 a, .int .i64 b] 3)) (.slice (some ⟨w.heap.size, 0, none⟩) 2 2) [a, b] [w.heap.size] := by
  have h := Row.made (E := 3) (sz := 1) w #[.int .i64 a, .int .i64 b] 2 (by unfold maxLen; omega) rfl
  refine ints_of_row (l := [a, b]) (o := some w.heap.size) h fun x hx => ?_
  rcases List.mem_cons.1 hx with rfl | hx
  · exact ha
  · rw [List.mem_singleton.1 hx]; exact hb
theorem i64_small {x : Int} (h : x = -1 ∨ x = 0 ∨ x = 1) : I64 x := by unfold I64; omega
theorem cmpI_small (x y : Int) : cmpI x y = -1 ∨ cmpI x y = 0 ∨ cmpI x y = 1 := by rcases cmpI_vals x y with h | h | h <;> simp [h.1]
theorem orL_fact (a b : FactD) : orL [cmpI a.rel b.rel, cmpL a.vals b.vals] = cmpFact a b := by
  unfold cmpFact orL orL orL
  by_cases h : cmpI a.rel b.rel = 0
  · simp only [h, if_true]
    split
    · rename_i e; exact e.symm
    · rfl
  · simp [h]
set_option maxRecDepth 100000 in
set_option maxHeartbeats 800000 in
theorem implCompareFacts_any (x y : FactD) (vx vy : Value) (fx fy : List Nat) (w : World) (hx : ints w vx x.vals fx) (hy : ints w vy y.vals fy) :
    Calls Tryz.prog 70 #[.agg #[.int .i64 x.rel, vx], .agg #[.int .i64 y.rel, vy]] w fun e w' => e = .returned (.int .i64 (cmpFact x y)) ∧ Below w.heap.size w w' := by
  obtain ⟨a, cap, rfl⟩ := slR.form hx
  obtain ⟨b, cap', rfl⟩ := slR.form hy
  have Ho := Lib.hid (orL_fact x y)
  have hsz : ((w.alloc (.cells #[.int .i64 x.rel, .slice a x.vals.length cap] 79)).alloc (.cells #[.int .i64 y.rel, .slice b y.vals.length cap'] 79)).heap.size = w.heap.size + 1 + 1 := by simp only [World.alloc, Array.size_push]
  have hl := (ints_lit2 ((w.alloc (.cells #[.int .i64 x.rel, .slice a x.vals.length cap] 79)).alloc (.cells #[.int .i64 y.rel, .slice b y.vals.length cap'] 79)) (cmpI x.rel y.rel) (cmpL x.vals y.vals) (i64_small (cmpI_small _ _)) (i64_small (cmpL_vals _ _))).below' (Below.drew (Below.refl _ _))
  rw [hsz] at hl
  clear hsz
  have hx2 := fun o1 o2 => (hx.al o1).al o2
  have hy2 := fun o1 o2 => (hy.al o1).al o2
  have hq1 : ∀ W, Calls Tryz.prog 147 #[.int .i64 x.rel, .int .i64 y.rel] W fun e w' => e = .returned (.int .i64 (cmpI x.rel y.rel)) ∧ w' = W := fun W => (cmpCompare_any x.rel y.rel W).mono fun _ _ h => ⟨h.1, h.2.symm⟩
  have hq2 : ∀ W, ints W (.slice a x.vals.length cap) x.vals fx → ints W (.slice b y.vals.length cap') y.vals fy → Calls Tryz.prog 148 #[.slice a x.vals.length cap, .slice b y.vals.length cap'] W fun e w' => e = .returned (.int .i64 (cmpL x.vals y.vals)) ∧ w' = W :=
    fun W h1 h2 => (slicesCompare_any _ _ x.vals y.vals fx fy W h1 h2).mono fun _ _ h => ⟨h.1, h.2.symm⟩
  go_enter Tryz.func70, Tryz.ntmps70
  go_wp2
  refine wp_region_still_tail 10 (by kernel_rfl) (by kernel_rfl) ?_
  change wpStill _ _ ((w.alloc (.cells #[.int .i64 x.rel, .slice a x.vals.length cap] 79)).alloc (.cells #[.int .i64 y.rel, .slice b y.vals.length cap'] 79)).drew _ _ _
  simp only [List.take_succ_cons, List.take_zero, List.drop_succ_cons, List.drop_zero]
  iterate 4 still_step
  still_call (hq1 _)
  iterate 4 still_step
  still_call (hq2 _ ((hx2 _ _).frame fun _ _ => rfl) ((hy2 _ _).frame fun _ _ => rfl))
  refine wpStill_nil ?_
  change wpList _ _ _ _ _ ((w.alloc (.cells #[.int .i64 x.rel, .slice a x.vals.length cap] 79)).alloc (.cells #[.int .i64 y.rel, .slice b y.vals.length cap'] 79)).drew
  go_wp2_with fail
  refine (cmpOr_any _ [cmpI x.rel y.rel, cmpL x.vals y.vals] _ _ hl).mono ?_
  rintro e w1 ⟨rfl, rfl⟩
  rw [Ho.out]
  go_wp2
  go_ret
  exact ⟨rfl, bdr (ba (ba (ba (Below.refl _ _))))⟩
set_option maxRecDepth 100000 in
set_option maxHeartbeats 1600000 in
theorem specCompareFacts_any (x y : FactD) (vx vy : Value) (fx fy : List Nat) (w : World) (hx : ints w vx x.vals fx) (hy : ints w vy y.vals fy) :
    Calls Tryz.prog 71 #[.agg #[.int .i64 x.rel, vx], .agg #[.int .i64 y.rel, vy]] w fun e w' => e = .returned (.int .i64 (cmpFact x y)) ∧ Below w.heap.size w w' := by
  obtain ⟨rx, s⟩ := x
  obtain ⟨ry, t⟩ := y
  obtain ⟨a, cap, rfl⟩ := slR.form hx
  obtain ⟨b, cap', rfl⟩ := slR.form hy
  have hla := slR.le_max hx
  have hlb := slR.le_max hy
  rcases cmpI_vals rx ry with ⟨h, h2⟩ | ⟨h, h2⟩ | ⟨h, h2⟩
  · have Hf := Lib.hid (show cmpFact ⟨rx, s⟩ ⟨ry, t⟩ = -1 by unfold cmpFact; simp only [h]; rfl)
    have hne : (rx != ry) = true := by simp; omega
    clear h
    go_enter Tryz.func71, Tryz.ntmps71
    go_wp2
    go_ret
    exact ⟨ret_int (by rw [Hf.out]), ba (ba (Below.refl _ _))⟩
  · have Hf := Lib.hid (show cmpFact ⟨rx, s⟩ ⟨ry, t⟩ = 1 by unfold cmpFact; simp only [h]; rfl)
    have hne : (rx != ry) = true := by simp; omega
    have hno : ¬ rx < ry := by omega
    clear h
    go_enter Tryz.func71, Tryz.ntmps71
    go_wp2
    go_ret
    exact ⟨ret_int (by rw [Hf.out]), ba (ba (Below.refl _ _))⟩
  · have Hf := Lib.hid (show cmpFact ⟨rx, s⟩ ⟨ry, t⟩ = cmpL s t by unfold cmpFact; simp only [h]; rfl)
    subst h2
    have hne : (rx != rx) = false := by simp
    clear h
    go_enter Tryz.func71, Tryz.ntmps71
    go_wp2
    go_loopw [5] (fun i wr => ∃ k n : Nat, i = .int .i64 k ∧ k ≤ s.length ∧ k ≤ t.length ∧ Hid (cmpL s t = cmpL (s.drop k) (t.drop k)) ∧ wr = ((w.alloc (.cells #[.int .i64 rx, .slice a s.length cap] 79)).alloc (.cells #[.int .i64 rx, .slice b t.length cap'] 79)).drewN n) (fun i _ => s.length - (intOf i).toNat)
    case atStart => exact ⟨0, 0, rfl, Nat.zero_le _, Nat.zero_le _, Lib.hid (by simp), rfl⟩
    case round =>
      obtain ⟨k, n, rfl, hk, hk2, HN, rfl⟩ := hrel
      by_cases hlt : k < s.length
      · obtain ⟨g, rfl, hc, _, _, _⟩ := (((hx.al (.cells #[.int .i64 rx, .slice a s.length cap] 79)).al (.cells #[.int .i64 rx, .slice b t.length cap'] 79))).get k hlt
        by_cases hlt2 : k < t.length
        · obtain ⟨g', rfl, hc', _, _, _⟩ := (((hy.al (.cells #[.int .i64 rx, .slice (some ⟨g, 0, none⟩) s.length cap] 79)).al (.cells #[.int .i64 rx, .slice b t.length cap'] 79))).get k hlt2
          rcases cmpI_vals s[k] t[k] with ⟨h, h2⟩ | ⟨h, h2⟩ | ⟨h, h2⟩
          · have Hg := Lib.hid (Hf.out.trans (HN.out.trans (cmpL_lt hlt hlt2 h2)))
            clear h
            go_wp2
            go_quiet (fail)
            go_wp2
            go_ret
            exact ⟨ret_int (by rw [Hg.out]), by repeat (first | exact Below.refl _ _ | refine bdn ?_ | refine ba ?_)⟩
          · have Hg := Lib.hid (Hf.out.trans (HN.out.trans (cmpL_gt hlt hlt2 h2)))
            have hno : ¬ s[k] < t[k] := by omega
            clear h
            go_wp2
            go_quiet (fail)
            go_wp2
            go_quiet (fail)
            go_wp2
            go_ret
            exact ⟨ret_int (by rw [Hg.out]), by repeat (first | exact Below.refl _ _ | refine bdn ?_ | refine ba ?_)⟩
          · have hno : ¬ s[k] < t[k] := by omega
            have hno2 : ¬ t[k] < s[k] := by omega
            have Hg := Lib.hid (HN.out.trans (cmpL_same hlt hlt2 hno hno2))
            clear h h2
            go_wp2
            go_quiet (fail)
            go_wp2
            go_quiet (fail)
            go_wp2
            go_roundw
            case rel => exact ⟨k + 1, _, by go_num, by omega, by omega, Hg, rfl⟩
            case measure => simp [intOf]; omega
        · have Hg := Lib.hid (Hf.out.trans (HN.out.trans (cmpL_end2 (by omega) (by omega))))
          have h3 : ¬ s.length < t.length := by omega
          have h4 : t.length < s.length := by omega
          go_wp2
          go_ret
          exact ⟨ret_int (by rw [Hg.out]), by repeat (first | exact Below.refl _ _ | refine bdn ?_ | refine ba ?_)⟩
      · by_cases hlt2 : s.length < t.length
        · have Hg := Lib.hid (Hf.out.trans (HN.out.trans (cmpL_end1 (by omega) hlt2)))
          go_wp2
          go_ret
          exact ⟨ret_int (by rw [Hg.out]), by repeat (first | exact Below.refl _ _ | refine bdn ?_ | refine ba ?_)⟩
        · have h4 : ¬ t.length < s.length := by omega
          have Hg := Lib.hid (Hf.out.trans (HN.out.trans (cmpL_end3 (by omega) (by omega))))
          go_wp2
          go_ret
          exact ⟨ret_int (by rw [Hg.out]), by repeat (first | exact Below.refl _ _ | refine bdn ?_ | refine ba ?_)⟩
end Go.Proofs.YtpdmdfkcaabnaaaGreatDoor
