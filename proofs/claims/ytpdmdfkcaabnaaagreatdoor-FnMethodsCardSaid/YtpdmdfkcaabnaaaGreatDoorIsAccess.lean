/- IsAccess, of the program and of the reference. No condition. -/
import Derived.Test.YtpdmdfkcaabnaaaGreatDoorIsMeth
import Derived.Test.YtpdmdfkcaabnaaaGreatDoorMB
import Derived.Test.YtpdmdfkcaabnaaaGreatDoorMC
import Derived.IntWalk
namespace Go.Proofs.YtpdmdfkcaabnaaaGreatDoor
open Go.RowKit
set_option linter.unusedVariables false
set_option linter.unusedSimpArgs false
theorem accB_no1 {s : List Int} {l : List MethD} {a : AccD} (h : methsB s l = false) : accB s l a = false := by unfold accB; rw [h]; rfl
theorem accB_no2 {s : List Int} {l : List MethD} {a : AccD} (h : inR a.meth 0 ((l.length : Int) - 1) = false) : accB s l a = false := by unfold accB; rw [h]; simp
theorem accB_at {s : List Int} {l : List MethD} {vals : List Int} {q : Nat} (h : methsB s l = true) (hin : inR (q : Int) 0 ((l.length : Int) - 1) = true) (hq : q < l.length) :
    accB s l ⟨q, vals⟩ = (decide (vals.length = l[q].inputs.length) && !(vals.any fun n => !isVal n)) := by
  unfold accB; rw [h, hin, methAt_nat hq]; rfl
set_option maxRecDepth 100000 in
set_option maxHeartbeats 3200000 in
theorem specIsAccess_any (sv : Value) (s : List Int) (fs : List Nat) (v : Value) (l : List MethD) (f : List Nat) (x : AccD) (vx : Value) (fx : List Nat) (w : World) (hs : ints w sv s fs) (h : meths w v l f) (hx : ints w vx x.vals fx) :
    Calls Tryz.prog 14 #[sv, v, .agg #[.int .i64 x.meth, vx]] w fun e w' => e = .returned (.bool (accB s l x)) ∧ Below w.heap.size w w' := by
  obtain ⟨m, vals⟩ := x
  obtain ⟨a, cap, rfl⟩ := slR.form hs
  obtain ⟨b, cap', rfl⟩ := slR.form h
  obtain ⟨p, cap2, rfl⟩ := slR.form hx
  have hla := slR.le_max h
  have hlb := slR.le_max hx
  have hw1 : IntKind.i64.wrap ((l.length : Int) - 1) = (l.length : Int) - 1 := IntWalk.i64_in _ (by omega)
  have hs' := hs.al (.cells #[.int .i64 m, .slice p vals.length cap2] 28)
  have h' := h.below' (ba (Below.refl _ _) : Below w.heap.size w (w.alloc (.cells #[.int .i64 m, .slice p vals.length cap2] 28)))
  have hx' := hx.al (.cells #[.int .i64 m, .slice p vals.length cap2] 28)
  have c0 : (w.alloc (.cells #[.int .i64 m, .slice p vals.length cap2] 28)).cell? ⟨w.heap.size, 0, none⟩ = some (.int .i64 m) := cell_new w _ _ 0 _ rfl
  have c1 : (w.alloc (.cells #[.int .i64 m, .slice p vals.length cap2] 28)).cell? ⟨w.heap.size, 1, none⟩ = some (.slice p vals.length cap2) := cell_new w _ _ 1 _ rfl
  cases hm : methsB s l with
  | false =>
    have Hf := Lib.hid (accB_no1 (a := ⟨m, vals⟩) hm)
    go_enter Tryz.func14, Tryz.ntmps14
    go_wp2_with fail
    have L0 : ∀ x : Lat (w.alloc (.cells #[.int .i64 m, .slice p vals.length cap2] 28)), x.wd.cell? ⟨w.heap.size, 0, none⟩ = some (.int .i64 m) := fun x => x.cell c0
    have L1 : ∀ x : Lat (w.alloc (.cells #[.int .i64 m, .slice p vals.length cap2] 28)), x.wd.cell? ⟨w.heap.size, 1, none⟩ = some (.slice p vals.length cap2) := fun x => x.cell c1
    have Ls : ∀ x : Lat (w.alloc (.cells #[.int .i64 m, .slice p vals.length cap2] 28)), ints x.wd (.slice a s.length cap) s fs := fun x => hs'.below' x.ok
    have Lh := fun x : Lat (w.alloc (.cells #[.int .i64 m, .slice p vals.length cap2] 28)) => h'.below' x.ok
    have Lx : ∀ x : Lat (w.alloc (.cells #[.int .i64 m, .slice p vals.length cap2] 28)), ints x.wd (.slice p vals.length cap2) vals fx := fun x => hx'.below' x.ok
    refine wp_region_lat (w.alloc (.cells #[.int .i64 m, .slice p vals.length cap2] 28)) (by kernel_rfl) (by kernel_rfl) ?_
    repeat (go_big_quiet_step ((first | (go_at_call 29; exact Lat.of (retBB (specAreMethods_any _ s fs _ l f _ (Ls _) (Lh _)) hm)))))
    refine wpQuiet_nil ?_
    intro _ hw'
    obtain ⟨x1, hw''⟩ := hw'
    subst hw''
    go_wp2
    go_ret
    exact ⟨ret_bool (by rw [Hf.out]), (bt (ba (Below.refl _ _)) x1.ok)⟩
  | true =>
    cases hin : inR m 0 ((l.length : Int) - 1) with
    | false =>
      have Hf := Lib.hid (accB_no2 (s := s) (a := ⟨m, vals⟩) hin)
      go_enter Tryz.func14, Tryz.ntmps14
      go_wp2_with fail
      have L0 : ∀ x : Lat (w.alloc (.cells #[.int .i64 m, .slice p vals.length cap2] 28)), x.wd.cell? ⟨w.heap.size, 0, none⟩ = some (.int .i64 m) := fun x => x.cell c0
      have L1 : ∀ x : Lat (w.alloc (.cells #[.int .i64 m, .slice p vals.length cap2] 28)), x.wd.cell? ⟨w.heap.size, 1, none⟩ = some (.slice p vals.length cap2) := fun x => x.cell c1
      have Ls : ∀ x : Lat (w.alloc (.cells #[.int .i64 m, .slice p vals.length cap2] 28)), ints x.wd (.slice a s.length cap) s fs := fun x => hs'.below' x.ok
      have Lh := fun x : Lat (w.alloc (.cells #[.int .i64 m, .slice p vals.length cap2] 28)) => h'.below' x.ok
      have Lx : ∀ x : Lat (w.alloc (.cells #[.int .i64 m, .slice p vals.length cap2] 28)), ints x.wd (.slice p vals.length cap2) vals fx := fun x => hx'.below' x.ok
      refine wp_region_lat (w.alloc (.cells #[.int .i64 m, .slice p vals.length cap2] 28)) (by kernel_rfl) (by kernel_rfl) ?_
      repeat (go_big_quiet_step ((first | (go_at_call 29; exact Lat.of (retBB (specAreMethods_any _ s fs _ l f _ (Ls _) (Lh _)) hm)) | (go_at_call 86; exact Lat.eq (retB (f86_any _ _ _ _) hin)))))
      refine wpQuiet_nil ?_
      intro _ hw'
      obtain ⟨x1, hw''⟩ := hw'
      subst hw''
      go_wp2
      go_ret
      exact ⟨ret_bool (by rw [Hf.out]), (bt (ba (Below.refl _ _)) x1.ok)⟩
    | true =>
      obtain ⟨q, rfl, hql⟩ := in_nat hin
      have hk0 : (0 : Int) ≤ (q : Int) := Int.natCast_nonneg _
      have hk1 : (q : Int) < (l.length : Int) := by omega
      have H0 := Lib.hid (accB_at (vals := vals) hm hin hql)
      obtain ⟨g, vi, fi, rfl, _, hc1, _, _, _, hvi⟩ := h'.get q hql
      obtain ⟨ai, ci, rfl⟩ := slR.form hvi
      by_cases hlen : vals.length = l[q].inputs.length
      · have Hf := Lib.hid (H0.out.trans (show _ = !(vals.any fun n => !isVal n) by rw [decide_eq_true hlen]; rfl))
        have hd : ((vals.length : Int) == (l[q].inputs.length : Int)) = true := by simp [hlen]
        have hd2 : ((vals.length : Int) != (l[q].inputs.length : Int)) = false := by simp [hlen]
        have hd3 : (vals.length : Int) = (l[q].inputs.length : Int) := by omega
        have Hl := Lib.hid hlen
        clear hlen
        go_enter Tryz.func14, Tryz.ntmps14
        go_wp2_with fail
        have L0 : ∀ x : Lat (w.alloc (.cells #[.int .i64 (q : Int), .slice p vals.length cap2] 28)), x.wd.cell? ⟨w.heap.size, 0, none⟩ = some (.int .i64 (q : Int)) := fun x => x.cell c0
        have L1 : ∀ x : Lat (w.alloc (.cells #[.int .i64 (q : Int), .slice p vals.length cap2] 28)), x.wd.cell? ⟨w.heap.size, 1, none⟩ = some (.slice p vals.length cap2) := fun x => x.cell c1
        have L2 : ∀ x : Lat (w.alloc (.cells #[.int .i64 (q : Int), .slice p vals.length cap2] 28)), x.wd.cell? ⟨g, q * 5 + 1, none⟩ = some (.slice ai l[q].inputs.length ci) := fun x => x.cell hc1
        have Ls : ∀ x : Lat (w.alloc (.cells #[.int .i64 (q : Int), .slice p vals.length cap2] 28)), ints x.wd (.slice a s.length cap) s fs := fun x => hs'.below' x.ok
        have Lh := fun x : Lat (w.alloc (.cells #[.int .i64 (q : Int), .slice p vals.length cap2] 28)) => h'.below' x.ok
        have Lx : ∀ x : Lat (w.alloc (.cells #[.int .i64 (q : Int), .slice p vals.length cap2] 28)), ints x.wd (.slice p vals.length cap2) vals fx := fun x => hx'.below' x.ok
        refine wp_region_lat (w.alloc (.cells #[.int .i64 (q : Int), .slice p vals.length cap2] 28)) (by kernel_rfl) (by kernel_rfl) ?_
        repeat (go_big_quiet_step ((first | (go_at_call 29; exact Lat.of (retBB (specAreMethods_any _ s fs _ l f _ (Ls _) (Lh _)) hm)) | (go_at_call 86; exact Lat.eq (retB (f86_any _ _ _ _) hin)))))
        refine wpQuiet_nil ?_
        intro _ hw'
        obtain ⟨x1, hw''⟩ := hw'
        subst hw''
        have hx2 := Lx x1
        have hbw := (bt (ba (Below.refl _ _)) x1.ok)
        go_wp2
        go_loop [7] (fun i => ∃ k : Nat, i = .int .i64 k ∧ k ≤ vals.length ∧ Hid (∀ j (hj : j < vals.length), j < k → (!isVal vals[j]) = false)) (fun i => vals.length - (intOf i).toNat)
        case atStart => exact ⟨0, rfl, Nat.zero_le _, Lib.hid (fun j hj h0 => by omega)⟩
        case round =>
          obtain ⟨j, rfl, hj, HN⟩ := hrel
          by_cases hlt : j < vals.length
          · obtain ⟨g2, rfl, hc2, _, _, _⟩ := hx2.get j hlt
            cases hp : isVal vals[j] with
            | false =>
              have hq : inR vals[j] 0 9 = false := hp
              have Hf2 := Lib.hid (Hf.out.trans (show (!(vals.any fun n => !isVal n)) = false by rw [any_true_of (p := fun n => !isVal n) hlt (by simp [hp])]; rfl))
              go_wp2_with (go_at_call 86; refine (f86_any _ _ _ _).mono ?_; rintro e w' ⟨rfl, rfl⟩)
              go_ret
              exact ⟨ret_bool (by rw [Hf2.out]), hbw⟩
            | true =>
              have hq : inR vals[j] 0 9 = true := hp
              have HN2 := Lib.hid (none_step (p := fun n => !isVal n) HN.out hlt (by simp [hp]))
              go_wp2_with (go_at_call 86; refine (f86_any _ _ _ _).mono ?_; rintro e w' ⟨rfl, rfl⟩)
              go_round
              case rel => exact ⟨j + 1, by go_num, by omega, HN2⟩
              case measure => simp [intOf]; omega
          · have hjl : j = vals.length := by omega
            have Hf2 := Lib.hid (Hf.out.trans (show (!(vals.any fun n => !isVal n)) = true by rw [any_false_of (p := fun n => !isVal n) (fun i hi => HN.out i hi (by omega))]; rfl))
            go_wp2
            go_ret
            exact ⟨ret_bool (by rw [Hf2.out]), hbw⟩
      · have Hf := Lib.hid (H0.out.trans (show _ = false by rw [decide_eq_false hlen]; rfl))
        have hd : ((vals.length : Int) == (l[q].inputs.length : Int)) = false := by simp; omega
        have hd2 : ((vals.length : Int) != (l[q].inputs.length : Int)) = true := by simp; omega
        have hd3 : ¬ (vals.length : Int) = (l[q].inputs.length : Int) := by omega
        have Hl := Lib.hid hlen
        clear hlen
        go_enter Tryz.func14, Tryz.ntmps14
        go_wp2_with fail
        have L0 : ∀ x : Lat (w.alloc (.cells #[.int .i64 (q : Int), .slice p vals.length cap2] 28)), x.wd.cell? ⟨w.heap.size, 0, none⟩ = some (.int .i64 (q : Int)) := fun x => x.cell c0
        have L1 : ∀ x : Lat (w.alloc (.cells #[.int .i64 (q : Int), .slice p vals.length cap2] 28)), x.wd.cell? ⟨w.heap.size, 1, none⟩ = some (.slice p vals.length cap2) := fun x => x.cell c1
        have L2 : ∀ x : Lat (w.alloc (.cells #[.int .i64 (q : Int), .slice p vals.length cap2] 28)), x.wd.cell? ⟨g, q * 5 + 1, none⟩ = some (.slice ai l[q].inputs.length ci) := fun x => x.cell hc1
        have Ls : ∀ x : Lat (w.alloc (.cells #[.int .i64 (q : Int), .slice p vals.length cap2] 28)), ints x.wd (.slice a s.length cap) s fs := fun x => hs'.below' x.ok
        have Lh := fun x : Lat (w.alloc (.cells #[.int .i64 (q : Int), .slice p vals.length cap2] 28)) => h'.below' x.ok
        have Lx : ∀ x : Lat (w.alloc (.cells #[.int .i64 (q : Int), .slice p vals.length cap2] 28)), ints x.wd (.slice p vals.length cap2) vals fx := fun x => hx'.below' x.ok
        refine wp_region_lat (w.alloc (.cells #[.int .i64 (q : Int), .slice p vals.length cap2] 28)) (by kernel_rfl) (by kernel_rfl) ?_
        repeat (go_big_quiet_step ((first | (go_at_call 29; exact Lat.of (retBB (specAreMethods_any _ s fs _ l f _ (Ls _) (Lh _)) hm)) | (go_at_call 86; exact Lat.eq (retB (f86_any _ _ _ _) hin)))))
        refine wpQuiet_nil ?_
        intro _ hw'
        obtain ⟨x1, hw''⟩ := hw'
        subst hw''
        go_wp2
        go_ret
        exact ⟨ret_bool (by rw [Hf.out]), (bt (ba (Below.refl _ _)) x1.ok)⟩
set_option maxRecDepth 100000 in
set_option maxHeartbeats 3200000 in
theorem implIsAccess_any (sv : Value) (s : List Int) (fs : List Nat) (v : Value) (l : List MethD) (f : List Nat) (x : AccD) (vx : Value) (fx : List Nat) (w : World) (hs : ints w sv s fs) (h : meths w v l f) (hx : ints w vx x.vals fx) :
    Calls Tryz.prog 34 #[sv, v, .agg #[.int .i64 x.meth, vx]] w fun e w' => e = .returned (.bool (accB s l x)) ∧ Below w.heap.size w w' := by
  obtain ⟨m, vals⟩ := x
  obtain ⟨a, cap, rfl⟩ := slR.form hs
  obtain ⟨b, cap', rfl⟩ := slR.form h
  obtain ⟨p, cap2, rfl⟩ := slR.form hx
  have hla := slR.le_max h
  have hlb := slR.le_max hx
  have hw1 : IntKind.i64.wrap ((l.length : Int) - 1) = (l.length : Int) - 1 := IntWalk.i64_in _ (by omega)
  have hs' := hs.al (.cells #[.int .i64 m, .slice p vals.length cap2] 28)
  have h' := h.below' (ba (Below.refl _ _) : Below w.heap.size w (w.alloc (.cells #[.int .i64 m, .slice p vals.length cap2] 28)))
  have hx' := hx.al (.cells #[.int .i64 m, .slice p vals.length cap2] 28)
  have c0 : (w.alloc (.cells #[.int .i64 m, .slice p vals.length cap2] 28)).cell? ⟨w.heap.size, 0, none⟩ = some (.int .i64 m) := cell_new w _ _ 0 _ rfl
  have c1 : (w.alloc (.cells #[.int .i64 m, .slice p vals.length cap2] 28)).cell? ⟨w.heap.size, 1, none⟩ = some (.slice p vals.length cap2) := cell_new w _ _ 1 _ rfl
  cases hm : methsB s l with
  | false =>
    have Hf := Lib.hid (accB_no1 (a := ⟨m, vals⟩) hm)
    go_enter Tryz.func34, Tryz.ntmps34
    go_wp2_with fail
    have L0 : ∀ x : Lat (w.alloc (.cells #[.int .i64 m, .slice p vals.length cap2] 28)), x.wd.cell? ⟨w.heap.size, 0, none⟩ = some (.int .i64 m) := fun x => x.cell c0
    have L1 : ∀ x : Lat (w.alloc (.cells #[.int .i64 m, .slice p vals.length cap2] 28)), x.wd.cell? ⟨w.heap.size, 1, none⟩ = some (.slice p vals.length cap2) := fun x => x.cell c1
    have Ls : ∀ x : Lat (w.alloc (.cells #[.int .i64 m, .slice p vals.length cap2] 28)), ints x.wd (.slice a s.length cap) s fs := fun x => hs'.below' x.ok
    have Lh := fun x : Lat (w.alloc (.cells #[.int .i64 m, .slice p vals.length cap2] 28)) => h'.below' x.ok
    have Lx : ∀ x : Lat (w.alloc (.cells #[.int .i64 m, .slice p vals.length cap2] 28)), ints x.wd (.slice p vals.length cap2) vals fx := fun x => hx'.below' x.ok
    refine wp_region_lat (w.alloc (.cells #[.int .i64 m, .slice p vals.length cap2] 28)) (by kernel_rfl) (by kernel_rfl) ?_
    repeat (go_big_quiet_step ((first | (go_at_call 28; exact Lat.of (retBB (implAreMethods_any _ s fs _ l f _ (Ls _) (Lh _)) hm)))))
    refine wpQuiet_nil ?_
    intro _ hw'
    obtain ⟨x1, hw''⟩ := hw'
    subst hw''
    go_wp2
    go_ret
    exact ⟨ret_bool (by rw [Hf.out]), (bt (ba (Below.refl _ _)) x1.ok)⟩
  | true =>
    cases hin : inR m 0 ((l.length : Int) - 1) with
    | false =>
      have Hf := Lib.hid (accB_no2 (s := s) (a := ⟨m, vals⟩) hin)
      go_enter Tryz.func34, Tryz.ntmps34
      go_wp2_with fail
      have L0 : ∀ x : Lat (w.alloc (.cells #[.int .i64 m, .slice p vals.length cap2] 28)), x.wd.cell? ⟨w.heap.size, 0, none⟩ = some (.int .i64 m) := fun x => x.cell c0
      have L1 : ∀ x : Lat (w.alloc (.cells #[.int .i64 m, .slice p vals.length cap2] 28)), x.wd.cell? ⟨w.heap.size, 1, none⟩ = some (.slice p vals.length cap2) := fun x => x.cell c1
      have Ls : ∀ x : Lat (w.alloc (.cells #[.int .i64 m, .slice p vals.length cap2] 28)), ints x.wd (.slice a s.length cap) s fs := fun x => hs'.below' x.ok
      have Lh := fun x : Lat (w.alloc (.cells #[.int .i64 m, .slice p vals.length cap2] 28)) => h'.below' x.ok
      have Lx : ∀ x : Lat (w.alloc (.cells #[.int .i64 m, .slice p vals.length cap2] 28)), ints x.wd (.slice p vals.length cap2) vals fx := fun x => hx'.below' x.ok
      refine wp_region_lat (w.alloc (.cells #[.int .i64 m, .slice p vals.length cap2] 28)) (by kernel_rfl) (by kernel_rfl) ?_
      repeat (go_big_quiet_step ((first | (go_at_call 28; exact Lat.of (retBB (implAreMethods_any _ s fs _ l f _ (Ls _) (Lh _)) hm)) | (go_at_call 107; exact Lat.eq (retB (f107_any _ _ _ _) hin)))))
      refine wpQuiet_nil ?_
      intro _ hw'
      obtain ⟨x1, hw''⟩ := hw'
      subst hw''
      go_wp2
      go_ret
      exact ⟨ret_bool (by rw [Hf.out]), (bt (ba (Below.refl _ _)) x1.ok)⟩
    | true =>
      obtain ⟨q, rfl, hql⟩ := in_nat hin
      have hk0 : (0 : Int) ≤ (q : Int) := Int.natCast_nonneg _
      have hk1 : (q : Int) < (l.length : Int) := by omega
      have H0 := Lib.hid (accB_at (vals := vals) hm hin hql)
      obtain ⟨g, vi, fi, rfl, _, hc1, _, _, _, hvi⟩ := h'.get q hql
      obtain ⟨ai, ci, rfl⟩ := slR.form hvi
      by_cases hlen : vals.length = l[q].inputs.length
      · have Hf := Lib.hid (H0.out.trans (show _ = !(vals.any fun n => !isVal n) by rw [decide_eq_true hlen]; rfl))
        have hd : ((vals.length : Int) == (l[q].inputs.length : Int)) = true := by simp [hlen]
        have hd2 : ((vals.length : Int) != (l[q].inputs.length : Int)) = false := by simp [hlen]
        have hd3 : (vals.length : Int) = (l[q].inputs.length : Int) := by omega
        have Hl := Lib.hid hlen
        clear hlen
        go_enter Tryz.func34, Tryz.ntmps34
        go_wp2_with fail
        have L0 : ∀ x : Lat (w.alloc (.cells #[.int .i64 (q : Int), .slice p vals.length cap2] 28)), x.wd.cell? ⟨w.heap.size, 0, none⟩ = some (.int .i64 (q : Int)) := fun x => x.cell c0
        have L1 : ∀ x : Lat (w.alloc (.cells #[.int .i64 (q : Int), .slice p vals.length cap2] 28)), x.wd.cell? ⟨w.heap.size, 1, none⟩ = some (.slice p vals.length cap2) := fun x => x.cell c1
        have L2 : ∀ x : Lat (w.alloc (.cells #[.int .i64 (q : Int), .slice p vals.length cap2] 28)), x.wd.cell? ⟨g, q * 5 + 1, none⟩ = some (.slice ai l[q].inputs.length ci) := fun x => x.cell hc1
        have Ls : ∀ x : Lat (w.alloc (.cells #[.int .i64 (q : Int), .slice p vals.length cap2] 28)), ints x.wd (.slice a s.length cap) s fs := fun x => hs'.below' x.ok
        have Lh := fun x : Lat (w.alloc (.cells #[.int .i64 (q : Int), .slice p vals.length cap2] 28)) => h'.below' x.ok
        have Lx : ∀ x : Lat (w.alloc (.cells #[.int .i64 (q : Int), .slice p vals.length cap2] 28)), ints x.wd (.slice p vals.length cap2) vals fx := fun x => hx'.below' x.ok
        refine wp_region_lat (w.alloc (.cells #[.int .i64 (q : Int), .slice p vals.length cap2] 28)) (by kernel_rfl) (by kernel_rfl) ?_
        repeat (go_big_quiet_step ((first | (go_at_call 28; exact Lat.of (retBB (implAreMethods_any _ s fs _ l f _ (Ls _) (Lh _)) hm)) | (go_at_call 107; exact Lat.eq (retB (f107_any _ _ _ _) hin)) | (go_at_call 108; exact Lat.eq (areValues_any _ vals fx _ (Lx _))))))
        refine wpQuiet_nil ?_
        intro _ hw'
        obtain ⟨x1, hw''⟩ := hw'
        subst hw''
        go_wp2
        go_ret
        exact ⟨ret_bool (by rw [Hf.out]), (bt (ba (Below.refl _ _)) x1.ok)⟩
      · have Hf := Lib.hid (H0.out.trans (show _ = false by rw [decide_eq_false hlen]; rfl))
        have hd : ((vals.length : Int) == (l[q].inputs.length : Int)) = false := by simp; omega
        have hd2 : ((vals.length : Int) != (l[q].inputs.length : Int)) = true := by simp; omega
        have hd3 : ¬ (vals.length : Int) = (l[q].inputs.length : Int) := by omega
        have Hl := Lib.hid hlen
        clear hlen
        go_enter Tryz.func34, Tryz.ntmps34
        go_wp2_with fail
        have L0 : ∀ x : Lat (w.alloc (.cells #[.int .i64 (q : Int), .slice p vals.length cap2] 28)), x.wd.cell? ⟨w.heap.size, 0, none⟩ = some (.int .i64 (q : Int)) := fun x => x.cell c0
        have L1 : ∀ x : Lat (w.alloc (.cells #[.int .i64 (q : Int), .slice p vals.length cap2] 28)), x.wd.cell? ⟨w.heap.size, 1, none⟩ = some (.slice p vals.length cap2) := fun x => x.cell c1
        have L2 : ∀ x : Lat (w.alloc (.cells #[.int .i64 (q : Int), .slice p vals.length cap2] 28)), x.wd.cell? ⟨g, q * 5 + 1, none⟩ = some (.slice ai l[q].inputs.length ci) := fun x => x.cell hc1
        have Ls : ∀ x : Lat (w.alloc (.cells #[.int .i64 (q : Int), .slice p vals.length cap2] 28)), ints x.wd (.slice a s.length cap) s fs := fun x => hs'.below' x.ok
        have Lh := fun x : Lat (w.alloc (.cells #[.int .i64 (q : Int), .slice p vals.length cap2] 28)) => h'.below' x.ok
        have Lx : ∀ x : Lat (w.alloc (.cells #[.int .i64 (q : Int), .slice p vals.length cap2] 28)), ints x.wd (.slice p vals.length cap2) vals fx := fun x => hx'.below' x.ok
        refine wp_region_lat (w.alloc (.cells #[.int .i64 (q : Int), .slice p vals.length cap2] 28)) (by kernel_rfl) (by kernel_rfl) ?_
        repeat (go_big_quiet_step ((first | (go_at_call 28; exact Lat.of (retBB (implAreMethods_any _ s fs _ l f _ (Ls _) (Lh _)) hm)) | (go_at_call 107; exact Lat.eq (retB (f107_any _ _ _ _) hin)))))
        refine wpQuiet_nil ?_
        intro _ hw'
        obtain ⟨x1, hw''⟩ := hw'
        subst hw''
        go_wp2
        go_ret
        exact ⟨ret_bool (by rw [Hf.out]), (bt (ba (Below.refl _ _)) x1.ok)⟩
end Go.Proofs.YtpdmdfkcaabnaaaGreatDoor
