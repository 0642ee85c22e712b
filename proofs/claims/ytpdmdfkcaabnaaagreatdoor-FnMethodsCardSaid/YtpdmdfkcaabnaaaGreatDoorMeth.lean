/- IsMethod and AreMethods, of the program and of the reference. No condition. -/
import Derived.Test.YtpdmdfkcaabnaaaGreatDoorIdxS
import Derived.Test.YtpdmdfkcaabnaaaGreatDoorMC
import Derived.Test.YtpdmdfkcaabnaaaGreatDoorCost
namespace Go.Proofs.YtpdmdfkcaabnaaaGreatDoor
open Go.RowKit
set_option linter.unusedVariables false
set_option linter.unusedSimpArgs false
theorem ascBad_zero (l : List Int) : ascBad l 0 = false := rfl
theorem ascBad_succ {l : List Int} {j : Nat} (h : j + 1 < l.length) : ascBad l (j + 1) = decide (l[j + 1] ≤ l[j]) := by
  unfold ascBad
  rw [getD_lt h, show j + 1 - 1 = j from rfl, getD_lt (show j < l.length by omega)]
  simp
set_option maxRecDepth 100000 in
set_option maxHeartbeats 1600000 in
theorem ascending_any (v : Value) (l : List Int) (f : List Nat) (w : World) (h : ints w v l f) :
    Calls Tryz.prog 162 #[v] w fun e w' => e = .returned (.bool (ascB l)) ∧ Qt w w' := by
  obtain ⟨a, cap, rfl⟩ := slR.form h
  have hla := slR.le_max h
  go_enter Tryz.func162, Tryz.ntmps162
  go_wp2
  go_loopw [6] (fun i wr => ∃ k n : Nat, i = .int .i64 k ∧ k ≤ l.length ∧ Hid (∀ j, j < k → ascBad l j = false) ∧ wr = w.drewN n) (fun i _ => l.length - (intOf i).toNat)
  case atStart => exact ⟨0, 0, rfl, Nat.zero_le _, Lib.hid (fun j h0 => by omega), rfl⟩
  case round =>
    obtain ⟨k, n, rfl, hk, HN, rfl⟩ := hrel
    by_cases hlt : k < l.length
    · obtain ⟨g, hga, hc, _, _, _⟩ := h.get k hlt
      have hkl : (k : Int) < (l.length : Int) := by omega
      cases k with
      | zero =>
        have HN2 := Lib.hid (anyN_step HN.out (ascBad_zero l))
        subst hga
        go_wp2
        go_quiet (fail)
        go_wp2
        go_roundw
        case rel => exact ⟨1, _, by go_num, by omega, HN2, rfl⟩
        case measure => simp [intOf]; omega
      | succ j =>
        obtain ⟨g2, hga2, hc2, _, _, _⟩ := h.get j (by omega)
        subst hga
        cases hga2
        have hjl : (j : Int) < (l.length : Int) := by omega
        cases hp : decide (l[j + 1] ≤ l[j]) with
        | true =>
          have Hf := Lib.hid (show ascB l = false by unfold ascB; rw [anyN_true hlt ((ascBad_succ hlt).trans hp)]; rfl)
          go_wp2
          go_quiet (fail)
          go_wp2
          go_ret
          exact ⟨ret_bool (by rw [Hf.out]), by first | exact Qt.dn _ _ | exact (Qt.dn _ _).trans (Qt.dn _ _)⟩
        | false =>
          have HN2 := Lib.hid (anyN_step HN.out ((ascBad_succ hlt).trans hp))
          go_wp2
          go_quiet (fail)
          go_wp2
          go_roundw
          case rel => exact ⟨j + 1 + 1, _, by go_num, by omega, HN2, rfl⟩
          case measure => simp [intOf]; omega
    · have hkl : k = l.length := by omega
      have Hf := Lib.hid (show ascB l = true by unfold ascB; rw [anyN_false (fun j hj => HN.out j (by omega))]; rfl)
      go_wp2
      go_ret
      exact ⟨ret_bool (by rw [Hf.out]), by first | exact Qt.dn _ _ | exact (Qt.dn _ _).trans (Qt.dn _ _)⟩
theorem fits1_any (i a : Int) (g : Nat) (w : World) (c0 : w.cell? ⟨g, 0, none⟩ = some (.int .i64 a)) (ha : 0 ≤ a ∧ a ≤ 1000000) :
    Calls Tryz.prog 163 #[.int .i64 i, .pointer (some ⟨g, 0, none⟩)] w fun e w' => e = .returned (.bool (!inR i 0 (a - 1))) ∧ w = w' := by
  go_enter Tryz.func163, Tryz.ntmps163
  go_wp2_with (go_at_call 107; refine (f107_any _ _ _ _).mono ?_; rintro e w' ⟨rfl, rfl⟩)
  go_ret
  exact ⟨rfl, rfl⟩
set_option maxRecDepth 100000 in
set_option maxHeartbeats 1600000 in
theorem fits_any (m : MethD) (vi : Value) (fi : List Nat) (a : Int) (w : World) (hi : ints w vi m.inputs fi) (ha : 0 ≤ a ∧ a ≤ 1000000) :
    Calls Tryz.prog 92 #[.agg #[.int .i64 m.rel, vi, .int .i64 m.limit, .int .i64 m.cost, .int .i64 m.quota], .int .i64 a] w fun e w' => e = .returned (.bool (fitsB m a)) ∧ Below w.heap.size w w' := by
  obtain ⟨p, cap, rfl⟩ := slR.form hi
  have hP := plain_of Tryz.func163 (by kernel_rfl) (by kernel_rfl)
  have hi' := fun o1 o2 => (hi.al o1).al o2
  have hc2 : ∀ o1, ((w.alloc o1).alloc (.cells #[.int .i64 a] 3)).cell? ⟨w.heap.size + 1, 0, none⟩ = some (.int .i64 a) := fun o1 => cell_at _ _ (by simp) _ _ 0 _ rfl
  have Hd := Lib.hid (show fitsB m a = (ascB m.inputs && !(m.inputs.any fun i => !inR i 0 (a - 1)) && (inR m.limit 0 9 && inR m.cost 0 99 && inR m.quota 1 99)) from rfl)
  cases h1 : ascB m.inputs with
  | false =>
    have Hf := Lib.hid (show fitsB m a = false by rw [Hd.out, h1]; rfl)
    go_enter Tryz.func92, Tryz.ntmps92
    go_wp2_with fail
    refine (ascending_any _ m.inputs fi _ (hi' _ _)).mono ?_
    rintro e w1 ⟨rfl, hq⟩
    obtain ⟨n1, rfl⟩ := hq
    go_wp2
    go_ret
    exact ⟨ret_bool (by rw [Hf.out]), by repeat (first | exact Below.refl _ _ | refine bdn ?_ | refine ba ?_)⟩
  | true =>
    generalize h2 : (m.inputs.any fun i => !inR i 0 (a - 1)) = r at Hd
    have H2 := Lib.hid h2
    clear h2
    cases r with
    | true =>
      have Hf := Lib.hid (show fitsB m a = false by rw [Hd.out, h1]; rfl)
      go_enter Tryz.func92, Tryz.ntmps92
      go_wp2_with fail
      refine (ascending_any _ m.inputs fi _ (hi' _ _)).mono ?_
      rintro e w1 ⟨rfl, hq⟩
      obtain ⟨n1, rfl⟩ := hq
      go_wp2_with fail
      refine (containsFuncIntQ_any _ hP #[.pointer (some ⟨w.heap.size + 1, 0, none⟩)] (fun x => #[.int .i64 x, .pointer (some ⟨w.heap.size + 1, 0, none⟩)]) (fun _ => rfl) (fun i => !inR i 0 (a - 1)) _ m.inputs fi _ ((hi' _ _).dn _) (fun i hi => fits1_any _ a _ _ (hc2 _) ha)).mono ?_
      rw [H2.out]
      rintro e w1 ⟨rfl, rfl⟩
      go_wp2
      go_ret
      exact ⟨ret_bool (by rw [Hf.out]), by repeat (first | exact Below.refl _ _ | refine bdn ?_ | refine ba ?_)⟩
    | false =>
      cases h3 : inR m.limit 0 9 with
      | false =>
        have Hf := Lib.hid (show fitsB m a = false by rw [Hd.out, h1, h3]; rfl)
        go_enter Tryz.func92, Tryz.ntmps92
        go_wp2_with fail
        refine (ascending_any _ m.inputs fi _ (hi' _ _)).mono ?_
        rintro e w1 ⟨rfl, hq⟩
        obtain ⟨n1, rfl⟩ := hq
        go_wp2_with fail
        refine (containsFuncIntQ_any _ hP #[.pointer (some ⟨w.heap.size + 1, 0, none⟩)] (fun x => #[.int .i64 x, .pointer (some ⟨w.heap.size + 1, 0, none⟩)]) (fun _ => rfl) (fun i => !inR i 0 (a - 1)) _ m.inputs fi _ ((hi' _ _).dn _) (fun i hi => fits1_any _ a _ _ (hc2 _) ha)).mono ?_
        rw [H2.out]
        rintro e w1 ⟨rfl, rfl⟩
        go_wp2_with (go_at_call 107; refine (f107_any _ _ _ _).mono ?_; rintro e w' ⟨rfl, rfl⟩)
        go_ret
        exact ⟨ret_bool (by rw [Hf.out]), by repeat (first | exact Below.refl _ _ | refine bdn ?_ | refine ba ?_)⟩
      | true =>
        cases h4 : inR m.cost 0 99 with
        | false =>
          have Hf := Lib.hid (show fitsB m a = false by rw [Hd.out, h1, h3, h4]; rfl)
          go_enter Tryz.func92, Tryz.ntmps92
          go_wp2_with fail
          refine (ascending_any _ m.inputs fi _ (hi' _ _)).mono ?_
          rintro e w1 ⟨rfl, hq⟩
          obtain ⟨n1, rfl⟩ := hq
          go_wp2_with fail
          refine (containsFuncIntQ_any _ hP #[.pointer (some ⟨w.heap.size + 1, 0, none⟩)] (fun x => #[.int .i64 x, .pointer (some ⟨w.heap.size + 1, 0, none⟩)]) (fun _ => rfl) (fun i => !inR i 0 (a - 1)) _ m.inputs fi _ ((hi' _ _).dn _) (fun i hi => fits1_any _ a _ _ (hc2 _) ha)).mono ?_
          rw [H2.out]
          rintro e w1 ⟨rfl, rfl⟩
          go_wp2_with (first
            | (go_at_call 107; refine (f107_any _ _ _ _).mono ?_; rintro e w' ⟨rfl, rfl⟩)
            | (go_at_call 164; refine (isCost_any _ _).mono ?_; rintro e w' ⟨rfl, rfl⟩))
          go_ret
          exact ⟨ret_bool (by rw [Hf.out]), by repeat (first | exact Below.refl _ _ | refine bdn ?_ | refine ba ?_)⟩
        | true =>
          have Hf := Lib.hid (show fitsB m a = inR m.quota 1 99 by rw [Hd.out, h1, h3, h4]; rfl)
          go_enter Tryz.func92, Tryz.ntmps92
          go_wp2_with fail
          refine (ascending_any _ m.inputs fi _ (hi' _ _)).mono ?_
          rintro e w1 ⟨rfl, hq⟩
          obtain ⟨n1, rfl⟩ := hq
          go_wp2_with fail
          refine (containsFuncIntQ_any _ hP #[.pointer (some ⟨w.heap.size + 1, 0, none⟩)] (fun x => #[.int .i64 x, .pointer (some ⟨w.heap.size + 1, 0, none⟩)]) (fun _ => rfl) (fun i => !inR i 0 (a - 1)) _ m.inputs fi _ ((hi' _ _).dn _) (fun i hi => fits1_any _ a _ _ (hc2 _) ha)).mono ?_
          rw [H2.out]
          rintro e w1 ⟨rfl, rfl⟩
          go_wp2_with (first
            | (go_at_call 107; refine (f107_any _ _ _ _).mono ?_; rintro e w' ⟨rfl, rfl⟩)
            | (go_at_call 164; refine (isCost_any _ _).mono ?_; rintro e w' ⟨rfl, rfl⟩))
          go_ret
          exact ⟨ret_bool (by rw [Hf.out]), by repeat (first | exact Below.refl _ _ | refine bdn ?_ | refine ba ?_)⟩
end Go.Proofs.YtpdmdfkcaabnaaaGreatDoor
