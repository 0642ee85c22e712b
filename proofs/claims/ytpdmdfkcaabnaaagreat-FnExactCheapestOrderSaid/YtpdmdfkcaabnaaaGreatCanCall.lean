/- CanCall, of the program and of the reference. No condition. -/
import Derived.Test.YtpdmdfkcaabnaaaGreatIdxS
import Derived.Test.YtpdmdfkcaabnaaaGreatCompare
import Derived.Test.YtpdmdfkcaabnaaaGreatCost
import Derived.Test.YtpdmdfkcaabnaaaGreatIsFact
import Derived.IntWalk
namespace Go.Proofs.YtpdmdfkcaabnaaaGreat
open Go.RowKit
set_option linter.unusedVariables false
set_option linter.unusedSimpArgs false
theorem qEq2 {P : Program} {f : FuncId} {args : Array Value} {w : World} {n x : Nat} {v : Value} (h : Calls P f args (w.drewN (n + x)) fun e w' => e = .returned v ∧ w.drewN (n + x) = w') :
    Calls P f args (w.drewN (n + x)) fun e w'' => e = .returned v ∧ ∃ m, w'' = w.drewN (n + m) := h.mono fun _ _ ⟨he, hm⟩ => ⟨he, x, hm.symm⟩
section
variable {a : AtomD} {bound : List Int} {i : Int} {q : Nat}
theorem inBad_out (h : inR i 0 ((a.terms.length : Int) - 1) = false) : inBad a bound i = true := by unfold inBad; rw [h]; rfl
theorem inBad_at (h : inR (q : Int) 0 ((a.terms.length : Int) - 1) = true) (hq : q < a.terms.length) : inBad a bound (q : Int) = (isVarB a.terms[q] && !memB bound a.terms[q]) := by
  unfold inBad; rw [h, Int.toNat_natCast, getD_lt hq]; rfl
end
set_option maxRecDepth 100000 in
set_option maxHeartbeats 1600000 in
theorem canCall1_any (i : Int) (a : AtomD) (bound : List Int) (vt vb : Value) (ft fb : List Nat) (ga gb : Nat) (w : World) (ht : ints w vt a.terms ft) (hb : ints w vb bound fb)
    (c0 : w.cell? ⟨ga, 1, none⟩ = some vt) (c1 : w.cell? ⟨gb, 0, none⟩ = some vb) :
    Calls Tryz.prog 64 #[.int .i64 i, .pointer (some ⟨ga, 0, none⟩), .pointer (some ⟨gb, 0, none⟩)] w fun e w' => e = .returned (.bool (inBad a bound i)) ∧ Qt w w' := by
  obtain ⟨p, cap, rfl⟩ := slR.form ht
  obtain ⟨p', cap', rfl⟩ := slR.form hb
  have hla := slR.le_max ht
  have hlb := slR.le_max hb
  have hw1 : IntKind.i64.wrap ((a.terms.length : Int) - 1) = (a.terms.length : Int) - 1 := IntWalk.i64_in _ (by omega)
  cases hin : inR i 0 ((a.terms.length : Int) - 1) with
  | false =>
    have Hf := Lib.hid (inBad_out (bound := bound) hin)
    go_enter Tryz.func64, Tryz.ntmps64
    go_wp2
    go_quiet ((go_at_call 58; exact qEq (retB (f58_any _ _ _ _) hin)))
    go_wp2
    go_ret
    exact ⟨ret_bool (by rw [Hf.out]), Qt.dn _ _⟩
  | true =>
    obtain ⟨q, rfl, hq⟩ := in_nat hin
    have hk0 : (0 : Int) ≤ (q : Int) := Int.natCast_nonneg _
    have hk1 : (q : Int) < (a.terms.length : Int) := by omega
    obtain ⟨g, hga, hc, _, _, _⟩ := ht.get q hq
    subst hga
    cases hv : isVarB a.terms[q] with
    | false =>
      have Hf := Lib.hid (show inBad a bound (q : Int) = false by rw [inBad_at hin hq, hv]; rfl)
      go_enter Tryz.func64, Tryz.ntmps64
      go_wp2
      go_quiet ((first
        | (go_at_call 58; exact qEq (retB (f58_any _ _ _ _) hin))
        | (go_at_call 65; exact qEq (retB (f65_any _ _) hv))))
      go_wp2
      go_ret
      exact ⟨ret_bool (by rw [Hf.out]), Qt.dn _ _⟩
    | true =>
      have Hf := Lib.hid (show inBad a bound (q : Int) = !memB bound a.terms[q] by rw [inBad_at hin hq, hv]; rfl)
      have hb' := fun n => hb.dn n
      generalize hcb : memB bound a.terms[q] = r at Hf
      have Hcb := Lib.hid hcb
      have hcq := fun n => (containsIntQ_any (.slice p' bound.length cap') a.terms[q] bound fb _ (hb' n)).mono fun _ _ h => (⟨h.1.trans (by rw [Hcb.out]), h.2⟩ : _ = Ending.returned (.bool r) ∧ _)
      clear hcb
      go_enter Tryz.func64, Tryz.ntmps64
      go_wp2
      go_quiet ((first
        | (go_at_call 58; exact qEq (retB (f58_any _ _ _ _) hin))
        | (go_at_call 65; exact qEq (retB (f65_any _ _) hv))
        | (go_at_call 66; exact qEq (hcq _))))
      go_wp2
      go_ret
      exact ⟨ret_bool (by rw [Hf.out]), Qt.dn _ _⟩
set_option maxRecDepth 100000 in
set_option maxHeartbeats 1600000 in
theorem implCanCall_any (m : MethD) (a : AtomD) (vi vt : Value) (fi ft : List Nat) (vb : Value) (bound : List Int) (fb : List Nat) (w : World) (hi : ints w vi m.inputs fi) (ht : ints w vt a.terms ft) (hb : ints w vb bound fb) :
    Calls Tryz.prog 44 #[.agg #[.int .i64 m.rel, vi, .int .i64 m.limit, .int .i64 m.cost, .int .i64 m.quota], .agg #[.int .i64 a.rel, vt], vb] w fun e w' => e = .returned (.bool (canCallB m a bound)) ∧ Below w.heap.size w w' := by
  obtain ⟨p, cap, rfl⟩ := slR.form hi
  obtain ⟨p2, cap2, rfl⟩ := slR.form ht
  obtain ⟨p3, cap3, rfl⟩ := slR.form hb
  have hP := plain_of Tryz.func64 (by kernel_rfl) (by kernel_rfl)
  have hi' := fun o1 o2 o3 => ((hi.al o1).al o2).al o3
  have ht' := fun o1 o2 o3 => ((ht.al o1).al o2).al o3
  have hb' := fun o1 o2 o3 => ((hb.al o1).al o2).al o3
  have hc1 : ∀ o1 o3, (((w.alloc o1).alloc (.cells #[.int .i64 a.rel, .slice p2 a.terms.length cap2] 75)).alloc o3).cell? ⟨w.heap.size + 1, 1, none⟩ = some (.slice p2 a.terms.length cap2) := fun o1 o3 => cell_al (cell_at _ _ (by simp) _ _ 1 _ rfl) o3
  have hc2 : ∀ o1 o2, (((w.alloc o1).alloc o2).alloc (.cells #[.slice p3 bound.length cap3] 22)).cell? ⟨w.heap.size + 2, 0, none⟩ = some (.slice p3 bound.length cap3) := fun o1 o2 => cell_at _ _ (by simp) _ _ 0 _ rfl
  by_cases hr : m.rel = a.rel
  · have Hf := Lib.hid (show canCallB m a bound = !(m.inputs.any (inBad a bound)) by unfold canCallB; rw [decide_eq_true hr]; rfl)
    have hd : (m.rel == a.rel) = true := by simp [hr]
    clear hr
    go_enter Tryz.func44, Tryz.ntmps44
    go_wp2_with fail
    refine (containsFuncInt_any _ hP #[.pointer (some ⟨w.heap.size + 1, 0, none⟩), .pointer (some ⟨w.heap.size + 2, 0, none⟩)] (fun x => #[.int .i64 x, .pointer (some ⟨w.heap.size + 1, 0, none⟩), .pointer (some ⟨w.heap.size + 2, 0, none⟩)]) (fun _ => rfl) (inBad a bound) _ m.inputs fi _ (hi' _ _ _)
      (fun i hi w' hbw => (canCall1_any _ a bound _ _ ft fb _ _ _ ((ht' _ _ _).below' hbw) ((hb' _ _ _).below' hbw) (cell_below (hc1 _ _) hbw) (cell_below (hc2 _ _) hbw)).mono fun _ _ h => ⟨h.1, h.2.below⟩)).mono ?_
    rintro e w1 ⟨rfl, hb1⟩
    go_wp2
    go_ret
    exact ⟨ret_bool (by rw [Hf.out]), bt (ba (ba (ba (Below.refl _ _)))) hb1⟩
  · have Hf := Lib.hid (show canCallB m a bound = false by unfold canCallB; rw [decide_eq_false hr]; rfl)
    have hd : (m.rel == a.rel) = false := by simp [hr]
    clear hr
    go_enter Tryz.func44, Tryz.ntmps44
    go_wp2
    go_ret
    exact ⟨ret_bool (by rw [Hf.out]), ba (ba (ba (Below.refl _ _)))⟩
set_option maxRecDepth 100000 in
set_option maxHeartbeats 1600000 in
theorem specCanCall_any (m : MethD) (a : AtomD) (vi vt : Value) (fi ft : List Nat) (vb : Value) (bound : List Int) (fb : List Nat) (w : World) (hi : ints w vi m.inputs fi) (ht : ints w vt a.terms ft) (hb : ints w vb bound fb) :
    Calls Tryz.prog 37 #[.agg #[.int .i64 m.rel, vi, .int .i64 m.limit, .int .i64 m.cost, .int .i64 m.quota], .agg #[.int .i64 a.rel, vt], vb] w fun e w' => e = .returned (.bool (canCallB m a bound)) ∧ Below w.heap.size w w' := by
  obtain ⟨p, cap, rfl⟩ := slR.form hi
  obtain ⟨p2, cap2, rfl⟩ := slR.form ht
  obtain ⟨p3, cap3, rfl⟩ := slR.form hb
  have hla := slR.le_max hi
  have hlb := slR.le_max ht
  have hw1 : IntKind.i64.wrap ((a.terms.length : Int) - 1) = (a.terms.length : Int) - 1 := IntWalk.i64_in _ (by omega)
  have hi' := fun n => ((hi.al (.cells #[.int .i64 m.rel, .slice p m.inputs.length cap, .int .i64 m.limit, .int .i64 m.cost, .int .i64 m.quota] 55)).al (.cells #[.int .i64 a.rel, .slice p2 a.terms.length cap2] 75)).dn n
  have hi0 := ((hi.al (.cells #[.int .i64 m.rel, .slice p m.inputs.length cap, .int .i64 m.limit, .int .i64 m.cost, .int .i64 m.quota] 55)).al (.cells #[.int .i64 a.rel, .slice p2 a.terms.length cap2] 75))
  have ht' := fun n => ((ht.al (.cells #[.int .i64 m.rel, .slice p m.inputs.length cap, .int .i64 m.limit, .int .i64 m.cost, .int .i64 m.quota] 55)).al (.cells #[.int .i64 a.rel, .slice p2 a.terms.length cap2] 75)).dn n
  have ht0 := ((ht.al (.cells #[.int .i64 m.rel, .slice p m.inputs.length cap, .int .i64 m.limit, .int .i64 m.cost, .int .i64 m.quota] 55)).al (.cells #[.int .i64 a.rel, .slice p2 a.terms.length cap2] 75))
  have hb' := fun n => ((hb.al (.cells #[.int .i64 m.rel, .slice p m.inputs.length cap, .int .i64 m.limit, .int .i64 m.cost, .int .i64 m.quota] 55)).al (.cells #[.int .i64 a.rel, .slice p2 a.terms.length cap2] 75)).dn n
  by_cases hr : m.rel = a.rel
  · have Hf := Lib.hid (show canCallB m a bound = !(m.inputs.any (inBad a bound)) by unfold canCallB; rw [decide_eq_true hr]; rfl)
    have hd : (m.rel != a.rel) = false := by simp [hr]
    clear hr
    go_enter Tryz.func37, Tryz.ntmps37
    go_wp2
    go_loopw [7] (fun i wr => ∃ k n : Nat, i = .int .i64 k ∧ k ≤ m.inputs.length ∧ Hid (∀ j (hj : j < m.inputs.length), j < k → inBad a bound m.inputs[j] = false) ∧
      wr = ((w.alloc (.cells #[.int .i64 m.rel, .slice p m.inputs.length cap, .int .i64 m.limit, .int .i64 m.cost, .int .i64 m.quota] 55)).alloc (.cells #[.int .i64 a.rel, .slice p2 a.terms.length cap2] 75)).drewN n) (fun i _ => m.inputs.length - (intOf i).toNat)
    case atStart => exact ⟨0, 0, rfl, Nat.zero_le _, Lib.hid (fun j hj h0 => by omega), rfl⟩
    case round =>
      obtain ⟨k, n, rfl, hk, HN, rfl⟩ := hrel
      by_cases hlt : k < m.inputs.length
      · obtain ⟨g, hga, hc, _, _, _⟩ := hi0.get k hlt
        have hk2 : (k : Int) < (m.inputs.length : Int) := by omega
        cases hin : inR m.inputs[k] 0 ((a.terms.length : Int) - 1) with
        | false =>
          have Hg := Lib.hid (Hf.out.trans (show (!(m.inputs.any (inBad a bound))) = false by rw [any_true_of (p := inBad a bound) hlt (inBad_out hin)]; rfl))
          subst hga
          go_wp2
          go_quiet ((go_at_call 39; exact qEq2 (retB (f39_any _ _ _ _) hin)))
          go_wp2
          go_ret
          exact ⟨ret_bool (by rw [Hg.out]), by repeat (first | exact Below.refl _ _ | refine bdn ?_ | refine ba ?_)⟩
        | true =>
          obtain ⟨q, hq, hql⟩ := in_nat hin
          have Hq := Lib.hid hq
          rw [hq] at hin hc
          clear hq
          have hk0 : (0 : Int) ≤ (q : Int) := Int.natCast_nonneg _
          have hk1 : (q : Int) < (a.terms.length : Int) := by omega
          obtain ⟨g2, hga2, hc2, _, _, _⟩ := ht0.get q hql
          subst hga
          subst hga2
          cases hv : isVarB a.terms[q] with
          | false =>
            have HN2 := Lib.hid (none_step (p := inBad a bound) HN.out hlt (by rw [Hq.out, inBad_at hin hql, hv]; rfl))
            go_wp2
            go_quiet ((go_at_call 39; exact qEq2 (retB (f39_any _ _ _ _) hin)))
            go_wp2
            go_quiet (fail)
            go_wp2_with (go_at_call 52; refine (f52_any _ _).mono ?_; rintro e w' ⟨rfl, rfl⟩)
            go_roundw
            case rel => exact ⟨k + 1, _, by go_num, by omega, HN2, rfl⟩
            case measure => simp [intOf]; omega
          | true =>
            generalize hcb : memB bound a.terms[q] = r
            have Hcb := Lib.hid hcb
            have hcq := fun n => (l2Has_any (.slice p3 bound.length cap3) bound fb a.terms[q] _ (hb' n)).mono fun _ _ h => (⟨h.1.trans (by rw [Hcb.out]), h.2⟩ : _ = Ending.returned (.bool r) ∧ _)
            clear hcb
            cases r with
            | true =>
              have HN2 := Lib.hid (none_step (p := inBad a bound) HN.out hlt (by rw [Hq.out, inBad_at hin hql, hv, Hcb.out]; rfl))
              go_wp2
              go_quiet ((go_at_call 39; exact qEq2 (retB (f39_any _ _ _ _) hin)))
              go_wp2
              go_quiet (fail)
              go_wp2_with (first
                | (go_at_call 52; refine (f52_any _ _).mono ?_; rintro e w' ⟨rfl, rfl⟩)
                | (go_at_call 51; refine (hcq _).mono ?_; rintro e w' ⟨rfl, rfl⟩))
              go_roundw
              case rel => exact ⟨k + 1, _, by go_num, by omega, HN2, rfl⟩
              case measure => simp [intOf]; omega
            | false =>
              have Hg := Lib.hid (Hf.out.trans (show (!(m.inputs.any (inBad a bound))) = false by rw [any_true_of (p := inBad a bound) hlt (by rw [Hq.out, inBad_at hin hql, hv, Hcb.out]; rfl)]; rfl))
              go_wp2
              go_quiet ((go_at_call 39; exact qEq2 (retB (f39_any _ _ _ _) hin)))
              go_wp2
              go_quiet (fail)
              go_wp2_with (first
                | (go_at_call 52; refine (f52_any _ _).mono ?_; rintro e w' ⟨rfl, rfl⟩)
                | (go_at_call 51; refine (hcq _).mono ?_; rintro e w' ⟨rfl, rfl⟩))
              go_ret
              exact ⟨ret_bool (by rw [Hg.out]), by repeat (first | exact Below.refl _ _ | refine bdn ?_ | refine ba ?_)⟩
      · have hkl : k = m.inputs.length := by omega
        have Hg := Lib.hid (Hf.out.trans (show (!(m.inputs.any (inBad a bound))) = true by rw [any_false_of (p := inBad a bound) (fun j hj => HN.out j hj (by omega))]; rfl))
        go_wp2
        go_ret
        exact ⟨ret_bool (by rw [Hg.out]), by repeat (first | exact Below.refl _ _ | refine bdn ?_ | refine ba ?_)⟩
  · have Hf := Lib.hid (show canCallB m a bound = false by unfold canCallB; rw [decide_eq_false hr]; rfl)
    have hd : (m.rel != a.rel) = true := by simpa using hr
    clear hr
    go_enter Tryz.func37, Tryz.ntmps37
    go_wp2
    go_ret
    exact ⟨ret_bool (by rw [Hf.out]), ba (ba (Below.refl _ _))⟩
end Go.Proofs.YtpdmdfkcaabnaaaGreat
