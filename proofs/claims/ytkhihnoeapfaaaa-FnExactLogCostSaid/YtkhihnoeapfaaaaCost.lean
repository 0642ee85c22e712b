/- UsesOf, costOf, OrderCost, LogCost, IsExact, of the program and of the reference. No condition. -/
import Derived.Test.YtkhihnoeapfaaaaIdxS
import Derived.Test.YtkhihnoeapfaaaaCompare
import Derived.Test.YtkhihnoeapfaaaaFacts0
namespace Go.Proofs.Ytkhihnoeapfaaaa
open Go.RowKit
set_option linter.unusedVariables false
set_option linter.unusedSimpArgs false
/-- How many accesses are by a method. -/
def usesL (l : List AccD) (m : Int) : Nat := (l.filter fun a => a.meth == m).length
theorem usesL_yes {l : List AccD} {m : Int} {k : Nat} (hk : k < l.length) (h : (l[k].meth == m) = true) : usesL (l.take (k + 1)) m = usesL (l.take k) m + 1 := by
  unfold usesL; rw [List.take_succ_eq_append_getElem hk, List.filter_append]; simp [h]
theorem usesL_no {l : List AccD} {m : Int} {k : Nat} (hk : k < l.length) (h : (l[k].meth == m) = false) : usesL (l.take (k + 1)) m = usesL (l.take k) m := by
  unfold usesL; rw [List.take_succ_eq_append_getElem hk, List.filter_append]; simp [h]
theorem usesL_le (l : List AccD) (m : Int) (k : Nat) : usesL (l.take k) m ≤ k := by
  unfold usesL; exact Nat.le_trans (List.length_filter_le _ _) (List.length_take_le _ _)
set_option maxRecDepth 100000 in
set_option maxHeartbeats 800000 in
theorem specUsesOf_any (v : Value) (l : List AccD) (f : List Nat) (m : Int) (w : World) (h : accs w v l f) :
    Calls Try.prog 59 #[v, .int .i64 m] w fun e w' => e = .returned (.int .i64 (usesL l m)) ∧ w = w' := by
  obtain ⟨a, cap, rfl⟩ := slR.form h
  have hla := slR.le_max h
  go_enter Try.func59, Try.ntmps59
  go_wp2
  go_loop [5, 6] (fun n i => ∃ k : Nat, i = .int .i64 k ∧ k ≤ l.length ∧ n = .int .i64 (usesL (l.take k) m)) (fun _ i => l.length - (intOf i).toNat)
  case atStart => exact ⟨0, rfl, Nat.zero_le _, rfl⟩
  case round =>
    obtain ⟨k, rfl, hk, rfl⟩ := hrel
    have hu := usesL_le l m k
    by_cases hlt : k < l.length
    · obtain ⟨g, c, fi, rfl, ⟨vv, rfl, vi, hv⟩, _, hc, _, _, _⟩ := slR.at h k hlt
      have hc0 : w.cell? ⟨g, k * 2, none⟩ = _ := hc 0 _ rfl
      clear hc
      cases he : (l[k].meth == m) with
      | true =>
        have HS := Lib.hid (usesL_yes hlt he)
        go_wp2
        go_round
        case rel => exact ⟨k + 1, by go_num, by omega, by rw [HS.out] <;> go_num⟩
        case measure => simp [intOf]; omega
      | false =>
        have HS := Lib.hid (usesL_no hlt he)
        go_wp2
        go_round
        case rel => exact ⟨k + 1, by go_num, by omega, by rw [HS.out] <;> go_num⟩
        case measure => simp [intOf]; omega
    · have hkl : k = l.length := by omega
      have Hf := Lib.hid (show l.take k = l by rw [hkl, List.take_length])
      go_wp2
      go_ret
      exact ⟨ret_int (by first | rfl | rw [Hf.out]), rfl⟩
theorem bit_any (b : Bool) (w : World) : Calls Try.prog 162 #[.bool b] w fun e w' => e = .returned (.int .i64 (if b then 1 else 0)) ∧ w = w' := by
  cases b with
  | true =>
    go_enter Try.func162, Try.ntmps162
    go_wp2
    go_ret
    exact ⟨rfl, rfl⟩
  | false =>
    go_enter Try.func162, Try.ntmps162
    go_wp2
    go_ret
    exact ⟨rfl, rfl⟩
set_option maxRecDepth 100000 in
set_option maxHeartbeats 800000 in
theorem implUsesOf_any (v : Value) (l : List AccD) (f : List Nat) (m : Int) (w : World) (h : accs w v l f) :
    Calls Try.prog 61 #[v, .int .i64 m] w fun e w' => e = .returned (.int .i64 (usesL l m)) ∧ Below w.heap.size w w' := by
  obtain ⟨a, cap, rfl⟩ := slR.form h
  have hla := slR.le_max h
  go_enter Try.func61, Try.ntmps61
  go_wp2
  go_loopw [5, 10] (fun n i wr => ∃ k : Nat, i = .int .i64 k ∧ k ≤ l.length ∧ n = .int .i64 (usesL (l.take k) m) ∧ Below w.heap.size w wr) (fun _ i _ => l.length - (intOf i).toNat)
  case atStart => exact ⟨0, rfl, Nat.zero_le _, rfl, Below.refl _ _⟩
  case round =>
    obtain ⟨k, rfl, hk, rfl, hbel⟩ := hrel
    have hu := usesL_le l m k
    by_cases hlt : k < l.length
    · obtain ⟨g, c, fi, rfl, ⟨vv, rfl, vi, hv⟩, _, hc, _, _, _⟩ := slR.at (h.below' hbel) k hlt
      obtain ⟨a', c', rfl⟩ := slR.form hv
      have hc0 : wr.cell? ⟨g, k * 2, none⟩ = _ := hc 0 _ rfl
      have hc1 : wr.cell? ⟨g, k * 2 + 1, none⟩ = _ := hc 1 _ rfl
      clear hc
      cases he : (l[k].meth == m) with
      | true =>
        have HS := Lib.hid (usesL_yes hlt he)
        go_wp2_with (go_at_call 162; refine (bit_any _ _).mono ?_; rintro e w' ⟨rfl, rfl⟩)
        go_roundw
        case rel => exact ⟨k + 1, by go_num, by omega, by rw [HS.out] <;> go_num, ba hbel⟩
        case measure => simp [intOf]; omega
      | false =>
        have HS := Lib.hid (usesL_no hlt he)
        go_wp2_with (go_at_call 162; refine (bit_any _ _).mono ?_; rintro e w' ⟨rfl, rfl⟩)
        go_roundw
        case rel => exact ⟨k + 1, by go_num, by omega, by rw [HS.out] <;> go_num, ba hbel⟩
        case measure => simp [intOf]; omega
    · have hkl : k = l.length := by omega
      have Hf := Lib.hid (show l.take k = l by rw [hkl, List.take_length])
      go_wp2
      go_ret
      exact ⟨ret_int (by first | rfl | rw [Hf.out]), hbel⟩
theorem methAt_nat {l : List MethD} {k : Nat} (h : k < l.length) : methAt l (k : Int) = l[k] := by unfold methAt; rw [Int.toNat_natCast, getD_lt h]
theorem in_nat {i : Int} {n : Nat} (h : inR i 0 ((n : Int) - 1) = true) : ∃ k : Nat, i = k ∧ k < n := by
  have h2 := inR_true h
  obtain ⟨k, rfl⟩ := Int.eq_ofNat_of_zero_le h2.1
  exact ⟨k, rfl, by omega⟩
theorem costB_out {l : List MethD} {i : Int} (h : inR i 0 ((l.length : Int) - 1) = false) : costB l i = 0 := by unfold costB; rw [h]; rfl
theorem costB_in {l : List MethD} {k : Nat} (h : inR (k : Int) 0 ((l.length : Int) - 1) = true) (hk : k < l.length) (hc : inR l[k].cost 0 99 = true) : costB l (k : Int) = l[k].cost := by
  unfold costB; rw [h, methAt_nat hk, hc]; rfl
theorem costB_no {l : List MethD} {k : Nat} (h : inR (k : Int) 0 ((l.length : Int) - 1) = true) (hk : k < l.length) (hc : inR l[k].cost 0 99 = false) : costB l (k : Int) = 0 := by
  unfold costB; rw [h, methAt_nat hk, hc]; rfl
theorem costB_bd (l : List MethD) (i : Int) : 0 ≤ costB l i ∧ costB l i ≤ 99 := by
  unfold costB
  split
  · rename_i h
    rw [Bool.and_eq_true] at h
    exact inR_true h.2
  · omega
/-- The cells of a method. -/
theorem meths.get {w : World} {a : Option Addr} {n cap : Nat} {l : List MethD} {f : List Nat} (h : meths w (.slice a n cap) l f) (k : Nat) (hk : k < l.length) :
    ∃ g vi fi, a = some ⟨g, 0, none⟩ ∧ w.cell? ⟨g, k * 5, none⟩ = some (.int .i64 l[k].rel) ∧ w.cell? ⟨g, k * 5 + 1, none⟩ = some vi ∧ w.cell? ⟨g, k * 5 + 2, none⟩ = some (.int .i64 l[k].limit) ∧
      w.cell? ⟨g, k * 5 + 3, none⟩ = some (.int .i64 l[k].cost) ∧ w.cell? ⟨g, k * 5 + 4, none⟩ = some (.int .i64 l[k].quota) ∧ ints w vi l[k].inputs fi := by
  obtain ⟨g, c, fi, rfl, ⟨vv, rfl, i1, i2, i3, i4, hv⟩, _, hc, _, _, _⟩ := slR.at h k hk
  exact ⟨g, vv, fi, rfl, hc 0 _ rfl, hc 1 _ rfl, hc 2 _ rfl, hc 3 _ rfl, hc 4 _ rfl, hv⟩
theorem isCost_any (x : Int) (w : World) : Calls Try.prog 223 #[.int .i64 x] w fun e w' => e = .returned (.bool (inR x 0 99)) ∧ w = w' := by
  go_enter Try.func223, Try.ntmps223
  go_wp2_with (go_at_call 148; refine (f148_any _ _ _ _).mono ?_; rintro e w' ⟨rfl, rfl⟩)
  go_ret
  exact ⟨rfl, rfl⟩
set_option maxRecDepth 100000 in
set_option maxHeartbeats 800000 in
theorem costOf_any (v : Value) (l : List MethD) (f : List Nat) (i : Int) (w : World) (h : meths w v l f) :
    Calls Try.prog 185 #[v, .int .i64 i] w fun e w' => e = .returned (.int .i64 (costB l i)) ∧ w = w' := by
  obtain ⟨a, cap, rfl⟩ := slR.form h
  have hla := slR.le_max h
  cases hin : inR i 0 ((l.length : Int) - 1) with
  | false =>
    have Hf := Lib.hid (costB_out hin)
    go_enter Try.func185, Try.ntmps185
    go_wp2_with (go_at_call 148; refine (f148_any _ _ _ _).mono ?_; rintro e w' ⟨rfl, rfl⟩)
    go_ret
    exact ⟨ret_int (by first | rfl | rw [Hf.out]), rfl⟩
  | true =>
    obtain ⟨k, rfl, hk⟩ := in_nat hin
    have hk0 : (0 : Int) ≤ (k : Int) := Int.natCast_nonneg _
    have hk1 : (k : Int) < (l.length : Int) := by omega
    obtain ⟨g, vi, fi, rfl, _, _, _, hc3, _, _⟩ := h.get k hk
    cases hc : inR l[k].cost 0 99 with
    | false =>
      have Hf := Lib.hid (costB_no hin hk hc)
      go_enter Try.func185, Try.ntmps185
      go_wp2_with (first
        | (go_at_call 148; refine (f148_any _ _ _ _).mono ?_; rintro e w' ⟨rfl, rfl⟩)
        | (go_at_call 223; refine (isCost_any _ _).mono ?_; rintro e w' ⟨rfl, rfl⟩))
      go_ret
      exact ⟨ret_int (by first | rfl | rw [Hf.out]), rfl⟩
    | true =>
      have Hf := Lib.hid (costB_in hin hk hc)
      go_enter Try.func185, Try.ntmps185
      go_wp2_with (first
        | (go_at_call 148; refine (f148_any _ _ _ _).mono ?_; rintro e w' ⟨rfl, rfl⟩)
        | (go_at_call 223; refine (isCost_any _ _).mono ?_; rintro e w' ⟨rfl, rfl⟩))
      go_ret
      exact ⟨ret_int (by first | rfl | rw [Hf.out]), rfl⟩
/-- The cost of calls. -/
def sumCost (l : List MethD) (ms : List Int) : Int := (ms.map (costB l)).sum
theorem sumCost_snoc (l : List MethD) (ms : List Int) (m : Int) : sumCost l (ms ++ [m]) = sumCost l ms + costB l m := by simp [sumCost]
theorem sumCost_bd (l : List MethD) (ms : List Int) : 0 ≤ sumCost l ms ∧ sumCost l ms ≤ 99 * ms.length := by
  induction ms with
  | nil => simp [sumCost]
  | cons m t ih =>
    have h := costB_bd l m
    have e : sumCost l (m :: t) = costB l m + sumCost l t := by simp [sumCost]
    rw [e]; simp only [List.length_cons]; omega

def stepsSum (l : List MethD) (x : List StepD) (k : Nat) : Int := sumCost l ((x.take k).map (·.meth))
theorem steps_snoc (l : List MethD) (x : List StepD) (k : Nat) (hk : k < x.length) : stepsSum l x (k + 1) = stepsSum l x k + costB l x[k].meth := by
  unfold stepsSum; rw [List.take_succ_eq_append_getElem hk, List.map_append]; exact sumCost_snoc _ _ _
theorem steps_bd (l : List MethD) (x : List StepD) (k : Nat) (hk : k ≤ x.length) : 0 ≤ stepsSum l x k ∧ stepsSum l x k ≤ 99 * k := by
  have := sumCost_bd l ((x.take k).map (·.meth)); rw [List.length_map, List.length_take, Nat.min_eq_left hk] at this; exact this
theorem steps_zero (l : List MethD) (x : List StepD) : stepsSum l x 0 = 0 := by simp [stepsSum, sumCost]
theorem steps_all (l : List MethD) (x : List StepD) (k : Nat) (h : k = x.length) : stepsSum l x k = sumCost l (x.map (·.meth)) := by unfold stepsSum; rw [h, List.take_length]
set_option maxRecDepth 100000 in
set_option maxHeartbeats 1600000 in
theorem specOrderCost_any (v : Value) (l : List MethD) (f : List Nat) (u : Value) (x : List StepD) (fx : List Nat) (w : World) (h : meths w v l f) (hx : steps w u x fx) (hn : x.length ≤ 1048576) :
    Calls Try.prog 91 #[v, u] w fun e w' => e = .returned (.int .i64 (sumCost l (x.map (·.meth)))) ∧ w = w' := by
  obtain ⟨a, cap, rfl⟩ := slR.form h
  obtain ⟨b, cap', rfl⟩ := slR.form hx
  have hla := slR.le_max h
  go_enter Try.func91, Try.ntmps91
  go_wp2
  go_loop [5, 6] (fun n i => ∃ k : Nat, i = .int .i64 k ∧ k ≤ x.length ∧ n = .int .i64 (stepsSum l x k)) (fun _ i => x.length - (intOf i).toNat)
  case atStart => exact ⟨0, rfl, Nat.zero_le _, by rw [steps_zero]⟩
  case round =>
    obtain ⟨k, rfl, hk, rfl⟩ := hrel
    have hbd := steps_bd l x k hk
    obtain ⟨hbd1, hbd2⟩ := hbd
    by_cases hlt : k < x.length
    · obtain ⟨g, c, fi, rfl, ⟨rfl, fe, i1, i2⟩, _, hc, _, _, _⟩ := slR.at hx k hlt
      have hc0 : w.cell? ⟨g, k * 2 + 1, none⟩ = _ := hc 1 _ rfl
      clear hc
      have HS := Lib.hid (steps_snoc l x k hlt)
      cases hin : inR x[k].meth 0 ((l.length : Int) - 1) with
      | false =>
        have Hf := Lib.hid (costB_out hin)
        go_wp2_with (go_at_call 147; refine (f147_any _ _ _ _).mono ?_; rintro e w' ⟨rfl, rfl⟩)
        go_round
        case rel => exact ⟨k + 1, by go_num, by omega, by rw [HS.out, Hf.out] <;> go_num⟩
        case measure => simp [intOf]; omega
      | true =>
        obtain ⟨q, hq, hql⟩ := in_nat hin
        rw [hq] at hin hc0 HS
        clear hq
        have hk0 : (0 : Int) ≤ (q : Int) := Int.natCast_nonneg _
        have hk1 : (q : Int) < (l.length : Int) := by omega
        obtain ⟨g2, vi, fi2, rfl, _, _, _, hc3, _, _⟩ := h.get q hql
        cases hcc : inR l[q].cost 0 99 with
        | false =>
          have Hf := Lib.hid (costB_no hin hql hcc)
          go_wp2_with (go_at_call 147; refine (f147_any _ _ _ _).mono ?_; rintro e w' ⟨rfl, rfl⟩)
          go_round
          case rel => exact ⟨k + 1, by go_num, by omega, by rw [HS.out, Hf.out] <;> go_num⟩
          case measure => simp [intOf]; omega
        | true =>
          have Hf := Lib.hid (costB_in hin hql hcc)
          have hr := inR_true hcc
          obtain ⟨hr1, hr2⟩ := hr
          go_wp2_with (go_at_call 147; refine (f147_any _ _ _ _).mono ?_; rintro e w' ⟨rfl, rfl⟩)
          go_round
          case rel => exact ⟨k + 1, by go_num, by omega, by rw [HS.out, Hf.out] <;> go_num⟩
          case measure => simp [intOf]; omega
    · have hkl : k = x.length := by omega
      go_wp2
      go_ret
      exact ⟨ret_int (steps_all l x _ (by first | rfl | exact hkl)), rfl⟩
set_option maxRecDepth 100000 in
set_option maxHeartbeats 1600000 in
theorem implOrderCost_any (v : Value) (l : List MethD) (f : List Nat) (u : Value) (x : List StepD) (fx : List Nat) (w : World) (h : meths w v l f) (hx : steps w u x fx) (hn : x.length ≤ 1048576) :
    Calls Try.prog 92 #[v, u] w fun e w' => e = .returned (.int .i64 (sumCost l (x.map (·.meth)))) ∧ Below w.heap.size w w' := by
  obtain ⟨a, cap, rfl⟩ := slR.form h
  obtain ⟨b, cap', rfl⟩ := slR.form hx
  have hla := slR.le_max h
  go_enter Try.func92, Try.ntmps92
  go_wp2
  go_loopw [5, 10] (fun n i wr => ∃ k : Nat, i = .int .i64 k ∧ k ≤ x.length ∧ n = .int .i64 (stepsSum l x k) ∧ Below w.heap.size w wr) (fun _ i _ => x.length - (intOf i).toNat)
  case atStart => exact ⟨0, rfl, Nat.zero_le _, by rw [steps_zero], Below.refl _ _⟩
  case round =>
    obtain ⟨k, rfl, hk, rfl, hbel⟩ := hrel
    have hbd := steps_bd l x k hk
    obtain ⟨hbd1, hbd2⟩ := hbd
    by_cases hlt : k < x.length
    · obtain ⟨g, c, fi, rfl, ⟨rfl, fe, i1, i2⟩, _, hc, _, _, _⟩ := slR.at (hx.below' hbel) k hlt
      have hc0 : wr.cell? ⟨g, k * 2, none⟩ = _ := hc 0 _ rfl
      have hc1 : wr.cell? ⟨g, k * 2 + 1, none⟩ = _ := hc 1 _ rfl
      clear hc
      have HS := Lib.hid (steps_snoc l x k hlt)
      have hcb := costB_bd l x[k].meth
      obtain ⟨hcb1, hcb2⟩ := hcb
      go_wp2_with fail
      refine (costOf_any _ l f _ _ (h.below' (ba hbel))).mono ?_
      rintro e w1 ⟨rfl, rfl⟩
      go_wp2
      go_roundw
      case rel => exact ⟨k + 1, by go_num, by omega, by rw [HS.out] <;> go_num, ba hbel⟩
      case measure => simp [intOf]; omega
    · have hkl : k = x.length := by omega
      go_wp2
      go_ret
      exact ⟨ret_int (steps_all l x _ (by first | rfl | exact hkl)), hbel⟩
def accsSum (l : List MethD) (x : List AccD) (k : Nat) : Int := sumCost l ((x.take k).map (·.meth))
theorem accs_snoc (l : List MethD) (x : List AccD) (k : Nat) (hk : k < x.length) : accsSum l x (k + 1) = accsSum l x k + costB l x[k].meth := by
  unfold accsSum; rw [List.take_succ_eq_append_getElem hk, List.map_append]; exact sumCost_snoc _ _ _
theorem accs_bd (l : List MethD) (x : List AccD) (k : Nat) (hk : k ≤ x.length) : 0 ≤ accsSum l x k ∧ accsSum l x k ≤ 99 * k := by
  have := sumCost_bd l ((x.take k).map (·.meth)); rw [List.length_map, List.length_take, Nat.min_eq_left hk] at this; exact this
theorem accs_zero (l : List MethD) (x : List AccD) : accsSum l x 0 = 0 := by simp [accsSum, sumCost]
theorem accs_all (l : List MethD) (x : List AccD) (k : Nat) (h : k = x.length) : accsSum l x k = sumCost l (x.map (·.meth)) := by unfold accsSum; rw [h, List.take_length]
set_option maxRecDepth 100000 in
set_option maxHeartbeats 1600000 in
theorem specLogCost_any (v : Value) (l : List MethD) (f : List Nat) (u : Value) (x : List AccD) (fx : List Nat) (w : World) (h : meths w v l f) (hx : accs w u x fx) (hn : x.length ≤ 1048576) :
    Calls Try.prog 93 #[v, u] w fun e w' => e = .returned (.int .i64 (sumCost l (x.map (·.meth)))) ∧ w = w' := by
  obtain ⟨a, cap, rfl⟩ := slR.form h
  obtain ⟨b, cap', rfl⟩ := slR.form hx
  have hla := slR.le_max h
  go_enter Try.func93, Try.ntmps93
  go_wp2
  go_loop [5, 6] (fun n i => ∃ k : Nat, i = .int .i64 k ∧ k ≤ x.length ∧ n = .int .i64 (accsSum l x k)) (fun _ i => x.length - (intOf i).toNat)
  case atStart => exact ⟨0, rfl, Nat.zero_le _, by rw [accs_zero]⟩
  case round =>
    obtain ⟨k, rfl, hk, rfl⟩ := hrel
    have hbd := accs_bd l x k hk
    obtain ⟨hbd1, hbd2⟩ := hbd
    by_cases hlt : k < x.length
    · obtain ⟨g, c, fi, rfl, ⟨vv, rfl, i1, hv⟩, _, hc, _, _, _⟩ := slR.at hx k hlt
      have hc0 : w.cell? ⟨g, k * 2, none⟩ = _ := hc 0 _ rfl
      clear hc
      have HS := Lib.hid (accs_snoc l x k hlt)
      cases hin : inR x[k].meth 0 ((l.length : Int) - 1) with
      | false =>
        have Hf := Lib.hid (costB_out hin)
        go_wp2_with (go_at_call 147; refine (f147_any _ _ _ _).mono ?_; rintro e w' ⟨rfl, rfl⟩)
        go_round
        case rel => exact ⟨k + 1, by go_num, by omega, by rw [HS.out, Hf.out] <;> go_num⟩
        case measure => simp [intOf]; omega
      | true =>
        obtain ⟨q, hq, hql⟩ := in_nat hin
        rw [hq] at hin hc0 HS
        clear hq
        have hk0 : (0 : Int) ≤ (q : Int) := Int.natCast_nonneg _
        have hk1 : (q : Int) < (l.length : Int) := by omega
        obtain ⟨g2, vi, fi2, rfl, _, _, _, hc3, _, _⟩ := h.get q hql
        cases hcc : inR l[q].cost 0 99 with
        | false =>
          have Hf := Lib.hid (costB_no hin hql hcc)
          go_wp2_with (go_at_call 147; refine (f147_any _ _ _ _).mono ?_; rintro e w' ⟨rfl, rfl⟩)
          go_round
          case rel => exact ⟨k + 1, by go_num, by omega, by rw [HS.out, Hf.out] <;> go_num⟩
          case measure => simp [intOf]; omega
        | true =>
          have Hf := Lib.hid (costB_in hin hql hcc)
          have hr := inR_true hcc
          obtain ⟨hr1, hr2⟩ := hr
          go_wp2_with (go_at_call 147; refine (f147_any _ _ _ _).mono ?_; rintro e w' ⟨rfl, rfl⟩)
          go_round
          case rel => exact ⟨k + 1, by go_num, by omega, by rw [HS.out, Hf.out] <;> go_num⟩
          case measure => simp [intOf]; omega
    · have hkl : k = x.length := by omega
      go_wp2
      go_ret
      exact ⟨ret_int (accs_all l x _ (by first | rfl | exact hkl)), rfl⟩
set_option maxRecDepth 100000 in
set_option maxHeartbeats 1600000 in
theorem implLogCost_any (v : Value) (l : List MethD) (f : List Nat) (u : Value) (x : List AccD) (fx : List Nat) (w : World) (h : meths w v l f) (hx : accs w u x fx) (hn : x.length ≤ 1048576) :
    Calls Try.prog 94 #[v, u] w fun e w' => e = .returned (.int .i64 (sumCost l (x.map (·.meth)))) ∧ Below w.heap.size w w' := by
  obtain ⟨a, cap, rfl⟩ := slR.form h
  obtain ⟨b, cap', rfl⟩ := slR.form hx
  have hla := slR.le_max h
  go_enter Try.func94, Try.ntmps94
  go_wp2
  go_loopw [5, 10] (fun n i wr => ∃ k : Nat, i = .int .i64 k ∧ k ≤ x.length ∧ n = .int .i64 (accsSum l x k) ∧ Below w.heap.size w wr) (fun _ i _ => x.length - (intOf i).toNat)
  case atStart => exact ⟨0, rfl, Nat.zero_le _, by rw [accs_zero], Below.refl _ _⟩
  case round =>
    obtain ⟨k, rfl, hk, rfl, hbel⟩ := hrel
    have hbd := accs_bd l x k hk
    obtain ⟨hbd1, hbd2⟩ := hbd
    by_cases hlt : k < x.length
    · obtain ⟨g, c, fi, rfl, ⟨vv, rfl, i1, hv⟩, _, hc, _, _, _⟩ := slR.at (hx.below' hbel) k hlt
      obtain ⟨a', c', rfl⟩ := slR.form hv
      have hc0 : wr.cell? ⟨g, k * 2, none⟩ = _ := hc 0 _ rfl
      have hc1 : wr.cell? ⟨g, k * 2 + 1, none⟩ = _ := hc 1 _ rfl
      clear hc
      have HS := Lib.hid (accs_snoc l x k hlt)
      have hcb := costB_bd l x[k].meth
      obtain ⟨hcb1, hcb2⟩ := hcb
      go_wp2_with fail
      refine (costOf_any _ l f _ _ (h.below' (ba hbel))).mono ?_
      rintro e w1 ⟨rfl, rfl⟩
      go_wp2
      go_roundw
      case rel => exact ⟨k + 1, by go_num, by omega, by rw [HS.out] <;> go_num, ba hbel⟩
      case measure => simp [intOf]; omega
    · have hkl : k = x.length := by omega
      go_wp2
      go_ret
      exact ⟨ret_int (accs_all l x _ (by first | rfl | exact hkl)), hbel⟩
/-- Is a step's method exact. -/
def exactBad (l : List MethD) (s : StepD) : Bool := !inR s.meth 0 ((l.length : Int) - 1) || ((methAt l s.meth).limit != 0)
def exactB (l : List MethD) (x : List StepD) : Bool := !(x.any (exactBad l))
set_option maxRecDepth 100000 in
set_option maxHeartbeats 1600000 in
theorem specIsExact_any (v : Value) (l : List MethD) (f : List Nat) (u : Value) (x : List StepD) (fx : List Nat) (w : World) (h : meths w v l f) (hx : steps w u x fx) :
    Calls Try.prog 89 #[v, u] w fun e w' => e = .returned (.bool (exactB l x)) ∧ w = w' := by
  obtain ⟨a, cap, rfl⟩ := slR.form h
  obtain ⟨b, cap', rfl⟩ := slR.form hx
  have hla := slR.le_max h
  have hlb := slR.le_max hx
  go_enter Try.func89, Try.ntmps89
  go_wp2
  go_loop [5] (fun i => ∃ k : Nat, i = .int .i64 k ∧ k ≤ x.length ∧ Hid (∀ j (hj : j < x.length), j < k → exactBad l x[j] = false)) (fun i => x.length - (intOf i).toNat)
  case atStart => exact ⟨0, rfl, Nat.zero_le _, Lib.hid (fun j hj h0 => by omega)⟩
  case round =>
    obtain ⟨k, rfl, hk, HN⟩ := hrel
    by_cases hlt : k < x.length
    · obtain ⟨g, c, fi, rfl, ⟨rfl, fe, i1, i2⟩, _, hc, _, _, _⟩ := slR.at hx k hlt
      have hc0 : w.cell? ⟨g, k * 2 + 1, none⟩ = _ := hc 1 _ rfl
      clear hc
      have Hm := Lib.hid (show x[k] = x[k] from rfl)
      cases hin : inR x[k].meth 0 ((l.length : Int) - 1) with
      | false =>
        have Hf := Lib.hid (show exactB l x = false by unfold exactB; rw [any_true_of (p := exactBad l) hlt (by unfold exactBad; rw [hin]; rfl)]; rfl)
        go_wp2_with (go_at_call 147; refine (f147_any _ _ _ _).mono ?_; rintro e w' ⟨rfl, rfl⟩)
        go_ret
        exact ⟨ret_bool (by rw [Hf.out]), rfl⟩
      | true =>
        obtain ⟨q, hq, hql⟩ := in_nat hin
        have Hq := Lib.hid hq
        rw [hq] at hin hc0
        clear hq
        have hk0 : (0 : Int) ≤ (q : Int) := Int.natCast_nonneg _
        have hk1 : (q : Int) < (l.length : Int) := by omega
        obtain ⟨g2, vi, fi2, rfl, _, _, hc2, _, _, _⟩ := h.get q hql
        cases hcc : (l[q].limit != 0) with
        | true =>
          have Hf := Lib.hid (show exactB l x = false by unfold exactB; rw [any_true_of (p := exactBad l) hlt (by unfold exactBad; rw [Hq.out, methAt_nat hql, hcc]; simp)]; rfl)
          go_wp2_with (go_at_call 147; refine (f147_any _ _ _ _).mono ?_; rintro e w' ⟨rfl, rfl⟩)
          go_ret
          exact ⟨ret_bool (by rw [Hf.out]), rfl⟩
        | false =>
          have HN2 := Lib.hid (none_step (p := exactBad l) HN.out hlt (by unfold exactBad; rw [Hq.out, methAt_nat hql, hcc, hin]; rfl))
          go_wp2_with (go_at_call 147; refine (f147_any _ _ _ _).mono ?_; rintro e w' ⟨rfl, rfl⟩)
          go_round
          case rel => exact ⟨k + 1, by go_num, by omega, HN2⟩
          case measure => simp [intOf]; omega
    · have hkl : k = x.length := by omega
      have Hf := Lib.hid (show exactB l x = true by unfold exactB; rw [any_false_of (p := exactBad l) (fun j hj => HN.out j hj (by omega))]; rfl)
      go_wp2
      go_ret
      exact ⟨ret_bool (by rw [Hf.out]), rfl⟩
set_option maxRecDepth 100000 in
set_option maxHeartbeats 800000 in
theorem isExact1_any (s : StepD) (g : Nat) (v : Value) (l : List MethD) (f : List Nat) (w : World) (h : meths w v l f) (c0 : w.cell? ⟨g, 0, none⟩ = some v) :
    Calls Try.prog 184 #[.agg #[.int .i64 s.atom, .int .i64 s.meth], .pointer (some ⟨g, 0, none⟩)] w fun e w' => e = .returned (.bool (exactBad l s)) ∧ Below w.heap.size w w' := by
  obtain ⟨at', m⟩ := s
  obtain ⟨a, cap, rfl⟩ := slR.form h
  have hla := slR.le_max h
  have d0 := fun o => cell_al c0 o
  have hf := lt_of_cell c0
  cases hin : inR m 0 ((l.length : Int) - 1) with
  | false =>
    have Hf := Lib.hid (show exactBad l ⟨at', m⟩ = true by unfold exactBad; simp only [hin]; rfl)
    go_enter Try.func184, Try.ntmps184
    go_wp2_with (go_at_call 148; refine (f148_any _ _ _ _).mono ?_; rintro e w' ⟨rfl, rfl⟩)
    go_ret
    exact ⟨ret_bool (by rw [Hf.out]), ba (Below.refl _ _)⟩
  | true =>
    obtain ⟨q, rfl, hql⟩ := in_nat hin
    have hk0 : (0 : Int) ≤ (q : Int) := Int.natCast_nonneg _
    have hk1 : (q : Int) < (l.length : Int) := by omega
    obtain ⟨g2, vi, fi2, rfl, _, _, hc2, _, _, _⟩ := h.get q hql
    have hc2' := fun o => cell_al hc2 o
    have Hf := Lib.hid (show exactBad l ⟨at', q⟩ = (l[q].limit != 0) by unfold exactBad; simp only [hin, methAt_nat hql]; rfl)
    go_enter Try.func184, Try.ntmps184
    go_wp2_with (go_at_call 148; refine (f148_any _ _ _ _).mono ?_; rintro e w' ⟨rfl, rfl⟩)
    go_ret
    exact ⟨ret_bool (by rw [Hf.out]), ba (Below.refl _ _)⟩
theorem implIsExact_any (v : Value) (l : List MethD) (f : List Nat) (u : Value) (x : List StepD) (fx : List Nat) (w : World) (h : meths w v l f) (hx : steps w u x fx) :
    Calls Try.prog 90 #[v, u] w fun e w' => e = .returned (.bool (exactB l x)) ∧ Below w.heap.size w w' := by
  obtain ⟨a, cap, rfl⟩ := slR.form h
  obtain ⟨b, cap', rfl⟩ := slR.form hx
  have hP := plain_of Try.func184 (by kernel_rfl) (by kernel_rfl)
  have Hd := Lib.hid (show exactB l x = !(x.any (exactBad l)) from rfl)
  go_enter Try.func90, Try.ntmps90
  go_wp2_with fail
  refine (containsFuncStep_any _ hP #[.pointer (some ⟨w.heap.size, 0, none⟩)] (fun s => #[.agg #[.int .i64 s.atom, .int .i64 s.meth], .pointer (some ⟨w.heap.size, 0, none⟩)]) (fun _ => rfl) (exactBad l) _ x fx _ (hx.al _)
    (fun i hi w' hb => isExact1_any _ _ _ l f _ ((h.al _).below' hb) (cell_below (cell_new _ _ _ 0 _ rfl) hb))).mono ?_
  rintro e w1 ⟨rfl, hb1⟩
  go_wp2
  go_ret
  exact ⟨ret_bool (by rw [Hd.out]), bt (ba (Below.refl _ _)) hb1⟩
end Go.Proofs.Ytkhihnoeapfaaaa
