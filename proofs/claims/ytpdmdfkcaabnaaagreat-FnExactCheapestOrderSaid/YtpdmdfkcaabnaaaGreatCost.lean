/- UsesOf, costOf, OrderCost, LogCost, IsExact, of the program and of the reference. No condition. -/
import Derived.Test.YtpdmdfkcaabnaaaGreatIdxS
import Derived.Test.YtpdmdfkcaabnaaaGreatCompare
import Derived.Test.YtpdmdfkcaabnaaaGreatFacts0
namespace Go.Proofs.YtpdmdfkcaabnaaaGreat
open Go.RowKit
set_option linter.unusedVariables false
set_option linter.unusedSimpArgs false
/-- How many accesses are by a method. -/
def usesL (l : List AccD) (m : Int) : Nat := (l.filter fun a => a.meth == m).length
theorem usesL_yes {l : List AccD} {m : Int} {k : Nat} (hk : k < l.length) (h : (l[k].meth == m) = true) : usesL (l.take (k + 1)) m = usesL (l.take k) m + 1 := by
  unfold usesL; rw [List.take_succ_eq_append_getElem hk, List.filter_append]; simp [h]
theorem usesL_no {l : List AccD} {m : Int} {k : Nat} (hk : k < l.length) (h : (l[k].meth == m) = false) : usesL (l.take (k + 1)) m = usesL (l.take k) m := by
  unfold usesL; rw [List.take_succ_eq_append_getElem hk, List.filter_append]; simp [h]
theorem usesL_le (l : List AccD) (m : Int) (k : Nat) : usesL (l.take k) m ≤ k := by
  unfold usesL; exact Nat.le_trans (List.length_filter_le _ _) (List.length_take_le _ _)
theorem in_nat {i : Int} {n : Nat} (h : inR i 0 ((n : Int) - 1) = true) : ∃ k : Nat, i = k ∧ k < n := by
  have h2 := inR_true h
  obtain ⟨k, rfl⟩ := Int.eq_ofNat_of_zero_le h2.1
  exact ⟨k, rfl, by omega⟩
theorem methAt_nat {l : List MethD} {k : Nat} (h : k < l.length) : methAt l (k : Int) = l[k] := by unfold methAt; rw [Int.toNat_natCast, getD_lt h]
theorem costB_out {l : List MethD} {i : Int} (h : inR i 0 ((l.length : Int) - 1) = false) : costB l i = 0 := by unfold costB; rw [h]; rfl
theorem costB_in {l : List MethD} {k : Nat} (h : inR (k : Int) 0 ((l.length : Int) - 1) = true) (hk : k < l.length) (hc : inR l[k].cost 0 99 = true) : costB l (k : Int) = l[k].cost := by
  unfold costB; rw [h, methAt_nat hk, hc]; rfl
theorem costB_no {l : List MethD} {k : Nat} (h : inR (k : Int) 0 ((l.length : Int) - 1) = true) (hk : k < l.length) (hc : inR l[k].cost 0 99 = false) : costB l (k : Int) = 0 := by
  unfold costB; rw [h, methAt_nat hk, hc]; rfl
theorem costB_bd (l : List MethD) (i : Int) : 0 ≤ costB l i ∧ costB l i ≤ 99 := by
  unfold costB
  split
  · rename_i h
    rw [Bool.and_eq_true] at h
    exact inR_true h.2
  · omega
/-- The cells of a method. -/
theorem meths.get {w : World} {a : Option Addr} {n cap : Nat} {l : List MethD} {f : List Nat} (h : meths w (.slice a n cap) l f) (k : Nat) (hk : k < l.length) :
    ∃ g vi fi, a = some ⟨g, 0, none⟩ ∧ w.cell? ⟨g, k * 5, none⟩ = some (.int .i64 l[k].rel) ∧ w.cell? ⟨g, k * 5 + 1, none⟩ = some vi ∧ w.cell? ⟨g, k * 5 + 2, none⟩ = some (.int .i64 l[k].limit) ∧
      w.cell? ⟨g, k * 5 + 3, none⟩ = some (.int .i64 l[k].cost) ∧ w.cell? ⟨g, k * 5 + 4, none⟩ = some (.int .i64 l[k].quota) ∧ ints w vi l[k].inputs fi := by
  obtain ⟨g, c, fi, rfl, ⟨vv, rfl, i1, i2, i3, i4, hv⟩, _, hc, _, _, _⟩ := slR.at h k hk
  exact ⟨g, vv, fi, rfl, hc 0 _ rfl, hc 1 _ rfl, hc 2 _ rfl, hc 3 _ rfl, hc 4 _ rfl, hv⟩
theorem isCost_any (x : Int) (w : World) : Calls Tryz.prog 81 #[.int .i64 x] w fun e w' => e = .returned (.bool (inR x 0 99)) ∧ w = w' := by
  go_enter Tryz.func81, Tryz.ntmps81
  go_wp2_with (go_at_call 58; refine (f58_any _ _ _ _).mono ?_; rintro e w' ⟨rfl, rfl⟩)
  go_ret
  exact ⟨rfl, rfl⟩
/-- The cost of calls. -/
def sumCost (l : List MethD) (ms : List Int) : Int := (ms.map (costB l)).sum
theorem sumCost_snoc (l : List MethD) (ms : List Int) (m : Int) : sumCost l (ms ++ [m]) = sumCost l ms + costB l m := by simp [sumCost]
theorem sumCost_bd (l : List MethD) (ms : List Int) : 0 ≤ sumCost l ms ∧ sumCost l ms ≤ 99 * ms.length := by
  induction ms with
  | nil => simp [sumCost]
  | cons m t ih =>
    have h := costB_bd l m
    have e : sumCost l (m :: t) = costB l m + sumCost l t := by simp [sumCost]
    rw [e]; simp only [List.length_cons]; omega

def stepsSum (l : List MethD) (x : List StepD) (k : Nat) : Int := sumCost l ((x.take k).map (·.meth))
theorem steps_snoc (l : List MethD) (x : List StepD) (k : Nat) (hk : k < x.length) : stepsSum l x (k + 1) = stepsSum l x k + costB l x[k].meth := by
  unfold stepsSum; rw [List.take_succ_eq_append_getElem hk, List.map_append]; exact sumCost_snoc _ _ _
theorem steps_bd (l : List MethD) (x : List StepD) (k : Nat) (hk : k ≤ x.length) : 0 ≤ stepsSum l x k ∧ stepsSum l x k ≤ 99 * k := by
  have := sumCost_bd l ((x.take k).map (·.meth)); rw [List.length_map, List.length_take, Nat.min_eq_left hk] at this; exact this
theorem steps_zero (l : List MethD) (x : List StepD) : stepsSum l x 0 = 0 := by simp [stepsSum, sumCost]
theorem steps_all (l : List MethD) (x : List StepD) (k : Nat) (h : k = x.length) : stepsSum l x k = sumCost l (x.map (·.meth)) := by unfold stepsSum; rw [h, List.take_length]
set_option maxRecDepth 100000 in
set_option maxHeartbeats 1600000 in
theorem specOrderCost_any (v : Value) (l : List MethD) (f : List Nat) (u : Value) (x : List StepD) (fx : List Nat) (w : World) (h : meths w v l f) (hx : steps w u x fx) (hn : x.length ≤ 1048576) :
    Calls Tryz.prog 25 #[v, u] w fun e w' => e = .returned (.int .i64 (sumCost l (x.map (·.meth)))) ∧ w = w' := by
  obtain ⟨a, cap, rfl⟩ := slR.form h
  obtain ⟨b, cap', rfl⟩ := slR.form hx
  have hla := slR.le_max h
  go_enter Tryz.func25, Tryz.ntmps25
  go_wp2
  go_loop [5, 6] (fun n i => ∃ k : Nat, i = .int .i64 k ∧ k ≤ x.length ∧ n = .int .i64 (stepsSum l x k)) (fun _ i => x.length - (intOf i).toNat)
  case atStart => exact ⟨0, rfl, Nat.zero_le _, by rw [steps_zero]⟩
  case round =>
    obtain ⟨k, rfl, hk, rfl⟩ := hrel
    have hbd := steps_bd l x k hk
    obtain ⟨hbd1, hbd2⟩ := hbd
    by_cases hlt : k < x.length
    · obtain ⟨g, c, fi, rfl, ⟨rfl, fe, i1, i2⟩, _, hc, _, _, _⟩ := slR.at hx k hlt
      have hc0 : w.cell? ⟨g, k * 2 + 1, none⟩ = _ := hc 1 _ rfl
      clear hc
      have HS := Lib.hid (steps_snoc l x k hlt)
      cases hin : inR x[k].meth 0 ((l.length : Int) - 1) with
      | false =>
        have Hf := Lib.hid (costB_out hin)
        go_wp2_with (go_at_call 39; refine (f39_any _ _ _ _).mono ?_; rintro e w' ⟨rfl, rfl⟩)
        go_round
        case rel => exact ⟨k + 1, by go_num, by omega, by rw [HS.out, Hf.out] <;> go_num⟩
        case measure => simp [intOf]; omega
      | true =>
        obtain ⟨q, hq, hql⟩ := in_nat hin
        rw [hq] at hin hc0 HS
        clear hq
        have hk0 : (0 : Int) ≤ (q : Int) := Int.natCast_nonneg _
        have hk1 : (q : Int) < (l.length : Int) := by omega
        obtain ⟨g2, vi, fi2, rfl, _, _, _, hc3, _, _⟩ := h.get q hql
        cases hcc : inR l[q].cost 0 99 with
        | false =>
          have Hf := Lib.hid (costB_no hin hql hcc)
          go_wp2_with (go_at_call 39; refine (f39_any _ _ _ _).mono ?_; rintro e w' ⟨rfl, rfl⟩)
          go_round
          case rel => exact ⟨k + 1, by go_num, by omega, by rw [HS.out, Hf.out] <;> go_num⟩
          case measure => simp [intOf]; omega
        | true =>
          have Hf := Lib.hid (costB_in hin hql hcc)
          have hr := inR_true hcc
          obtain ⟨hr1, hr2⟩ := hr
          go_wp2_with (go_at_call 39; refine (f39_any _ _ _ _).mono ?_; rintro e w' ⟨rfl, rfl⟩)
          go_round
          case rel => exact ⟨k + 1, by go_num, by omega, by rw [HS.out, Hf.out] <;> go_num⟩
          case measure => simp [intOf]; omega
    · have hkl : k = x.length := by omega
      go_wp2
      go_ret
      exact ⟨ret_int (steps_all l x _ (by first | rfl | exact hkl)), rfl⟩
end Go.Proofs.YtpdmdfkcaabnaaaGreat
