/- FormatOrder of the program and of the reference. Conditions: not more than 2^20 steps; what the library's table reads as. -/
import Derived.Test.YthpgmhnlblobkaaDoorFmtStr
import Derived.Test.YthpgmhnlblobkaaDoorHStep
import Derived.Test.YthpgmhnlblobkaaDoorFmtRec
import Derived.Deep.RegionWith
namespace Go.Proofs.YthpgmhnlblobkaaDoor
open Go.RowKit
set_option linter.unusedVariables false
set_option linter.unusedSimpArgs false
def stepB (x : StepD) : Bool := inR x.atom 0 3 && inR x.meth 0 4
def stepS (x : StepD) : List UInt8 := Lib.itoa x.atom ++ ([47, 109] ++ Lib.itoa x.meth)
def stepsFS (l : List StepD) : List UInt8 := if l.all stepB then Lib.join (l.map stepS) [32] else []
theorem stepsFS_no {l : List StepD} {k : Nat} (hk : k < l.length) (h : stepB l[k] = false) : stepsFS l = [] := by
  unfold stepsFS
  rw [if_neg]
  intro ha
  have := List.all_eq_true.1 ha _ (List.getElem_mem hk)
  rw [h] at this; cases this
theorem stepsFS_yes {l : List StepD} (h : ∀ j (hj : j < l.length), stepB l[j] = true) : stepsFS l = Lib.join (l.map stepS) [32] := by
  unfold stepsFS
  rw [if_pos]
  rw [List.all_eq_true]
  intro x hx
  obtain ⟨j, hj, rfl⟩ := List.getElem_of_mem hx
  exact h j hj
theorem stepS_len (x : StepD) (h1 : I64 x.atom) (h2 : I64 x.meth) : (stepS x).length ≤ 44 := by
  have := itoa_le h1; have := itoa_le h2
  simp only [stepS, List.length_append, List.length_cons, List.length_nil]; omega
theorem steps_join_len {l : List StepD} (hI : ∀ x ∈ l, I64 x.atom ∧ I64 x.meth) (hn : l.length ≤ 1048576) (k : Nat) : (Lib.join ((l.take k).map stepS) [32]).length ≤ 47185920 := by
  have h1 := join_length_le [32] 44 ((l.take k).map stepS) (by
    intro x hx
    obtain ⟨y, hy, rfl⟩ := List.mem_map.1 hx
    obtain ⟨h1, h2⟩ := hI y (List.mem_of_mem_take hy)
    exact stepS_len y h1 h2)
  rw [List.length_map] at h1
  have h3 : (l.take k).length ≤ l.length := by rw [List.length_take]; omega
  have h4 : (l.take k).length * (44 + ([32] : List UInt8).length) ≤ 1048576 * 45 := Nat.mul_le_mul (by omega) (by simp)
  omega
theorem steps_wf {w : World} {v : Value} {l : List StepD} {f : List Nat} (h : steps w v l f) : ∀ x ∈ l, I64 x.atom ∧ I64 x.meth := by
  intro x hx
  obtain ⟨a, cap, rfl⟩ := slR.form h
  obtain ⟨k, hk, rfl⟩ := List.mem_iff_getElem.1 hx
  obtain ⟨g, c, fi, rfl, ⟨rfl, hf, h1, h2⟩, _⟩ := slR.at h k hk
  exact ⟨h1, h2⟩
theorem cell_grown {w w' : World} {row : Option Nat} {a : Addr} {u : Value} (h : w.cell? a = some u) (hg : w.grownBy w' row) (hlt : a.block < w.heap.size) (hne : some a.block ≠ row) : w'.cell? a = some u := by
  have h1 := hg.block a.block hlt hne
  unfold World.cell? at h ⊢
  first | (rw [h1]; exact h) | (simp only [h1]; exact h)
set_option maxRecDepth 100000 in
set_option maxHeartbeats 3200000 in
theorem specFormatOrder_any (v : Value) (l : List StepD) (f : List Nat) (w : World) (h : steps w v l f) (hn : l.length ≤ 1048576) :
    Calls Tryd.prog 22 #[v] w fun e w' => e = .returned (.string ⟨(stepsFS l).toArray⟩) ∧ Below w.heap.size w w' := by
  obtain ⟨a, cap, rfl⟩ := slR.form h
  have hla := slR.le_max h
  have HI := Lib.hid (steps_wf h)
  go_enter Tryd.func22, Tryd.ntmps22
  go_wp2
  go_loopw [3, 4] (fun t i wr => ∃ (k : Nat) (s : List UInt8), i = .int .i64 k ∧ k ≤ l.length ∧ t = .string ⟨s.toArray⟩ ∧ Hid (s = Lib.join ((l.take k).map stepS) [32]) ∧ Hid (∀ j (hj : j < l.length), j < k → stepB l[j] = true) ∧ Below w.heap.size w wr) (fun _ i _ => l.length - (intOf i).toNat)
  case atStart => exact ⟨0, [], rfl, Nat.zero_le _, rfl, Lib.hid (by simp [join_nil]), Lib.hid (fun j hj h0 => by omega), Below.refl _ _⟩
  case round =>
    obtain ⟨k, s, rfl, hk, rfl, HS, HB, hbel⟩ := hrel
    by_cases hlt : k < l.length
    · obtain ⟨g, c, fi, rfl, ⟨rfl, hf, hIa, hIm⟩, _, hc, _, _, _⟩ := slR.at (h.below' hbel) k hlt
      have hc0 : wr.cell? ⟨g, k * 2, none⟩ = some (.int .i64 l[k].atom) := by have := hc 0 _ rfl; simpa using this
      have hc1 : wr.cell? ⟨g, k * 2 + 1, none⟩ = some (.int .i64 l[k].meth) := by have := hc 1 _ rfl; simpa using this
      clear hc
      have HX0 := Lib.hid hlt
      obtain ⟨⟨xa, xm⟩, hx⟩ : ∃ x, x = l[k] := ⟨_, rfl⟩
      replace hc0 : wr.cell? ⟨g, k * 2, none⟩ = some (.int .i64 xa) := by have e := congrArg StepD.atom hx; simp only at e; rw [e]; exact hc0
      replace hc1 : wr.cell? ⟨g, k * 2 + 1, none⟩ = some (.int .i64 xm) := by have e := congrArg StepD.meth hx; simp only at e; rw [e]; exact hc1
      replace hIa : I64 xa := by have e := congrArg StepD.atom hx; simp only at e; rw [e]; exact hIa
      replace hIm : I64 xm := by have e := congrArg StepD.meth hx; simp only at e; rw [e]; exact hIm
      have HX := Lib.hid hx
      clear hx
      have hkl : (k : Int) < (l.length : Int) := by omega
      have hk0' : (0 : Int) ≤ (k : Int) := Int.natCast_nonneg _
      have hsl : s.length ≤ 47185920 := by rw [HS.out]; exact steps_join_len HI.out hn k
      have hi1 := itoa_le hIa
      have hi2 := itoa_le hIm
      cases ha : inR xa 0 3 with
      | false =>
        have HF := Lib.hid (stepsFS_no hlt (show stepB l[k] = false by refine (congrArg stepB HX.out).symm.trans ?_; unfold stepB; rw [ha]; rfl))
        go_wp2_with (go_at_call 72; refine (f72_any _ _ _ _).mono ?_; rintro e w' ⟨rfl, rfl⟩)
        go_ret
        exact ⟨ret_str' (by rw [HF.out]), hbel⟩
      | true =>
        cases hm : inR xm 0 4 with
        | false =>
          have HF := Lib.hid (stepsFS_no hlt (show stepB l[k] = false by refine (congrArg stepB HX.out).symm.trans ?_; unfold stepB; rw [ha, hm]; rfl))
          go_wp2_with (go_at_call 72; refine (f72_any _ _ _ _).mono ?_; rintro e w' ⟨rfl, rfl⟩)
          go_ret
          exact ⟨ret_str' (by rw [HF.out]), hbel⟩
        | true =>
          have HT := Lib.hid (show Lib.join ((l.take (k + 1)).map stepS) [32] = if k = 0 then stepS ⟨xa, xm⟩ else Lib.join ((l.take k).map stepS) [32] ++ [32] ++ stepS ⟨xa, xm⟩ by rw [HX.out]; exact join_take stepS [32] hlt)
          have HB2 := Lib.hid (show ∀ j (hj : j < l.length), j < k + 1 → stepB l[j] = true from fun j hj h1 => by
            rcases Nat.lt_or_ge j k with h2 | h2
            · exact HB.out j hj h2
            · obtain rfl : j = k := by omega
              refine (congrArg stepB HX.out).symm.trans ?_; unfold stepB; rw [ha, hm]; rfl)
          have L0 : ∀ y : Lat wr, y.wd.cell? ⟨g, k * 2, none⟩ = some (.int .i64 xa) := fun y => y.cell hc0
          have L1 : ∀ y : Lat wr, y.wd.cell? ⟨g, k * 2 + 1, none⟩ = some (.int .i64 xm) := fun y => y.cell hc1
          by_cases hk0 : k = 0
          · have HF := Lib.hid (show stepS ⟨xa, xm⟩ = Lib.join ((l.take (k + 1)).map stepS) [32] by rw [HT.out, if_pos hk0])
            have hs0 : s = [] := by rw [HS.out, hk0]; rfl
            subst hs0
            have hgt : decide ((0 : Int) < (k : Int)) = false := by simp; omega
            have hgt' : ¬ (0 : Int) < (k : Int) := by omega
            clear hk0
            go_wp2_with (go_at_call 72; refine (f72_any _ _ _ _).mono ?_; rintro e w' ⟨rfl, rfl⟩)
            refine wp_region_lat wr (by kernel_rfl) (by kernel_rfl) ?_
            repeat (go_big_quiet_step ((first
              | (go_at_call_of 14 (Value.int .i64 xa); exact Lat.of (retStr (specFormatInt_any xa _ hIa) (numS_data xa)))
              | (go_at_call_of 14 (Value.int .i64 xm); exact Lat.of (retStr (specFormatInt_any xm _ hIm) (numS_data xm))))))
            refine wpQuiet_nil ?_
            intro _ hw'
            obtain ⟨x1, hw''⟩ := hw'
            subst hw''
            have hb2 := bt hbel x1.ok
            clear L0 L1
            go_wp2
            go_roundw
            case rel => exact ⟨k + 1, stepS ⟨xa, xm⟩, by go_num, by omega, by first | rfl | (congr 1; apply ByteArray.ext; simp [stepS]), HF, HB2, hb2⟩
            case measure => simp [intOf]; omega
          · have HF := Lib.hid (show s ++ [32] ++ stepS ⟨xa, xm⟩ = Lib.join ((l.take (k + 1)).map stepS) [32] by rw [HT.out, if_neg hk0, ← HS.out])
            have hgt : decide ((0 : Int) < (k : Int)) = true := by simp; omega
            have hgt' : (0 : Int) < (k : Int) := by omega
            clear hk0
            go_wp2_with (go_at_call 72; refine (f72_any _ _ _ _).mono ?_; rintro e w' ⟨rfl, rfl⟩)
            refine wp_region_lat wr (by kernel_rfl) (by kernel_rfl) ?_
            repeat (go_big_quiet_step ((first
              | (go_at_call_of 14 (Value.int .i64 xa); exact Lat.of (retStr (specFormatInt_any xa _ hIa) (numS_data xa)))
              | (go_at_call_of 14 (Value.int .i64 xm); exact Lat.of (retStr (specFormatInt_any xm _ hIm) (numS_data xm))))))
            refine wpQuiet_nil ?_
            intro _ hw'
            obtain ⟨x1, hw''⟩ := hw'
            subst hw''
            have hb2 := bt hbel x1.ok
            clear L0 L1
            go_wp2
            go_roundw
            case rel => exact ⟨k + 1, s ++ [32] ++ stepS ⟨xa, xm⟩, by go_num, by omega, by first | rfl | (congr 1; apply ByteArray.ext; simp [stepS]), HF, HB2, hb2⟩
            case measure => simp [intOf]; omega
    · have hkl : k = l.length := by omega
      have HF := Lib.hid (show stepsFS l = s by rw [stepsFS_yes (fun j hj => HB.out j hj (by omega)), HS.out, hkl, List.take_length])
      clear hkl
      go_wp2
      go_ret
      exact ⟨ret_str' (by rw [HF.out]), hbel⟩
theorem fi_small (x : Int) (w : World) (h : 0 ≤ x ∧ x ≤ 99) : Calls Tryd.prog 15 #[.int .i64 x] w fun e w' => e = .returned (.string ⟨(Lib.itoa x).toArray⟩) ∧ w = w' := by
  obtain ⟨n, rfl⟩ := Int.eq_ofNat_of_zero_le h.1
  exact implFormatInt_small n w (by omega)
set_option maxRecDepth 100000 in
set_option maxHeartbeats 3200000 in
theorem implFormatOrder_any (v : Value) (l : List StepD) (f : List Nat) (w : World) (h : steps w v l f) (hn : l.length ≤ 1048576) (hT : Lib.TabBelow Tryd.prog w.heap.size w "internal/strconv.uint64pow10" .u64 Lib.pow10Tab) :
    Calls Tryd.prog 24 #[v] w fun e w' => e = .returned (.string ⟨(stepsFS l).toArray⟩) ∧ Below w.heap.size w w' := by
  obtain ⟨a, cap, rfl⟩ := slR.form h
  have hla := slR.le_max h
  have HI := Lib.hid (steps_wf h)
  go_enter Tryd.func24, Tryd.ntmps24
  go_wp2
  go_loopw [3, 9] (fun u i wr => ∃ (k gu cu : Nat) (lo : List (List UInt8)) (fo : List Nat), i = .int .i64 k ∧ k ≤ l.length ∧ u = .slice (some ⟨gu, 0, none⟩) lo.length cu ∧ Hid (lo = (l.take k).map stepS) ∧ Hid (∀ j (hj : j < l.length), j < k → stepB l[j] = true) ∧ grR 9 1 strR w.heap.size wr u lo fo ∧ Below w.heap.size w wr) (fun _ i _ => l.length - (intOf i).toNat)
  case atStart => exact ⟨0, _, _, [], _, rfl, Nat.zero_le _, rfl, Lib.hid rfl, Lib.hid (fun j hj h0 => by omega), grR.lit strR (Nat.le_refl _) (Nat.le_refl _), ba (Below.refl _ _)⟩
  case round =>
    obtain ⟨k, gu, cu, lo, fo, rfl, hk, rfl, Hlo, HB, hgr, hbel⟩ := hrel
    have hll : lo.length ≤ 1048576 := by
      have h0 := congrArg List.length Hlo.out
      rw [List.length_map, List.length_take] at h0
      omega
    by_cases hlt : k < l.length
    · obtain ⟨g, c, fi, rfl, ⟨rfl, hf, hIa, hIm⟩, _, hc, _, _, _⟩ := slR.at (h.below' hbel) k hlt
      have hc0 : wr.cell? ⟨g, k * 2, none⟩ = some (.int .i64 l[k].atom) := by have := hc 0 _ rfl; simpa using this
      have hc1 : wr.cell? ⟨g, k * 2 + 1, none⟩ = some (.int .i64 l[k].meth) := by have := hc 1 _ rfl; simpa using this
      clear hc
      have HX0 := Lib.hid hlt
      obtain ⟨⟨xa, xm⟩, hx⟩ : ∃ x, x = l[k] := ⟨_, rfl⟩
      replace hc0 : wr.cell? ⟨g, k * 2, none⟩ = some (.int .i64 xa) := by have e := congrArg StepD.atom hx; simp only at e; rw [e]; exact hc0
      replace hc1 : wr.cell? ⟨g, k * 2 + 1, none⟩ = some (.int .i64 xm) := by have e := congrArg StepD.meth hx; simp only at e; rw [e]; exact hc1
      replace hIa : I64 xa := by have e := congrArg StepD.atom hx; simp only at e; rw [e]; exact hIa
      replace hIm : I64 xm := by have e := congrArg StepD.meth hx; simp only at e; rw [e]; exact hIm
      have HX := Lib.hid hx
      clear hx
      have hkl : (k : Int) < (l.length : Int) := by omega
      have hk0' : (0 : Int) ≤ (k : Int) := Int.natCast_nonneg _
      have hi1 := itoa_le hIa
      have hi2 := itoa_le hIm
      have b0 : (wr.alloc (.cells #[.int .i64 xa, .int .i64 xm] 105)).cell? ⟨wr.heap.size, 0, none⟩ = some (.int .i64 xa) := cell_new wr _ _ 0 _ rfl
      have b1 : (wr.alloc (.cells #[.int .i64 xa, .int .i64 xm] 105)).cell? ⟨wr.heap.size, 1, none⟩ = some (.int .i64 xm) := cell_new wr _ _ 1 _ rfl
      cases ha : inR xa 0 3 with
      | false =>
        have HF := Lib.hid (stepsFS_no hlt (show stepB l[k] = false by refine (congrArg stepB HX.out).symm.trans ?_; unfold stepB; rw [ha]; rfl))
        go_wp2_with (go_at_call 74; refine (f74_any _ _ _ _).mono ?_; rintro e w' ⟨rfl, rfl⟩)
        go_ret
        exact ⟨ret_str' (by rw [HF.out]), ba hbel⟩
      | true =>
        cases hm : inR xm 0 4 with
        | false =>
          have HF := Lib.hid (stepsFS_no hlt (show stepB l[k] = false by refine (congrArg stepB HX.out).symm.trans ?_; unfold stepB; rw [ha, hm]; rfl))
          go_wp2_with (go_at_call 74; refine (f74_any _ _ _ _).mono ?_; rintro e w' ⟨rfl, rfl⟩)
          go_ret
          exact ⟨ret_str' (by rw [HF.out]), ba hbel⟩
        | true =>
          have HB2 := Lib.hid (show ∀ j (hj : j < l.length), j < k + 1 → stepB l[j] = true from fun j hj h1 => by
            rcases Nat.lt_or_ge j k with h2 | h2
            · exact HB.out j hj h2
            · obtain rfl : j = k := by omega
              refine (congrArg stepB HX.out).symm.trans ?_; unfold stepB; rw [ha, hm]; rfl)
          have HS := Lib.hid (show lo ++ [stepS ⟨xa, xm⟩] = (l.take (k + 1)).map stepS by rw [List.take_succ_eq_append_getElem hlt, List.map_append, Hlo.out, HX.out]; rfl)
          have Hap := Lib.hid (show Value.string ((⟨(Lib.itoa xa).toArray⟩ : ByteArray) ++ ⟨#[47, 109]⟩ ++ ⟨(Lib.itoa xm).toArray⟩) = Value.string ⟨(stepS ⟨xa, xm⟩).toArray⟩ by congr 1; apply ByteArray.ext; simp [stepS])
          have hra := inR_true ha
          have hrm := inR_true hm
          obtain ⟨q1, q2⟩ := hra
          obtain ⟨q3, q4⟩ := hrm
          obtain ⟨w0, hw0⟩ : ∃ w0, w0 = wr.alloc (.cells #[.int .i64 xa, .int .i64 xm] 105) := ⟨_, rfl⟩
          have hba : Below wr.heap.size wr w0 := by rw [hw0]; exact ba (Below.refl _ _)
          go_wp2_with (go_at_call 74; refine (f74_any _ _ _ _).mono ?_; rintro e w' ⟨rfl, rfl⟩)
          rw [← hw0] at b0 b1 ⊢
          have hgr1 := hgr.below' good_str hba
          have hb1 := bt hbel hba
          have hszb : wr.heap.size < w0.heap.size := by rw [hw0]; simp only [World.alloc, Array.size_push]; omega
          have hgu : gu < wr.heap.size := (strs_cells hgr rfl).2.1
          clear hw0
          have hls : wr.heap.size < w0.heap.size := hszb
          have hne : some wr.heap.size ≠ (Value.slice (some ⟨gu, 0, none⟩) lo.length cu).ownBlock := by
            intro e
            have e2 : wr.heap.size = gu := by simpa [Value.ownBlock] using e
            omega
          have hz1 : ¬ 9223372036854775807 < (Lib.itoa xa).length + 2 := by omega
          have hz2 : ¬ 9223372036854775807 < (Lib.itoa xa).length + 2 + (Lib.itoa xm).length := by omega
          go_region_held3 (fun w' => w'.cell? ⟨wr.heap.size, 0, none⟩ = some (.int .i64 xa) ∧ w'.cell? ⟨wr.heap.size, 1, none⟩ = some (.int .i64 xm)) (first | exact ⟨b0, b1⟩ | exact ⟨cell_al b0 _, cell_al b1 _⟩ | exact ⟨cell_grown (w := w0.drew) b0 hg4 hls hne, cell_grown (w := w0.drew) b1 hg4 hls hne⟩)
            (first
              | (go_at_call_of 15 (Value.int .i64 xa); refine (fi_small xa _ ⟨by omega, by omega⟩).mono ?_; rintro e w' ⟨rfl, rfl⟩)
              | (go_at_call_of 15 (Value.int .i64 xm); refine (fi_small xm _ ⟨by omega, by omega⟩).mono ?_; rintro e w' ⟨rfl, rfl⟩)
              | (change if _ = true then Oper.wp _ _ _ ((w0.drew).alloc (.cells #[Value.string ((⟨(Lib.itoa xa).toArray⟩ : ByteArray) ++ ⟨#[47, 109]⟩ ++ ⟨(Lib.itoa xm).toArray⟩)] 9)) _ _ else _; (refine step_gr slStr good_str (by rfl) _ _ (by rfl) (hgr1.below' good_str (by repeat (first | exact Below.refl _ _ | refine bdr ?_))) (bt hb1 (by repeat (first | exact Below.refl _ _ | refine bdr ?_))) (by rfl) #[.string _] (stepS ⟨xa, xm⟩) [] ⟨congrArg (fun x => [x]) Hap.out, rfl⟩ (by rfl) (Fresh.nil _) (by simp) (by rfl) (by simp [Value.oneCell']) (by omega) (by unfold maxLen; omega) ?_; intro g4 cap4 w4 f4 hgr4 hb4 hg4)))
          go_wp2
          go_roundw
          case rel => exact ⟨k + 1, g4, cap4, lo ++ [stepS ⟨xa, xm⟩], f4, by go_num, by omega, by simp, HS, HB2, by simpa using hgr4, hb4⟩
          case measure => simp [intOf]; omega
    · have hkl : k = l.length := by omega
      have HS := Lib.hid (show lo = l.map stepS by rw [Hlo.out, hkl, List.take_length])
      have HF := Lib.hid (show stepsFS l = Lib.join (l.map stepS) [32] by rw [stepsFS_yes (fun j hj => HB.out j hj (by omega))])
      clear hkl
      have hjl : (Lib.join lo [32]).length ≤ 140737488355328 := by
        rw [HS.out]
        have h1 := steps_join_len HI.out hn l.length
        rw [List.take_length] at h1
        omega
      have hj := join_any [32] hgr rfl (by omega) hjl
      rw [HS.out] at hj
      have Hll := Lib.hid (show lo.length = (l.map stepS).length by rw [HS.out])
      rw [← Hll.out] at hj
      go_wp2_with fail
      refine hj.mono ?_
      rintro e w1 ⟨rfl, hb1⟩
      have hb2 := bt hbel hb1
      go_wp2
      go_ret
      exact ⟨ret_str' (by rw [HF.out]), hb2⟩
end Go.Proofs.YthpgmhnlblobkaaDoor
