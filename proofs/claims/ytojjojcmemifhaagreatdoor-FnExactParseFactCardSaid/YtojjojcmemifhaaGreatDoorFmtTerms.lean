/- The texts of terms, separated by commas, of the program and of the reference. Conditions: not more than 2^20 terms; what the library's table reads as. -/
import Derived.Test.YtojjojcmemifhaaGreatDoorFmtStr
namespace Go.Proofs.YtojjojcmemifhaaGreatDoor
open Go.RowKit
set_option linter.unusedVariables false
set_option linter.unusedSimpArgs false
/-- A term's text. -/
def termS (t : Int) : List UInt8 := if isVarB t then 120 :: Lib.itoa (t - 10) else Lib.itoa t
theorem termS_var {t : Int} (h : isVarB t = true) : termS t = 120 :: Lib.itoa (t - 10) := by unfold termS; rw [if_pos h]
theorem termS_val {t : Int} (h : isVarB t = false) : termS t = Lib.itoa t := by unfold termS; rw [if_neg (by rw [h]; simp)]
theorem var_bd {t : Int} (h : isVarB t = true) : 10 ≤ t ∧ t ≤ 17 := by unfold isVarB at h; exact inR_true h
theorem termS_le {t : Int} (h : I64 t) : (termS t).length ≤ 22 := by
  cases hv : isVarB t with
  | true =>
    have hb := var_bd hv
    have := itoa_le (n := t - 10) ⟨by omega, by omega⟩
    rw [termS_var hv, List.length_cons]; omega
  | false => rw [termS_val hv]; have := itoa_le h; omega
def termsS (l : List Int) (by_ : List UInt8) : List UInt8 := Lib.join (l.map termS) by_
theorem termsS_len {l : List Int} (by_ : List UInt8) (hI : ∀ x ∈ l, I64 x) : (termsS l by_).length ≤ l.length * (22 + by_.length) := by
  have := join_length_le by_ 22 (l.map termS) (by intro x hx; obtain ⟨n, hn, rfl⟩ := List.mem_map.1 hx; exact termS_le (hI n hn))
  simpa [termsS] using this
theorem termsS_take {l : List Int} (by_ : List UInt8) {k : Nat} (hk : k < l.length) : termsS (l.take (k + 1)) by_ = if k = 0 then termS l[k] else termsS (l.take k) by_ ++ by_ ++ termS l[k] := join_take _ _ hk
theorem retB' {P : Program} {f : FuncId} {args : Array Value} {w : World} {b c : Bool} (h : Calls P f args w fun e w' => e = .returned (.bool b) ∧ w = w') (hb : b = c) : Calls P f args w fun e w' => e = .returned (.bool c) ∧ w = w' := hb ▸ h
set_option maxHeartbeats 800000 in
theorem l3Term_any (t : Int) (w : World) (hI : I64 t) :
    Calls Tryz.prog 203 #[.int .i64 t] w fun e w' => e = .returned (.string ⟨(termS t).toArray⟩) ∧ Below w.heap.size w w' := by
  cases hv : isVarB t with
  | true =>
    have hb := var_bd hv
    obtain ⟨h10, h17⟩ := hb
    have hI2 : I64 (t - 10) := ⟨by omega, by omega⟩
    have hw1 : IntKind.i64.wrap (t - 10) = t - 10 := IntWalk.i64_in _ (by omega)
    have hil := itoa_le hI2
    have Hf := Lib.hid (termS_var hv)
    have hq := retB' (f146_any t w) hv
    go_enter Tryz.func203, Tryz.ntmps203
    go_wp2_with (go_at_call 146; refine hq.mono ?_; rintro e w' ⟨rfl, rfl⟩)
    refine (specFormatInt_any (t - 10) _ hI2).mono ?_
    rintro e w1 ⟨rfl, hb1⟩
    have hns := numS_data (t - 10)
    rw [hns]
    clear hns
    go_wp2
    go_ret
    exact ⟨ret_str' (by rw [Hf.out]; apply ByteArray.ext; simp), hb1⟩
  | false =>
    have Hf := Lib.hid (termS_val hv)
    have hq := retB' (f146_any t w) hv
    go_enter Tryz.func203, Tryz.ntmps203
    go_wp2_with (go_at_call 146; refine hq.mono ?_; rintro e w' ⟨rfl, rfl⟩)
    refine (specFormatInt_any t _ hI).mono ?_
    rintro e w1 ⟨rfl, hb1⟩
    go_wp2
    go_ret
    exact ⟨ret_str' (by rw [Hf.out]; rfl), hb1⟩
set_option maxHeartbeats 800000 in
theorem termText_any (t : Int) (w : World) (hI : I64 t) (hT : Lib.TabBelow Tryz.prog w.heap.size w "internal/strconv.uint64pow10" .u64 Lib.pow10Tab) :
    Calls Tryz.prog 199 #[.int .i64 t] w fun e w' => e = .returned (.string ⟨(termS t).toArray⟩) ∧ Below w.heap.size w w' := by
  cases hv : isVarB t with
  | true =>
    have hb := var_bd hv
    obtain ⟨h10, h17⟩ := hb
    have hI2 : I64 (t - 10) := ⟨by omega, by omega⟩
    have hw1 : IntKind.i64.wrap (t - 10) = t - 10 := IntWalk.i64_in _ (by omega)
    have hil := itoa_le hI2
    have Hf := Lib.hid (termS_var hv)
    have hq := retB' (f58_any t w) hv
    go_enter Tryz.func199, Tryz.ntmps199
    go_wp2_with (go_at_call 58; refine hq.mono ?_; rintro e w' ⟨rfl, rfl⟩)
    refine (implFormatInt_any (t - 10) _ hI2 (hT _ (Below.refl _ _))).mono ?_
    rintro e w1 ⟨rfl, hb1⟩
    have hns := numS_data (t - 10)
    rw [hns]
    clear hns
    go_wp2
    go_ret
    exact ⟨ret_str' (by rw [Hf.out]; apply ByteArray.ext; simp), hb1⟩
  | false =>
    have Hf := Lib.hid (termS_val hv)
    have hq := retB' (f58_any t w) hv
    go_enter Tryz.func199, Tryz.ntmps199
    go_wp2_with (go_at_call 58; refine hq.mono ?_; rintro e w' ⟨rfl, rfl⟩)
    refine (implFormatInt_any t _ hI (hT _ (Below.refl _ _))).mono ?_
    rintro e w1 ⟨rfl, hb1⟩
    go_wp2
    go_ret
    exact ⟨ret_str' (by rw [Hf.out]; rfl), hb1⟩
set_option maxRecDepth 100000 in
set_option maxHeartbeats 1600000 in
theorem l3Terms_any (v : Value) (l : List Int) (f : List Nat) (w : World) (h : ints w v l f) (hn : l.length ≤ 1048576) :
    Calls Tryz.prog 137 #[v] w fun e w' => e = .returned (.string ⟨(termsS l [44]).toArray⟩) ∧ Below w.heap.size w w' := by
  obtain ⟨a, cap, rfl⟩ := slR.form h
  have hla := slR.le_max h
  have hI : ∀ x ∈ l, I64 x := by obtain ⟨o, _, _, hw⟩ := row_of_ints h; exact hw
  have HI := Lib.hid hI
  clear hI
  go_enter Tryz.func137, Tryz.ntmps137
  go_wp2
  go_loopw [3, 4] (fun t i wr => ∃ (k : Nat) (s : List UInt8), i = .int .i64 k ∧ k ≤ l.length ∧ t = .string ⟨s.toArray⟩ ∧ Hid (s = termsS (l.take k) [44]) ∧ Below w.heap.size w wr) (fun _ i _ => l.length - (intOf i).toNat)
  case atStart => exact ⟨0, [], rfl, Nat.zero_le _, rfl, Lib.hid (by simp [termsS, join_nil]), Below.refl _ _⟩
  case round =>
    obtain ⟨k, s, rfl, hk, rfl, HS, hbel⟩ := hrel
    by_cases hlt : k < l.length
    · obtain ⟨g, rfl, hc, _, hIk, _⟩ := (h.below' hbel).get k hlt
      have hkl : (k : Int) < (l.length : Int) := by omega
      have hsl : s.length ≤ 24117248 := by
        have h1 := termsS_len (l := l.take k) [44] (fun x hx => HI.out x (List.mem_of_mem_take hx))
        have h2 := congrArg List.length HS.out
        have h3 := List.length_take_le k l
        have h4 : (l.take k).length * (22 + [(44 : UInt8)].length) ≤ 1048576 * 23 := Nat.mul_le_mul (by omega) (by simp)
        omega
      have hil := termS_le hIk
      have HT := Lib.hid (termsS_take [44] hlt)
      by_cases hk0 : k = 0
      · have HF := Lib.hid (show termS l[k] = termsS (l.take (k + 1)) [44] by rw [HT.out, if_pos hk0])
        have hs0 : s = [] := by rw [HS.out, hk0]; rfl
        subst hs0
        have hgt : decide ((0 : Int) < (k : Int)) = false := by simp; omega
        have hgt' : ¬ (0 : Int) < (k : Int) := by omega
        clear hk0
        go_wp2_with fail
        refine (l3Term_any _ _ hIk).mono ?_
        rintro e w1 ⟨rfl, hb1⟩
        have hb2 := bt hbel hb1
        go_wp2
        go_roundw
        case rel => exact ⟨k + 1, termS l[k], by go_num, by omega, by first | rfl | (simp only [str_app]; done) | (simp; done), HF, hb2⟩
        case measure => simp [intOf]; omega
      · have HF := Lib.hid (show s ++ [44] ++ termS l[k] = termsS (l.take (k + 1)) [44] by rw [HT.out, if_neg hk0, ← HS.out])
        have hgt : decide ((0 : Int) < (k : Int)) = true := by simp; omega
        have hgt' : (0 : Int) < (k : Int) := by omega
        clear hk0
        go_wp2_with fail
        refine (l3Term_any _ _ hIk).mono ?_
        rintro e w1 ⟨rfl, hb1⟩
        have hb2 := bt hbel hb1
        go_wp2
        go_roundw
        case rel => exact ⟨k + 1, s ++ [44] ++ termS l[k], by go_num, by omega, by first | rfl | (simp only [str_app]; done) | (simp; done), HF, hb2⟩
        case measure => simp [intOf]; omega
    · have hkl : k = l.length := by omega
      have HF := Lib.hid (show s = termsS l [44] by rw [HS.out, hkl, List.take_length])
      clear hkl
      go_wp2
      go_ret
      exact ⟨ret_str' (by rw [HF.out]), hbel⟩
set_option maxRecDepth 100000 in
set_option maxHeartbeats 1600000 in
theorem termsText_any (v : Value) (l : List Int) (f : List Nat) (w : World) (h : ints w v l f) (hn : l.length ≤ 1048576) (hT : Lib.TabBelow Tryz.prog w.heap.size w "internal/strconv.uint64pow10" .u64 Lib.pow10Tab) :
    Calls Tryz.prog 135 #[v] w fun e w' => e = .returned (.string ⟨(termsS l [44]).toArray⟩) ∧ Below w.heap.size w w' := by
  obtain ⟨a, cap, rfl⟩ := slR.form h
  have hla := slR.le_max h
  have hI : ∀ x ∈ l, I64 x := by obtain ⟨o, _, _, hw⟩ := row_of_ints h; exact hw
  have HI := Lib.hid hI
  have HT := Lib.hid hT
  clear hI hT
  go_enter Tryz.func135, Tryz.ntmps135
  go_wp2
  go_loopw [3, 9] (fun u i wr => ∃ (k gu cu : Nat) (lo : List (List UInt8)) (fo : List Nat), i = .int .i64 k ∧ k ≤ l.length ∧ u = .slice (some ⟨gu, 0, none⟩) lo.length cu ∧ Hid (lo = (l.take k).map termS) ∧ grR 9 1 strR w.heap.size wr u lo fo ∧ Below w.heap.size w wr) (fun _ i _ => l.length - (intOf i).toNat)
  case atStart => exact ⟨0, _, _, [], _, rfl, Nat.zero_le _, rfl, Lib.hid rfl, grR.lit strR (Nat.le_refl _) (Nat.le_refl _), ba (Below.refl _ _)⟩
  case round =>
    obtain ⟨k, gu, cu, lo, fo, rfl, hk, rfl, Hlo, hgr, hbel⟩ := hrel
    have hll : lo.length ≤ 1048576 := by
      have h0 := congrArg List.length Hlo.out
      rw [List.length_map, List.length_take] at h0
      omega
    by_cases hlt : k < l.length
    · obtain ⟨g, rfl, hc, _, hIk, _⟩ := (h.below' hbel).get k hlt
      have hkl : (k : Int) < (l.length : Int) := by omega
      have HS := Lib.hid (show lo ++ [termS l[k]] = (l.take (k + 1)).map termS by rw [List.take_succ_eq_append_getElem hlt, List.map_append, Hlo.out]; rfl)
      go_wp2_with fail
      refine (termText_any l[k] _ hIk (Tab.on HT.out hbel)).mono ?_
      rintro e w1 ⟨rfl, hb1⟩
      have hgr1 := hgr.below' good_str hb1
      have hb2 := bt hbel hb1
      go_wp2_with (at_builtin; refine wpList_gr slStr good_str rfl _ _ rfl hgr1 hb2 rfl #[.string ⟨(termS l[k]).toArray⟩] (termS l[k]) [] ⟨rfl, rfl⟩ rfl (Fresh.nil _) (by simp) rfl (by simp [Value.oneCell']) (by omega) (by unfold maxLen; omega) ?_; intro g3 cap3 w2 f2 hgr3 hb3 hg3)
      go_roundw
      case rel => exact ⟨k + 1, g3, cap3, lo ++ [termS l[k]], f2, by go_num, by omega, by simp, HS, by simpa using hgr3, hb3⟩
      case measure => simp [intOf]; omega
    · have hkl : k = l.length := by omega
      have HS := Lib.hid (show lo = l.map termS by rw [Hlo.out, hkl, List.take_length])
      clear hkl
      have hjl : (Lib.join lo [44]).length ≤ 140737488355328 := by
        rw [HS.out]
        have h1 := termsS_len (l := l) [44] HI.out
        have h4 : l.length * (22 + [(44 : UInt8)].length) ≤ 1048576 * 23 := Nat.mul_le_mul hn (by simp)
        unfold termsS at h1
        omega
      have hj := join_any [44] hgr rfl (by omega) hjl
      rw [HS.out] at hj
      have Hll := Lib.hid (show lo.length = (l.map termS).length by rw [HS.out])
      rw [← Hll.out] at hj
      go_wp2_with fail
      refine hj.mono ?_
      rintro e w1 ⟨rfl, hb1⟩
      have hb2 := bt hbel hb1
      go_wp2
      go_ret
      exact ⟨rfl, hb2⟩
end Go.Proofs.YtojjojcmemifhaaGreatDoor
