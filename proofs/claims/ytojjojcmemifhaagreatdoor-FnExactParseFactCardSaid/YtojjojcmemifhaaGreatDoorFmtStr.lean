/- joined of the program and l2List of the reference: numbers, separated. Conditions: not more than 2^20 numbers; what the library's table reads as. -/
import Derived.Test.YtojjojcmemifhaaGreatDoorFmtL
import Derived.Test.YtojjojcmemifhaaGreatDoorFmtInt
import Derived.Test.YtojjojcmemifhaaGreatDoorGrow
import Derived.Test.YtojjojcmemifhaaGreatDoorFacts0
import Derived.Lib.AppendIntMem
namespace Go.Proofs.YtojjojcmemifhaaGreatDoor
open Go.RowKit
set_option linter.unusedVariables false
set_option linter.unusedSimpArgs false
/-- A text in one cell. -/
def strR : Rd (List UInt8) := fun _ cs d f => cs = [.string ⟨d.toArray⟩] ∧ f = []
theorem good_str : Good strR := ⟨fun h _ => h, fun h => by rw [h.2]; simp⟩
theorem infoStr : (Tryz.prog.info? 9).map (fun i => (i.zero, i.size, i.bytes)) = some (some (.string ⟨#[]⟩), 1, 16) := by kernel_rfl
theorem slStr : SlT Tryz.prog 122 9 (.string ⟨#[]⟩) 1 16 := slT_of Tryz.underlying122 infoStr rfl (by decide)
theorem all_strs_inv {w : World} {rows : List (List Value)} {l : List (List UInt8)} {fs : List (List Nat)} (h : All strR w rows l fs) : rows.flatten = l.map (fun x => Value.string ⟨x.toArray⟩) := by
  induction h with
  | nil => rfl
  | cons h1 _ ih => obtain ⟨rfl, rfl⟩ := h1; simp only [List.flatten_cons, ih]; rfl
/-- The cells of a slice of texts of the call's own. -/
theorem strs_cells {B : Nat} {w : World} {g cap n : Nat} {l : List (List UInt8)} {f : List Nat} (h : grR 9 1 strR B w (.slice (some ⟨g, 0, none⟩) n cap) l f) (hn : n = l.length) :
    (∀ (j : Nat) (x : ByteArray), (l.map fun y => (⟨y.toArray⟩ : ByteArray))[j]? = some x → w.cell? ⟨g, 0 + j, none⟩ = some (.string x)) ∧ g < w.heap.size ∧ n ≤ cap := by
  subst hn
  obtain ⟨rows, fs, ha, hl, ho, rfl, hfr⟩ := h
  have hr := own_row ho
  rw [all_strs_inv ha] at hr
  have hlt := (own_lt ho g rfl).2
  have hcap : l.length ≤ cap := by
    rcases hr.2 with ⟨_, hv, h0, ho'⟩ | ⟨g', cap', cur, hv, _, _, h1, _⟩
    · cases ho'
    · cases hv; exact h1
  refine ⟨fun j x hx => ?_, hlt, hcap⟩
  have hj : j < l.length := by
    rcases Nat.lt_or_ge j l.length with h | h
    · exact h
    · rw [List.getElem?_eq_none (by simpa using h)] at hx; cases hx
  obtain ⟨g', hg, hg2, hc, _⟩ := hr.at (by omega)
  cases hg2
  rw [Nat.zero_add]
  refine hc j _ ?_
  simp only [List.getElem?_map, List.getElem?_eq_getElem hj, Option.map_some, Option.some.injEq] at hx ⊢
  rw [← hx]
theorem map_data (l : List (List UInt8)) : (l.map fun y => (⟨y.toArray⟩ : ByteArray)).map (·.data.toList) = l := by
  rw [List.map_map]
  conv => rhs; rw [← List.map_id l]
  congr 1
/-- strings.Join of a slice of texts of the call's own. -/
theorem join_any {B : Nat} {w : World} {g cap n : Nat} {l : List (List UInt8)} {f : List Nat} (sep : List UInt8) (h : grR 9 1 strR B w (.slice (some ⟨g, 0, none⟩) n cap) l f) (hn : n = l.length) (h1 : l.length ≤ 1048577) (h2 : (Lib.join l sep).length ≤ 140737488355328) :
    Calls Tryz.prog 136 #[.slice (some ⟨g, 0, none⟩) n cap, .string ⟨sep.toArray⟩] w fun e w' => e = .returned (.string ⟨(Lib.join l sep).toArray⟩) ∧ Below w.heap.size w w' := by
  obtain ⟨hc, hg, hcap⟩ := strs_cells h hn
  subst hn
  have hj := Tryz.strings_Join g 0 cap (l.map fun y => (⟨y.toArray⟩ : ByteArray)) ⟨sep.toArray⟩ w hc hg (by simp; omega) (by simpa using hcap) (by rw [map_data]; exact h2)
  rw [map_data, List.length_map] at hj
  exact hj
theorem numS_data (n : Int) : (numS n) = ⟨(Lib.itoa n).toArray⟩ := rfl
theorem str_app (a b : List UInt8) : (⟨a.toArray⟩ : ByteArray) ++ ⟨b.toArray⟩ = ⟨(a ++ b).toArray⟩ := by
  apply ByteArray.ext; simp
theorem Tab.on {w w' : World} (h : Lib.TabBelow Tryz.prog w.heap.size w "internal/strconv.uint64pow10" .u64 Lib.pow10Tab) (hb : Below w.heap.size w w') : Lib.TabBelow Tryz.prog w'.heap.size w' "internal/strconv.uint64pow10" .u64 Lib.pow10Tab :=
  fun w2 h2 => h w2 (bt hb h2)
set_option maxRecDepth 100000 in
set_option maxHeartbeats 1600000 in
theorem l2List_any (v : Value) (l : List Int) (f : List Nat) (w : World) (h : ints w v l f) (hn : l.length ≤ 1048576) :
    Calls Tryz.prog 114 #[v] w fun e w' => e = .returned (.string ⟨(listS l [44]).toArray⟩) ∧ Below w.heap.size w w' := by
  obtain ⟨a, cap, rfl⟩ := slR.form h
  have hla := slR.le_max h
  have hI : ∀ x ∈ l, I64 x := by obtain ⟨o, _, _, hw⟩ := row_of_ints h; exact hw
  have HI := Lib.hid hI
  clear hI
  go_enter Tryz.func114, Tryz.ntmps114
  go_wp2
  go_loopw [3, 4] (fun t i wr => ∃ (k : Nat) (s : List UInt8), i = .int .i64 k ∧ k ≤ l.length ∧ t = .string ⟨s.toArray⟩ ∧ Hid (s = listS (l.take k) [44]) ∧ Below w.heap.size w wr) (fun _ i _ => l.length - (intOf i).toNat)
  case atStart => exact ⟨0, [], rfl, Nat.zero_le _, rfl, Lib.hid (by simp [listS, join_nil]), Below.refl _ _⟩
  case round =>
    obtain ⟨k, s, rfl, hk, rfl, HS, hbel⟩ := hrel
    by_cases hlt : k < l.length
    · obtain ⟨g, rfl, hc, _, hIk, _⟩ := (h.below' hbel).get k hlt
      have hkl : (k : Int) < (l.length : Int) := by omega
      have hsl : s.length ≤ 23068672 := by
        have h1 := listS_len (l := l.take k) [44] (fun x hx => HI.out x (List.mem_of_mem_take hx))
        have h2 := congrArg List.length HS.out
        have h3 := List.length_take_le k l
        have h4 : (l.take k).length * (21 + [(44 : UInt8)].length) ≤ 1048576 * 22 := Nat.mul_le_mul (by omega) (by simp)
        omega
      have hil := itoa_le hIk
      have HT := Lib.hid (listS_take [44] hlt)
      by_cases hk0 : k = 0
      · have HF := Lib.hid (show Lib.itoa l[k] = listS (l.take (k + 1)) [44] by rw [HT.out, if_pos hk0])
        have hs0 : s = [] := by rw [HS.out, hk0]; rfl
        subst hs0
        have hgt : decide ((0 : Int) < (k : Int)) = false := by simp; omega
        have hgt' : ¬ (0 : Int) < (k : Int) := by omega
        clear hk0
        go_wp2_with fail
        refine (specFormatInt_any _ _ hIk).mono ?_
        rintro e w1 ⟨rfl, hb1⟩
        have hb2 := bt hbel hb1
        have hns := numS_data l[k]
        rw [hns]
        clear hns
        go_wp2
        go_roundw
        case rel => exact ⟨k + 1, Lib.itoa l[k], by go_num, by omega, by first | rfl | (simp only [str_app]; done) | (simp; done), HF, hb2⟩
        case measure => simp [intOf]; omega
      · have HF := Lib.hid (show s ++ [44] ++ Lib.itoa l[k] = listS (l.take (k + 1)) [44] by rw [HT.out, if_neg hk0, ← HS.out])
        have hgt : decide ((0 : Int) < (k : Int)) = true := by simp; omega
        have hgt' : (0 : Int) < (k : Int) := by omega
        clear hk0
        go_wp2_with fail
        refine (specFormatInt_any _ _ hIk).mono ?_
        rintro e w1 ⟨rfl, hb1⟩
        have hb2 := bt hbel hb1
        have hns := numS_data l[k]
        rw [hns]
        clear hns
        go_wp2
        go_roundw
        case rel => exact ⟨k + 1, s ++ [44] ++ Lib.itoa l[k], by go_num, by omega, by first | rfl | (simp only [str_app]; done) | (simp; done), HF, hb2⟩
        case measure => simp [intOf]; omega
    · have hkl : k = l.length := by omega
      have HF := Lib.hid (show s = listS l [44] by rw [HS.out, hkl, List.take_length])
      clear hkl
      go_wp2
      go_ret
      exact ⟨ret_str' (by rw [HF.out]), hbel⟩
set_option maxRecDepth 100000 in
set_option maxHeartbeats 1600000 in
theorem joined_any (v : Value) (l : List Int) (f : List Nat) (sep : List UInt8) (hsep : sep.length ≤ 1) (w : World) (h : ints w v l f) (hn : l.length ≤ 1048576) (hT : Lib.TabBelow Tryz.prog w.heap.size w "internal/strconv.uint64pow10" .u64 Lib.pow10Tab) :
    Calls Tryz.prog 105 #[v, .string ⟨sep.toArray⟩] w fun e w' => e = .returned (.string ⟨(listS l sep).toArray⟩) ∧ Below w.heap.size w w' := by
  obtain ⟨a, cap, rfl⟩ := slR.form h
  have hla := slR.le_max h
  have hI : ∀ x ∈ l, I64 x := by obtain ⟨o, _, _, hw⟩ := row_of_ints h; exact hw
  have HI := Lib.hid hI
  have HT := Lib.hid hT
  clear hI hT
  go_enter Tryz.func105, Tryz.ntmps105
  go_wp2
  go_loopw [5, 11] (fun u i wr => ∃ (k gu cu : Nat) (lo : List (List UInt8)) (fo : List Nat), i = .int .i64 k ∧ k ≤ l.length ∧ u = .slice (some ⟨gu, 0, none⟩) lo.length cu ∧ Hid (lo = (l.take k).map Lib.itoa) ∧ grR 9 1 strR w.heap.size wr u lo fo ∧ Below w.heap.size w wr) (fun _ i _ => l.length - (intOf i).toNat)
  case atStart => exact ⟨0, _, _, [], _, rfl, Nat.zero_le _, rfl, Lib.hid rfl, grR.lit strR (Nat.le_refl _) (Nat.le_refl _), ba (Below.refl _ _)⟩
  case round =>
    obtain ⟨k, gu, cu, lo, fo, rfl, hk, rfl, Hlo, hgr, hbel⟩ := hrel
    have hll : lo.length ≤ 1048576 := by
      have h0 := congrArg List.length Hlo.out
      rw [List.length_map, List.length_take] at h0
      omega
    by_cases hlt : k < l.length
    · obtain ⟨g, rfl, hc, _, hIk, _⟩ := (h.below' hbel).get k hlt
      have hkl : (k : Int) < (l.length : Int) := by omega
      have HS := Lib.hid (show lo ++ [Lib.itoa l[k]] = (l.take (k + 1)).map Lib.itoa by rw [List.take_succ_eq_append_getElem hlt, List.map_append, Hlo.out]; rfl)
      go_wp2_with fail
      refine (implFormatInt_any l[k] _ hIk (HT.out _ hbel)).mono ?_
      rintro e w1 ⟨rfl, hb1⟩
      have hgr1 := hgr.below' good_str hb1
      have hb2 := bt hbel hb1
      have hns := numS_data l[k]
      rw [hns]
      clear hns
      go_wp2_with (at_builtin; refine wpList_gr slStr good_str rfl _ _ rfl hgr1 hb2 rfl #[.string ⟨(Lib.itoa l[k]).toArray⟩] (Lib.itoa l[k]) [] ⟨rfl, rfl⟩ rfl (Fresh.nil _) (by simp) rfl (by simp [Value.oneCell']) (by omega) (by unfold maxLen; omega) ?_; intro g3 cap3 w2 f2 hgr3 hb3 hg3)
      go_roundw
      case rel => exact ⟨k + 1, g3, cap3, lo ++ [Lib.itoa l[k]], f2, by go_num, by omega, by simp, HS, by simpa using hgr3, hb3⟩
      case measure => simp [intOf]; omega
    · have hkl : k = l.length := by omega
      have HS := Lib.hid (show lo = l.map Lib.itoa by rw [Hlo.out, hkl, List.take_length])
      clear hkl
      have hjl : (Lib.join lo sep).length ≤ 140737488355328 := by
        rw [HS.out]
        have h1 := listS_len (l := l) sep HI.out
        have h4 : l.length * (21 + sep.length) ≤ 1048576 * 22 := Nat.mul_le_mul hn (by omega)
        unfold listS at h1
        omega
      have hj := join_any sep hgr rfl (by omega) hjl
      rw [HS.out] at hj
      have Hll := Lib.hid (show lo.length = (l.map Lib.itoa).length by rw [HS.out])
      rw [← Hll.out] at hj
      go_wp2_with fail
      refine hj.mono ?_
      rintro e w1 ⟨rfl, hb1⟩
      have hb2 := bt hbel hb1
      go_wp2
      go_ret
      exact ⟨rfl, hb2⟩
end Go.Proofs.YtojjojcmemifhaaGreatDoor
