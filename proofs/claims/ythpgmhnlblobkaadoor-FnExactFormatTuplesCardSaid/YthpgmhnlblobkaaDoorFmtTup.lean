/- FormatTuples of the program and of the reference. Conditions: not more than 2^20 tuples and numbers in all; what the library's table reads as. -/
import Derived.Test.YthpgmhnlblobkaaDoorFmtStr
import Derived.Test.YthpgmhnlblobkaaDoorHIntSS
import Derived.Test.YthpgmhnlblobkaaDoorIdxS
namespace Go.Proofs.YthpgmhnlblobkaaDoor
open Go.RowKit
set_option linter.unusedVariables false
set_option linter.unusedSimpArgs false
def tupS (t : List Int) : List UInt8 := 40 :: (listS t [44] ++ [41])
def tupsS (l : List (List Int)) : List UInt8 := if l.length = 0 then [110, 111, 110, 101] else Lib.join (l.map tupS) [32]
theorem join_length_sum (sep : List UInt8) : ∀ (xs : List (List UInt8)), (Lib.join xs sep).length ≤ (xs.map fun x => x.length + sep.length).sum
  | [] => by simp [join_nil]
  | [y] => by rw [join_single]; simp
  | y :: z :: t => by
    have ih := join_length_sum sep (z :: t)
    rw [join_cons]
    simp only [List.length_append, List.map_cons, List.sum_cons] at ih ⊢
    omega
theorem tups_len : ∀ {l : List (List Int)}, (∀ x ∈ l, ∀ y ∈ x, I64 y) → ((l.map tupS).map fun x => x.length + ([32] : List UInt8).length).sum ≤ 22 * bulkIntSS l
  | [], _ => by simp
  | x :: t, h => by
    have ih := tups_len (l := t) (fun z hz => h z (by simp [hz]))
    have h1 := listS_len (l := x) [44] (h x (by simp))
    unfold bulkIntSS at ih ⊢
    simp only [List.map_cons, List.sum_cons, List.length_cons, tupS, List.length_append, List.length_nil] at ih h1 ⊢
    omega
theorem bulk_take : ∀ (l : List (List Int)) (k : Nat), bulkIntSS (l.take k) ≤ bulkIntSS l
  | [], k => by simp
  | x :: t, 0 => by simp [bulkIntSS]
  | x :: t, k + 1 => by
    have ih := bulk_take t k
    unfold bulkIntSS at ih ⊢
    simp only [List.take_succ_cons, List.map_cons, List.sum_cons, List.length_cons] at ih ⊢
    omega
theorem tups_take_len {l : List (List Int)} (hI : ∀ x ∈ l, ∀ y ∈ x, I64 y) (hn : bulkIntSS l ≤ 1048576) (k : Nat) : (Lib.join ((l.take k).map tupS) [32]).length ≤ 23068672 := by
  have h1 := join_length_sum [32] ((l.take k).map tupS)
  have h2 := tups_len (l := l.take k) (fun x hx => hI x (List.mem_of_mem_take hx))
  have h3 := bulk_take l k
  omega
theorem intss_wf {w : World} {v : Value} {l : List (List Int)} {f : List Nat} (h : intss w v l f) : ∀ x ∈ l, ∀ y ∈ x, I64 y := by
  intro x hx
  obtain ⟨a, cap, rfl⟩ := slR.form h
  obtain ⟨k, hk, rfl⟩ := List.mem_iff_getElem.1 hx
  obtain ⟨g, c, fi, rfl, ⟨vx, rfl, hx⟩, _, hc, _, _, _⟩ := slR.at h k hk
  obtain ⟨o, _, _, hw⟩ := row_of_ints hx
  exact hw
theorem bulk_at {l : List (List Int)} (hn : bulkIntSS l ≤ 1048576) {k : Nat} (hk : k < l.length) : l[k].length ≤ 1048576 := by
  have h8 := sum_ge_mem (f := fun x : List Int => x.length) (List.getElem_mem hk)
  unfold bulkIntSS at hn
  omega
set_option maxRecDepth 100000 in
set_option maxHeartbeats 1600000 in
theorem specFormatTuples_any (v : Value) (l : List (List Int)) (f : List Nat) (w : World) (h : intss w v l f) (hn : bulkIntSS l ≤ 1048576) :
    Calls Tryd.prog 17 #[v] w fun e w' => e = .returned (.string ⟨(tupsS l).toArray⟩) ∧ Below w.heap.size w w' := by
  obtain ⟨a, cap, rfl⟩ := slR.form h
  have hla := slR.le_max h
  have HI := Lib.hid (intss_wf h)
  have HN := Lib.hid hn
  have hl : l.length ≤ 1048576 := by unfold bulkIntSS at hn; omega
  clear hn
  go_enter Tryd.func17, Tryd.ntmps17
  go_wp2
  go_loopw [3, 4] (fun t i wr => ∃ (k : Nat) (s : List UInt8), i = .int .i64 k ∧ k ≤ l.length ∧ t = .string ⟨s.toArray⟩ ∧ Hid (s = Lib.join ((l.take k).map tupS) [32]) ∧ Below w.heap.size w wr) (fun _ i _ => l.length - (intOf i).toNat)
  case atStart => exact ⟨0, [], rfl, Nat.zero_le _, rfl, Lib.hid (by simp [join_nil]), Below.refl _ _⟩
  case round =>
    obtain ⟨k, s, rfl, hk, rfl, HS, hbel⟩ := hrel
    by_cases hlt : k < l.length
    · obtain ⟨g, c, fi, rfl, ⟨vx, rfl, hx⟩, _, hc, _, _, _⟩ := slR.at (h.below' hbel) k hlt
      have hc0 : wr.cell? ⟨g, k, none⟩ = some vx := by have := hc 0 _ rfl; simpa using this
      have hx : ints wr vx l[k] fi := hx
      clear hc
      obtain ⟨b, c2, rfl⟩ := slR.form hx
      have hkl : (k : Int) < (l.length : Int) := by omega
      have hsl : s.length ≤ 23068672 := by rw [HS.out]; exact tups_take_len HI.out HN.out k
      have hxl := bulk_at HN.out hlt
      have htl : (listS l[k] [44]).length ≤ 23068672 := by
        have h1 := listS_len (l := l[k]) [44] (HI.out _ (List.getElem_mem hlt))
        have h2 : l[k].length * (21 + [(44 : UInt8)].length) ≤ 1048576 * 22 := Nat.mul_le_mul hxl (by simp)
        omega
      have HT := Lib.hid (join_take tupS [32] hlt)
      by_cases hk0 : k = 0
      · have HF := Lib.hid (show tupS l[k] = Lib.join ((l.take (k + 1)).map tupS) [32] by rw [HT.out, if_pos hk0])
        have hs0 : s = [] := by rw [HS.out, hk0]; rfl
        subst hs0
        have hgt : decide ((0 : Int) < (k : Int)) = false := by simp; omega
        have hgt' : ¬ (0 : Int) < (k : Int) := by omega
        clear hk0
        go_wp2_with fail
        refine (l2List_any _ _ _ _ hx hxl).mono ?_
        rintro e w1 ⟨rfl, hb1⟩
        have hb2 := bt hbel hb1
        go_wp2
        go_roundw
        case rel => exact ⟨k + 1, tupS l[k], by go_num, by omega, by first | rfl | (congr 1; apply ByteArray.ext; simp [tupS]), HF, hb2⟩
        case measure => simp [intOf]; omega
      · have HF := Lib.hid (show s ++ [32] ++ tupS l[k] = Lib.join ((l.take (k + 1)).map tupS) [32] by rw [HT.out, if_neg hk0, ← HS.out])
        have hgt : decide ((0 : Int) < (k : Int)) = true := by simp; omega
        have hgt' : (0 : Int) < (k : Int) := by omega
        clear hk0
        go_wp2_with fail
        refine (l2List_any _ _ _ _ hx hxl).mono ?_
        rintro e w1 ⟨rfl, hb1⟩
        have hb2 := bt hbel hb1
        go_wp2
        go_roundw
        case rel => exact ⟨k + 1, s ++ [32] ++ tupS l[k], by go_num, by omega, by first | rfl | (congr 1; apply ByteArray.ext; simp [tupS]), HF, hb2⟩
        case measure => simp [intOf]; omega
    · have hkl : k = l.length := by omega
      by_cases hz : l.length = 0
      · have HF := Lib.hid (show tupsS l = [110, 111, 110, 101] by unfold tupsS; rw [if_pos hz])
        have hs0 : s = [] := by rw [HS.out, hkl, hz]; rfl
        subst hs0
        clear hkl hz
        go_wp2
        go_ret
        exact ⟨ret_str' (by rw [HF.out]), hbel⟩
      · have HF := Lib.hid (show tupsS l = s by unfold tupsS; rw [if_neg hz, HS.out, hkl, List.take_length])
        have hne : s.isEmpty = false := by
          rw [HS.out, hkl, List.take_length]
          obtain ⟨y, t, rfl⟩ : ∃ y t, l = y :: t := by cases l with
            | nil => simp at hz
            | cons y t => exact ⟨y, t, rfl⟩
          cases t with
          | nil => simp [join_single, tupS]
          | cons z t => simp [join_cons, tupS]
        clear hkl hz
        go_wp2
        go_ret
        exact ⟨ret_str' (by rw [HF.out]), hbel⟩
set_option maxRecDepth 100000 in
set_option maxHeartbeats 1600000 in
theorem implFormatTuples_any (v : Value) (l : List (List Int)) (f : List Nat) (w : World) (h : intss w v l f) (hn : bulkIntSS l ≤ 1048576) (hT : Lib.TabBelow Tryd.prog w.heap.size w "internal/strconv.uint64pow10" .u64 Lib.pow10Tab) :
    Calls Tryd.prog 19 #[v] w fun e w' => e = .returned (.string ⟨(tupsS l).toArray⟩) ∧ Below w.heap.size w w' := by
  obtain ⟨a, cap, rfl⟩ := slR.form h
  have hla := slR.le_max h
  have HI := Lib.hid (intss_wf h)
  have HN := Lib.hid hn
  have HT := Lib.hid hT
  have hl : l.length ≤ 1048576 := by unfold bulkIntSS at hn; omega
  clear hn hT
  by_cases hz : l.length = 0
  · have HF := Lib.hid (show tupsS l = [110, 111, 110, 101] by unfold tupsS; rw [if_pos hz])
    have hz1 : (l.length : Int) = 0 := by omega
    have hz2 : ((l.length : Int) == 0) = true := by simp [hz]
    clear hz
    go_enter Tryd.func19, Tryd.ntmps19
    go_wp2
    go_ret
    exact ⟨ret_str' (by rw [HF.out]), Below.refl _ _⟩
  · have HF := Lib.hid (show tupsS l = Lib.join (l.map tupS) [32] by unfold tupsS; rw [if_neg hz])
    have hz1 : ¬ (l.length : Int) = 0 := by omega
    have hz2 : ((l.length : Int) == 0) = false := by rw [beq_eq_false_iff_ne]; omega
    clear hz
    go_enter Tryd.func19, Tryd.ntmps19
    go_wp2
    go_loopw [3, 12] (fun u i wr => ∃ (k gu cu : Nat) (lo : List (List UInt8)) (fo : List Nat), i = .int .i64 k ∧ k ≤ l.length ∧ u = .slice (some ⟨gu, 0, none⟩) lo.length cu ∧ Hid (lo = (l.take k).map tupS) ∧ grR 9 1 strR w.heap.size wr u lo fo ∧ Below w.heap.size w wr) (fun _ i _ => l.length - (intOf i).toNat)
    case atStart => exact ⟨0, _, _, [], _, rfl, Nat.zero_le _, rfl, Lib.hid rfl, grR.lit strR (Nat.le_refl _) (Nat.le_refl _), ba (Below.refl _ _)⟩
    case round =>
      obtain ⟨k, gu, cu, lo, fo, rfl, hk, rfl, Hlo, hgr, hbel⟩ := hrel
      have hll : lo.length ≤ 1048576 := by
        have h0 := congrArg List.length Hlo.out
        rw [List.length_map, List.length_take] at h0
        omega
      by_cases hlt : k < l.length
      · obtain ⟨g, c, fi, rfl, ⟨vx, rfl, hx⟩, _, hc, _, _, _⟩ := slR.at (h.below' hbel) k hlt
        have hc0 : wr.cell? ⟨g, k, none⟩ = some vx := by have := hc 0 _ rfl; simpa using this
        have hx : ints wr vx l[k] fi := hx
        clear hc
        obtain ⟨b, c2, rfl⟩ := slR.form hx
        have hkl : (k : Int) < (l.length : Int) := by omega
        have hxl := bulk_at HN.out hlt
        have htl : (listS l[k] [44]).length ≤ 23068672 := by
          have h1 := listS_len (l := l[k]) [44] (HI.out _ (List.getElem_mem hlt))
          have h2 : l[k].length * (21 + [(44 : UInt8)].length) ≤ 1048576 * 22 := Nat.mul_le_mul hxl (by simp)
          omega
        have HS := Lib.hid (show lo ++ [tupS l[k]] = (l.take (k + 1)).map tupS by rw [List.take_succ_eq_append_getElem hlt, List.map_append, Hlo.out]; rfl)
        have Hap := Lib.hid (show Value.string ((⟨#[40]⟩ : ByteArray) ++ ⟨(listS l[k] [44]).toArray⟩ ++ ⟨#[41]⟩) = Value.string ⟨(tupS l[k]).toArray⟩ by first | rfl | (congr 1; apply ByteArray.ext; simp [tupS]))
        go_wp2_with fail
        refine (joined_any _ _ _ [44] (by simp) _ hx hxl (Tab.on HT.out hbel)).mono ?_
        rintro e w1 ⟨rfl, hb1⟩
        have hgr1 := hgr.below' good_str hb1
        have hb2 := bt hbel hb1
        go_wp2_with (at_builtin; refine wpList_gr slStr good_str rfl _ _ rfl hgr1 hb2 rfl #[.string _] (tupS l[k]) [] ⟨congrArg (fun x => [x]) Hap.out, rfl⟩ rfl (Fresh.nil _) (by simp) rfl (by simp [Value.oneCell']) (by omega) (by unfold maxLen; omega) ?_; intro g3 cap3 w2 f2 hgr3 hb3 hg3)
        go_roundw
        case rel => exact ⟨k + 1, g3, cap3, lo ++ [tupS l[k]], f2, by go_num, by omega, by simp, HS, by simpa using hgr3, hb3⟩
        case measure => simp [intOf]; omega
      · have hkl : k = l.length := by omega
        have HS := Lib.hid (show lo = l.map tupS by rw [Hlo.out, hkl, List.take_length])
        clear hkl
        have hjl : (Lib.join lo [32]).length ≤ 140737488355328 := by
          rw [HS.out]
          have h1 := tups_take_len HI.out HN.out l.length
          rw [List.take_length] at h1
          omega
        have hj := join_any [32] hgr rfl (by omega) hjl
        rw [HS.out] at hj
        have Hll := Lib.hid (show lo.length = (l.map tupS).length by rw [HS.out])
        rw [← Hll.out] at hj
        go_wp2_with fail
        refine hj.mono ?_
        rintro e w1 ⟨rfl, hb1⟩
        have hb2 := bt hbel hb1
        go_wp2
        go_ret
        exact ⟨ret_str' (by rw [HF.out]), hb2⟩
end Go.Proofs.YthpgmhnlblobkaaDoor
