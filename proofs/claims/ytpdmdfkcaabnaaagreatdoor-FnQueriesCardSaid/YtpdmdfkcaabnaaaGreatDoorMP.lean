/- Several of my texts as one: SplitI, ReadC, ParFI, ParTI, ParQI. -/
import Derived.Test.YtpdmdfkcaabnaaaGreatDoorMT
import Derived.Test.YtpdmdfkcaabnaaaGreatDoorParFL
import Derived.Test.YtpdmdfkcaabnaaaGreatDoorShelf
import Derived.Laws.Strings
import Derived.Test.YtpdmdfkcaabnaaaGreatDoorParQL
import Derived.Test.YtpdmdfkcaabnaaaGreatDoorParQS
import Derived.Test.YtpdmdfkcaabnaaaGreatDoorGrow2
/- strings.Split, strings.TrimPrefix and readInts of the program. Conditions: the text is no longer than 2^20; what the library's own variables hold. -/
namespace Go.Proofs.YtpdmdfkcaabnaaaGreatDoor
open Go.RowKit
set_option linter.unusedVariables false
set_option linter.unusedSimpArgs false
theorem str_rows (w : World) : ∀ l : List (List UInt8), All strR w (l.map fun x => [Value.string ⟨x.toArray⟩]) l (l.map fun _ => [])
  | [] => .nil
  | x :: t => .cons ⟨rfl, rfl⟩ (str_rows w t)
theorem flat_one (l : List (List UInt8)) : (l.map fun x => [Value.string ⟨x.toArray⟩]).flatten = l.map fun x => Value.string ⟨x.toArray⟩ := by
  induction l with
  | nil => rfl
  | cons x t ih => simp only [List.map_cons, List.flatten_cons, ih]; rfl
theorem flat_nil (l : List (List UInt8)) : (l.map fun _ => ([] : List Nat)).flatten = [] := by
  induction l with
  | nil => rfl
  | cons x t ih => simp only [List.map_cons, List.flatten_cons, ih]; rfl
theorem grR.made (w : World) (l : List (List UInt8)) (hn : l.length ≤ maxLen) : grR 9 1 strR w.heap.size (w.alloc (.cells (l.map fun x => Value.string ⟨x.toArray⟩).toArray 9)) (.slice (some ⟨w.heap.size, 0, none⟩) l.length l.length) l [w.heap.size] := by
  refine ⟨l.map fun x => [Value.string ⟨x.toArray⟩], l.map fun _ => [], str_rows _ l, ?_, ⟨?_, .inr ⟨w.heap.size, l.length, (l.map fun x => Value.string ⟨x.toArray⟩).toArray, rfl, Nat.le_refl _, heap_alloc_new w _, Nat.le_refl _, hn, by simp, ?_⟩⟩, ?_, by simp, by simp⟩
  · intro c hc
    obtain ⟨x, _, rfl⟩ := List.mem_map.1 hc
    rfl
  · rw [flat_one]; simp
  · rw [flat_one, Nat.mul_one]; exact List.take_of_length_le (by simp)
  · rw [flat_nil]; rfl
theorem split_any (s sep : ByteArray) (w : World) (hs : s.size ≤ 1048576) (h1 : 1 ≤ sep.size) (hm : ∃ m, w.cell? ⟨0, 0, none⟩ = some (.int .i64 m)) :
    Calls Tryz.prog 95 #[.string s, .string sep] w (CutEnd (Lib.splitK sep.data.toList 0 (Lib.count s.data.toList sep.data.toList) s.data.toList) w) := by
  obtain ⟨m, hm⟩ := hm
  refine (Tryz.strings_Split s sep m w (by omega) hm h1).mono ?_
  rintro e w' ⟨rfl, rfl⟩
  have hd := Lib.splitB_data sep 0 (Lib.countB s sep) s
  have hl : (Lib.splitK sep.data.toList 0 (Lib.count s.data.toList sep.data.toList) s.data.toList).length = Lib.countB s sep + 1 := by
    rw [← hd, List.length_map]; exact Lib.splitB_all sep h1 0 _ s rfl
  have hle : Lib.countB s sep ≤ s.size := Lib.countB_le sep h1 _ s (Nat.le_refl _)
  have he : (Lib.splitB sep 0 (Lib.countB s sep) s).map Value.string = (Lib.splitK sep.data.toList 0 (Lib.count s.data.toList sep.data.toList) s.data.toList).map fun x => Value.string ⟨x.toArray⟩ := by
    rw [← hd, List.map_map]
    refine List.map_congr_left fun x _ => ?_
    simp only [Function.comp]
  have hg := grR.made w (Lib.splitK sep.data.toList 0 (Lib.count s.data.toList sep.data.toList) s.data.toList) (by rw [hl]; unfold maxLen; omega)
  rw [he]
  refine CutEnd.mk w.heap.size (Lib.countB s sep + 1) [w.heap.size] (by rw [hl]) ?_ (ba (Below.refl _ _))
  have e2 : Value.slice (some ⟨w.heap.size, 0, none⟩) (Lib.splitK sep.data.toList 0 (Lib.count s.data.toList sep.data.toList) s.data.toList).length (Lib.countB s sep + 1) = .slice (some ⟨w.heap.size, 0, none⟩) (Lib.splitK sep.data.toList 0 (Lib.count s.data.toList sep.data.toList) s.data.toList).length (Lib.splitK sep.data.toList 0 (Lib.count s.data.toList sep.data.toList) s.data.toList).length := by rw [hl]
  rw [e2]
  exact hg
theorem split1_any (s : ByteArray) (c : UInt8) (w : World) (hs : s.size ≤ 1048576) (hm : ∃ m, w.cell? ⟨0, 0, none⟩ = some (.int .i64 m)) :
    Calls Tryz.prog 95 #[.string s, .string ⟨#[c]⟩] w (CutEnd (cutL c s.data.toList) w) := by
  have h := split_any s ⟨#[c]⟩ w hs (by simp [ByteArray.size]) hm
  have e : Lib.splitK [c] 0 (Lib.count s.data.toList [c]) s.data.toList = cutL c s.data.toList := split_cut c _
  rw [show (⟨#[c]⟩ : ByteArray).data.toList = [c] from rfl, e] at h
  exact h
/-- What the program's reading of numbers wants of the library's variables. -/
def LibW (w : World) : Prop := (∃ tp p, w.cell? ⟨1, 0, none⟩ = some (.iface tp p)) ∧ (∃ tp p, w.cell? ⟨2, 0, none⟩ = some (.iface tp p)) ∧ Lib.TabBelow Tryz.prog w.heap.size w "internal/strconv.uint64pow10" .u64 Lib.pow10Tab ∧ ∃ m, w.cell? ⟨0, 0, none⟩ = some (.int .i64 m)
theorem LibW.on {w w' : World} (h : LibW w) (hb : Below w.heap.size w w') : LibW w' := by
  obtain ⟨⟨t, p, h1⟩, ⟨t2, p2, h2⟩, h3, m, h4⟩ := h
  exact ⟨⟨t, p, cell_below h1 hb⟩, ⟨t2, p2, cell_below h2 hb⟩, Tab.on h3 hb, m, cell_below h4 hb⟩
theorem libParseInt_any (s : ByteArray) (w : World) (hs : s.size ≤ 1048576) (h : LibW w) : Calls Tryz.prog 97 #[.string s] w fun e w' => e = .returned (.tuple #[.int .i64 ((pInt s.data.toList).getD 0), .bool (pInt s.data.toList).isSome]) ∧ Below w.heap.size w w' :=
  (implParseInt_any s w hs h.1 h.2.1 h.2.2.1).mono fun e w' ⟨v, k, he, hI, hb⟩ => by
    obtain ⟨rfl, rfl⟩ := par_fun hI
    exact ⟨he, hb⟩
theorem ret2 {P : Program} {f : FuncId} {args : Array Value} {w : World} {N : Nat} {a c : Int} {b d : Bool} (h : Calls P f args w fun e w' => e = .returned (.tuple #[.int .i64 a, .bool b]) ∧ Below N w w') (ha : a = c) (hb : b = d) : Calls P f args w fun e w' => e = .returned (.tuple #[.int .i64 c, .bool d]) ∧ Below N w w' := ha ▸ hb ▸ h
/-- What reading numbers ends in. -/
def RdEnd (l : List (List UInt8)) (w : World) (e : Ending) (w' : World) : Prop :=
  ∃ (v : Value) (f : List Nat), e = .returned (.tuple #[v, .bool (allI l)]) ∧ ints w' v (if allI l then valI l else []) f ∧ Fresh w.heap.size f ∧ Below w.heap.size w w'
theorem RdEnd.no {l : List (List UInt8)} {w w' : World} {e : Ending} (h : allI l = false) (he : e = .returned (.tuple #[.slice none 0 0, .bool false])) (hb : Below w.heap.size w w') : RdEnd l w e w' :=
  ⟨_, [], by rw [h]; exact he, by rw [h]; exact slR.nilv _ _ _ _, Fresh.nil _, hb⟩
theorem RdEnd.yes {l : List (List UInt8)} {w w' : World} {e : Ending} (v : Value) (lo : List Int) (f : List Nat) (h : allI l = true) (hv : lo = valI l) (he : e = .returned (.tuple #[v, .bool true])) (hi : ints w' v lo f) (hf : Fresh w.heap.size f) (hb : Below w.heap.size w w') : RdEnd l w e w' :=
  ⟨v, f, by rw [h]; exact he, by rw [h, if_pos rfl, ← hv]; exact hi, hf, hb⟩
theorem valI_bd (l : List (List UInt8)) : ∀ x ∈ valI l, -999999999 ≤ x ∧ x ≤ 999999999 := by
  intro x hx
  obtain ⟨p, _, rfl⟩ := List.mem_map.1 hx
  exact pInt_bd p 0 (by omega)
set_option maxRecDepth 100000 in
set_option maxHeartbeats 3200000 in
theorem readInts_any (v : Value) (l : List (List UInt8)) (f : List Nat) (w : World) (h : slR 9 1 strR w v l f) (hl : l.length ≤ 1048577) (hp : ∀ p ∈ l, p.length ≤ 1048576) (hL : LibW w) :
    Calls Tryz.prog 96 #[v] w (RdEnd l w) := by
  obtain ⟨a, cap, rfl⟩ := slR.form h
  have Hp := Lib.hid hp
  have HL := Lib.hid hL
  clear hp hL
  go_enter Tryz.func96, Tryz.ntmps96
  go_wp2
  go_loopw [4, 12] (fun u i wr => ∃ (k gu cu : Nat) (lo : List Int) (fo : List Nat), i = .int .i64 (k : Int) ∧ k ≤ l.length ∧ u = .slice (some ⟨gu, 0, none⟩) lo.length cu ∧ Hid (lo = valI (l.take k)) ∧ Hid (allI (l.take k) = true) ∧ grR 3 1 intR w.heap.size wr (.slice (some ⟨gu, 0, none⟩) lo.length cu) lo fo ∧ Below w.heap.size w wr) (fun _ i _ => l.length - (intOf i).toNat)
  case atStart => exact ⟨0, _, _, [], _, rfl, Nat.zero_le _, rfl, Lib.hid (by simp [valI]), Lib.hid (by simp [allI]), grR.lit intR (Nat.le_refl _) (Nat.le_refl _), ba (Below.refl _ _)⟩
  case round =>
    obtain ⟨k, gu, cu, lo, fo, rfl, hk, rfl, HV, HA, hgr, hbel⟩ := hrel
    have hlb : lo.length ≤ 1048577 := by rw [HV.out]; unfold valI; simp; omega
    by_cases hlt : k < l.length
    · obtain ⟨g, c, fk, hg, ⟨rfl, rfl⟩, _, hc, _, _, _⟩ := slR.at (slR.below' good_str h hbel) k hlt
      have hc0 : wr.cell? ⟨g, k, none⟩ = some (.string ⟨l[k].toArray⟩) := by have := hc 0 _ rfl; simpa using this
      clear hc
      subst hg
      have hkl : (k : Int) < (l.length : Int) := by omega
      have Hsz := Lib.hid (show (⟨l[k].toArray⟩ : ByteArray).size ≤ 1048576 from by have := Hp.out l[k] (List.getElem_mem hlt); simpa [ByteArray.size] using this)
      have hq := libParseInt_any ⟨l[k].toArray⟩ wr Hsz.out (HL.out.on hbel)
      cases hpi : pInt l[k] with
      | none =>
        have HN := Lib.hid (allI_no hlt hpi)
        have hq2 := ret2 hq (c := 0) (d := false) (by simp [hpi]) (by simp [hpi])
        clear hq hpi
        generalize l[k] = x at hc0 hq2
        go_wp2_with fail
        refine hq2.mono ?_
        rintro e w1 ⟨rfl, hb1⟩
        clear hq2
        go_wp2
        go_ret2
        exact RdEnd.no HN.out rfl (bt hbel hb1)
      | some n =>
        have hnb := pInt_some hpi
        have hn1 := hnb.1
        have hn2 := hnb.2.1
        have HV2 := Lib.hid (show lo ++ [n] = valI (l.take (k + 1)) by rw [HV.out, List.take_succ_eq_append_getElem hlt]; unfold valI; rw [List.map_append]; simp [hpi])
        have HA2 := Lib.hid (show allI (l.take (k + 1)) = true by
          have h1 := HA.out
          unfold allI at h1 ⊢
          rw [List.take_succ_eq_append_getElem hlt, List.all_append, h1]; simp [hpi])
        have hq2 := ret2 hq (c := n) (d := true) (by simp [hpi]) (by simp [hpi])
        clear hq hpi hnb
        generalize l[k] = x at hc0 hq2
        have hI : I64 n := ⟨by omega, by omega⟩
        go_wp2_with fail
        refine hq2.mono ?_
        rintro e w1 ⟨rfl, hb1⟩
        clear hq2
        have hgr1 := hgr.below' good_int hb1
        have hbw := bt hbel hb1
        go_wp2_with (at_builtin; refine wpList_gr slInt good_int rfl _ _ rfl hgr1 hbw rfl #[.int .i64 n] n [] ⟨rfl, rfl, hI⟩ rfl (Fresh.nil _) (by simp) rfl (by simp [Value.oneCell']) (by omega) (by unfold maxLen; omega) ?_; intro g3 cap3 w2 f2 hgr3 hb3 hg3)
        go_roundw
        case rel => exact ⟨k + 1, g3, cap3, lo ++ [n], f2, by go_num, by omega, by simp, HV2, HA2, by simpa using hgr3, hb3⟩
        case measure => simp [intOf]; omega
    · have HT := Lib.hid (show l.take k = l from List.take_of_length_le (by omega))
      have hkl : ¬ (k : Int) < (l.length : Int) := by omega
      go_wp2
      go_ret2
      have hA := HA.out
      have hV := HV.out
      rw [HT.out] at hA hV
      exact RdEnd.yes _ lo fo hA hV rfl hgr.sl hgr.fresh hbel
end Go.Proofs.YtpdmdfkcaabnaaaGreatDoor
/- readCall of the program: the number behind a letter and the words in parentheses. Conditions: the text is no longer than 2^20; what the library's own variables hold. -/
namespace Go.Proofs.YtpdmdfkcaabnaaaGreatDoor
open Go.RowKit
set_option linter.unusedVariables false
set_option linter.unusedSimpArgs false
theorem results_tmp3 {fn : Func} {t u v : Tmp} (h : fn.results = #[.tmp t, .tmp u, .tmp v]) (tmps : Array Value) (P : Program) (w : World) :
    (results fn tmps).run P w = .ok (.tuple #[tmps.getD t undef, tmps.getD u undef, tmps.getD v undef]) w := by simp [results, h]
/-- What reading a call ends in. -/
def RcEnd (c : UInt8) (t : List UInt8) (w : World) (e : Ending) (w' : World) : Prop :=
  (readC c t = none ∧ e = .returned (.tuple #[.int .i64 0, .slice none 0 0, .bool false]) ∧ Below w.heap.size w w') ∨
  (∃ (n : Int) (l : List (List UInt8)) (v : Value) (f : List Nat), readC c t = some (n, l) ∧ e = .returned (.tuple #[.int .i64 n, v, .bool true]) ∧ slR 9 1 strR w' v l f ∧ Below w.heap.size w w')
theorem RcEnd.no {c : UInt8} {t : List UInt8} {w w' : World} {e : Ending} (h : readC c t = none) (he : e = .returned (.tuple #[.int .i64 0, .slice none 0 0, .bool false])) (hb : Below w.heap.size w w') : RcEnd c t w e w' := .inl ⟨h, he, hb⟩
theorem RcEnd.yes {c : UInt8} {t : List UInt8} {w w' : World} {e : Ending} (n : Int) (l : List (List UInt8)) (v : Value) (f : List Nat) (h : readC c t = some (n, l)) (he : e = .returned (.tuple #[.int .i64 n, v, .bool true])) (hs : slR 9 1 strR w' v l f) (hb : Below w.heap.size w w') : RcEnd c t w e w' := .inr ⟨n, l, v, f, h, he, hs, hb⟩
theorem cut_le (t : List UInt8) (sep : List UInt8) : (Lib.cut t sep).1.length ≤ t.length ∧ (Lib.cut t sep).2.1.length ≤ t.length := by
  unfold Lib.cut
  split
  · simp; omega
  · simp
theorem readC_no1 {c : UInt8} {t : List UInt8} (h : (Lib.cut t [40]).2.2 = false) : readC c t = none := by unfold readC; rw [if_neg fun e => by rw [h] at e; cases e.1]
theorem readC_no2 {c : UInt8} {t : List UInt8} (h : (pInt (Lib.trimPrefix (Lib.cut t [40]).1 [c])).isSome = false) : readC c t = none := by unfold readC; rw [if_neg fun e => by rw [h] at e; cases e.2.1]
theorem readC_no3 {c : UInt8} {t : List UInt8} (h : Lib.hasSuffix (Lib.cut t [40]).2.1 [41] = false) : readC c t = none := by unfold readC; rw [if_neg fun e => by rw [h] at e; cases e.2.2]
theorem readC_yes {c : UInt8} {t : List UInt8} (h1 : (Lib.cut t [40]).2.2 = true) (h2 : (pInt (Lib.trimPrefix (Lib.cut t [40]).1 [c])).isSome = true) (h3 : Lib.hasSuffix (Lib.cut t [40]).2.1 [41] = true) :
    readC c t = some ((pInt (Lib.trimPrefix (Lib.cut t [40]).1 [c])).getD 0, wordsC (Lib.trimSuffix (Lib.cut t [40]).2.1 [41])) := by unfold readC; rw [if_pos ⟨h1, h2, h3⟩]
theorem readC_len {c : UInt8} {t : List UInt8} {n : Int} {l : List (List UInt8)} (h : readC c t = some (n, l)) : l.length ≤ t.length + 1 ∧ (∀ p ∈ l, p.length ≤ t.length) ∧ -999999999 ≤ n ∧ n ≤ 999999999 := by
  unfold readC at h
  split at h
  · simp only [Option.some.injEq, Prod.mk.injEq] at h
    obtain ⟨rfl, rfl⟩ := h
    have h1 := (cut_le t [40]).2
    have h2 := Lib.trimSuffix_le (Lib.cut t [40]).2.1 [41]
    have h3 := pInt_bd (Lib.trimPrefix (Lib.cut t [40]).1 [c]) 0 (by omega)
    refine ⟨?_, ?_, h3⟩
    · unfold wordsC
      split
      · simp
      · have := cutL_len 44 (Lib.trimSuffix (Lib.cut t [40]).2.1 [41]); omega
    · unfold wordsC
      split
      · simp
      · intro p hp
        have := cutL_piece 44 _ p hp
        omega
  · cases h
set_option maxRecDepth 100000 in
set_option maxHeartbeats 3200000 in
theorem readCall_any (c : UInt8) (s : ByteArray) (w : World) (hs : s.size ≤ 1048576) (hL : LibW w) :
    Calls Tryz.prog 144 #[.string ⟨#[c]⟩, .string s] w (RcEnd c s.data.toList w) := by
  have hsl : s.data.toList.length ≤ 1048576 := by simpa using hs
  have HLW := Lib.hid hL
  obtain ⟨m, hm⟩ := hL.2.2.2
  have hcl := cut_le s.data.toList [40]
  obtain ⟨A, hA⟩ : ∃ A, (Lib.cut s.data.toList [40]).1 = A := ⟨_, rfl⟩
  obtain ⟨R, hR⟩ : ∃ R, (Lib.cut s.data.toList [40]).2.1 = R := ⟨_, rfl⟩
  obtain ⟨k, hk⟩ : ∃ k, (Lib.cut s.data.toList [40]).2.2 = k := ⟨_, rfl⟩
  rw [hA, hR] at hcl
  have hqc : ∀ w', w'.cell? ⟨0, 0, none⟩ = some (.int .i64 m) → Calls Tryz.prog 180 #[.string s, .string ⟨#[40]⟩] w' fun e w'' => e = .returned (.tuple #[.string ⟨A.toArray⟩, .string ⟨R.toArray⟩, .bool k]) ∧ Below w'.heap.size w' w'' := fun w' h => (Tryz.strings_Cut s ⟨#[40]⟩ m w' (by omega) h).mono (by
    rintro e w'' ⟨rfl, n, rfl⟩
    refine ⟨?_, (Qt.dn _ n).below⟩
    rw [show (⟨#[40]⟩ : ByteArray).data.toList = [40] from rfl, hA, hR, hk])
  have HC1 := Lib.hid (show k = false → readC c s.data.toList = none from fun e => readC_no1 (hk.trans e))
  have HC2 := Lib.hid (show (pInt (Lib.trimPrefix A [c])).isSome = false → readC c s.data.toList = none from fun e => readC_no2 (by rw [hA]; exact e))
  have HC3 := Lib.hid (show Lib.hasSuffix R [41] = false → readC c s.data.toList = none from fun e => readC_no3 (by rw [hR]; exact e))
  have HC4 := Lib.hid (show k = true → (pInt (Lib.trimPrefix A [c])).isSome = true → Lib.hasSuffix R [41] = true → readC c s.data.toList = some ((pInt (Lib.trimPrefix A [c])).getD 0, wordsC (Lib.trimSuffix R [41])) from fun e1 e2 e3 => by
    have h := readC_yes (c := c) (t := s.data.toList) (hk.trans e1) (by rw [hA]; exact e2) (by rw [hR]; exact e3)
    rw [hA, hR] at h; exact h)
  clear hA hR hk hL
  have hqp : ∀ w, Calls Tryz.prog 98 #[.string ⟨A.toArray⟩, .string ⟨#[c]⟩] w fun e w' => e = .returned (.string ⟨(Lib.trimPrefix A [c]).toArray⟩) ∧ w = w' := fun w => (Tryz.strings_TrimPrefix ⟨A.toArray⟩ ⟨#[c]⟩ w).mono (by rintro e w' ⟨rfl, rfl⟩; exact ⟨rfl, rfl⟩)
  have hRs : (⟨R.toArray⟩ : ByteArray).size ≤ 1048576 := show R.toArray.size ≤ 1048576 by rw [List.size_toArray]; omega
  obtain ⟨n, hn⟩ : ∃ n, (pInt (Lib.trimPrefix A [c])).getD 0 = n := ⟨_, rfl⟩
  obtain ⟨kn, hkn⟩ : ∃ kn, (pInt (Lib.trimPrefix A [c])).isSome = kn := ⟨_, rfl⟩
  have hTl := Lib.trimPrefix_le A [c]
  have hpi : ∀ w, LibW w → Calls Tryz.prog 97 #[.string ⟨(Lib.trimPrefix A [c]).toArray⟩] w fun e w' => e = .returned (.tuple #[.int .i64 n, .bool kn]) ∧ Below w.heap.size w w' := fun w h => ret2 (libParseInt_any ⟨(Lib.trimPrefix A [c]).toArray⟩ w (show (Lib.trimPrefix A [c]).toArray.size ≤ 1048576 by rw [List.size_toArray]; omega) h) hn hkn
  rw [hn] at HC4
  rw [hkn] at HC2 HC4
  obtain ⟨ks, hks⟩ : ∃ ks, Lib.hasSuffix R [41] = ks := ⟨_, rfl⟩
  have hqs : ∀ w, Calls Tryz.prog 195 #[.string ⟨R.toArray⟩, .string ⟨#[41]⟩] w fun e w' => e = .returned (.bool ks) ∧ w = w' := fun w => (Tryz.strings_HasSuffix ⟨R.toArray⟩ ⟨#[41]⟩ w (by omega)).mono (by rintro e w' ⟨rfl, rfl⟩; exact ⟨by rw [show (⟨R.toArray⟩ : ByteArray).data.toList = R from rfl, show (⟨#[41]⟩ : ByteArray).data.toList = [41] from rfl, hks], rfl⟩)
  rw [hks] at HC3 HC4
  obtain ⟨I, hI⟩ : ∃ I, Lib.trimSuffix R [41] = I := ⟨_, rfl⟩
  have hqt : ∀ w, Calls Tryz.prog 196 #[.string ⟨R.toArray⟩, .string ⟨#[41]⟩] w fun e w' => e = .returned (.string ⟨I.toArray⟩) ∧ w = w' := fun w => (Tryz.strings_TrimSuffix ⟨R.toArray⟩ ⟨#[41]⟩ w (by omega)).mono (by rintro e w' ⟨rfl, rfl⟩; exact ⟨by rw [show (⟨R.toArray⟩ : ByteArray).data.toList = R from rfl, show (⟨#[41]⟩ : ByteArray).data.toList = [41] from rfl, hI], rfl⟩)
  have hIl := Lib.trimSuffix_le R [41]
  rw [hI] at HC4 hIl
  have HIs := Lib.hid (show I.toArray.size ≤ 1048576 by rw [List.size_toArray]; omega)
  clear hI hks hkn hn hTl
  go_enter Tryz.func144, Tryz.ntmps144
  go_wp2_with fail
  refine (hqc _ hm).mono ?_
  rintro e w1 ⟨rfl, hb1⟩
  go_wp2_with fail
  refine (hqp _).mono ?_
  rintro e w1' ⟨rfl, rfl⟩
  go_wp2_with fail
  refine (hpi _ (HLW.out.on hb1)).mono ?_
  rintro e w2 ⟨rfl, hb2⟩
  have B2 := bt hb1 hb2
  cases k with
  | false =>
    have HN := Lib.hid (HC1.out rfl)
    go_wp2
    refine bodyPost_ret (results_tmp3 rfl _ _ _) rfl ?_
    exact RcEnd.no HN.out rfl B2
  | true =>
    cases kn with
    | false =>
      have HN := Lib.hid (HC2.out rfl)
      go_wp2
      refine bodyPost_ret (results_tmp3 rfl _ _ _) rfl ?_
      exact RcEnd.no HN.out rfl B2
    | true =>
      cases ks with
      | false =>
        have HN := Lib.hid (HC3.out rfl)
        go_wp2_with fail
        refine (hqs _).mono ?_
        rintro e w2' ⟨rfl, rfl⟩
        go_wp2
        refine bodyPost_ret (results_tmp3 rfl _ _ _) rfl ?_
        exact RcEnd.no HN.out rfl B2
      | true =>
        have HY := Lib.hid (HC4.out rfl rfl rfl)
        go_wp2_with fail
        refine (hqs _).mono ?_
        rintro e w2' ⟨rfl, rfl⟩
        go_wp2_with fail
        refine (hqt _).mono ?_
        rintro e w2' ⟨rfl, rfl⟩
        by_cases hI0 : I = []
        · subst hI0
          go_wp2
          refine bodyPost_ret (results_tmp3 rfl _ _ _) rfl ?_
          exact RcEnd.yes n [] _ [] (by rw [HY.out]; rfl) rfl (slR.nilv _ _ _ _) B2
        · have hIe : (I == []) = false := by rw [beq_eq_false_iff_ne]; exact hI0
          have hIe2 : I.isEmpty = false := by cases I with
            | nil => exact absurd rfl hI0
            | cons x t => rfl
          have HW := Lib.hid (show wordsC I = cutL 44 I by unfold wordsC; rw [if_neg hI0])
          clear hI0
          go_wp2_with fail
          refine (split1_any ⟨I.toArray⟩ 44 _ HIs.out (HLW.out.on B2).2.2.2).mono ?_
          rintro e w3 ⟨gp, cp, fp, rfl, hgp, hb3⟩
          go_wp2
          refine bodyPost_ret (results_tmp3 rfl _ _ _) rfl ?_
          exact RcEnd.yes n (cutL 44 I) _ _ (by rw [HY.out, HW.out]) rfl hgp.sl (bt B2 hb3)
end Go.Proofs.YtpdmdfkcaabnaaaGreatDoor
/- ParseFact of the program: it returns what 'FactIs' says. Conditions: the text is no longer than 2^20; what the library's own variables hold. -/
namespace Go.Proofs.YtpdmdfkcaabnaaaGreatDoor
open Go.RowKit
set_option linter.unusedVariables false
set_option linter.unusedSimpArgs false
set_option maxRecDepth 100000 in
set_option maxHeartbeats 6400000 in
theorem implParseFact_any (vs : Value) (s : List Int) (fs : List Nat) (t : ByteArray) (w : World) (hs : ints w vs s fs) (ht : t.size ≤ 1048576) (hL : LibW w) :
    Calls Tryz.prog 66 #[vs, .string t] w (PfEnd s t.data.toList w) := by
  have htl : t.data.toList.length ≤ 1048576 := by simpa using ht
  have HLW := Lib.hid hL
  clear hL
  have hb0 : Below w.heap.size w (w.alloc (.cells #[.int .i64 0, .slice none 0 0] 79)) := ba (Below.refl _ _)
  have h40 : Two (w.alloc (.cells #[.int .i64 0, .slice none 0 0] 79)) w.heap.size (.int .i64 0) (.slice none 0 0) := Two.new _ _ _ _
  have hri := fun v l f (W : World) (h : slR 9 1 strR W v l f) hl hp (hW : LibW W) => readInts_any v l f W h hl hp hW
  go_enter Tryz.func66, Tryz.ntmps66
  go_wp2_with fail
  refine (readCall_any 114 t _ ht (HLW.out.on hb0)).mono ?_
  rintro e w1 (⟨hrc, rfl, hb1⟩ | ⟨n, l, v, f, hrc, rfl, hp, hb1⟩)
  · have HN := Lib.hid (factI_no (s := s) (.inl hrc))
    clear hrc
    have B1 := bt hb0 hb1
    have H41 := Lib.hid (h40.below hb1)
    go_wp2_with fail
    refine (hri _ [] [] _ (slR.nilv _ _ _ _) (by simp) (by simp) (HLW.out.on B1)).mono ?_
    rintro e w2 ⟨vi, fi, rfl, hi, hfi, hb2⟩
    have B2 := bt B1 hb2
    obtain ⟨av, cv, rfl⟩ : ∃ a c, vi = .slice a 0 c := slR.form hi
    have H4e := Lib.hid ((H41.out.below hb2).below (ba (o := .cells #[.int .i64 0, .slice av 0 cv] 79) (Below.refl _ _)))
    have H42 := Lib.hid (H41.out.below hb2)
    clear hi
    have H4y := H4e.out
    obtain ⟨⟨r0, r1⟩, q0, q1⟩ := H4y
    go_wp2
    (try simp only [Exit.inBlock, Exit.then])
    refine bodyPost_ret (v := .tuple #[.agg #[.int .i64 0, .slice none 0 0], .bool false]) ?_ rfl ?_
    · rw [results_cell_tmp rfl]
      simp [asAddr, Result.andThen, load_fact2 H4e.out]
    · exact PfEnd.no rfl HN.out (below_two2 (ba B2) (Nat.le_refl _) _ _)
  · have hrl := readC_len hrc
    have HRC := Lib.hid hrc
    clear hrc
    obtain ⟨hl1, hl2, hn1, hn2⟩ := hrl
    have HLp := Lib.hid (show ∀ p ∈ l, p.length ≤ 1048576 from fun p hp => by have := hl2 p hp; omega)
    clear hl2
    have B1 := bt hb0 hb1
    have H41 := Lib.hid (h40.below hb1)
    obtain ⟨ka, hka⟩ : ∃ ka, allI l = ka := ⟨_, rfl⟩
    have hq3 : Calls Tryz.prog 96 #[v] w1 fun e w' => ∃ (v : Value) (f : List Nat), e = .returned (.tuple #[v, .bool ka]) ∧ ints w' v (if ka then valI l else []) f ∧ Fresh w1.heap.size f ∧ Below w1.heap.size w1 w' := by
      have h2 := hri v l f w1 hp (by omega) HLp.out (HLW.out.on B1)
      unfold RdEnd at h2
      rw [hka] at h2
      exact h2
    have HKA := Lib.hid hka
    clear hka hri
    go_wp2_with fail
    refine hq3.mono ?_
    rintro e w2 ⟨vi, fi, rfl, hi, hfi, hb2⟩
    clear hq3
    have B2 := bt B1 hb2
    cases ka with
    | false =>
      have HN := Lib.hid (factI_no (s := s) (.inr ⟨n, l, HRC.out, .inl HKA.out⟩))
      simp only [Bool.false_eq_true, if_false] at hi
      obtain ⟨av, cv, rfl⟩ : ∃ a c, vi = .slice a 0 c := slR.form hi
      have H4e := Lib.hid ((H41.out.below hb2).below (ba (o := .cells #[.int .i64 n, .slice av 0 cv] 79) (Below.refl _ _)))
      have H42 := Lib.hid (H41.out.below hb2)
      clear hi
      have H4y := H4e.out
      obtain ⟨⟨r0, r1⟩, q0, q1⟩ := H4y
      go_wp2
      (try simp only [Exit.inBlock, Exit.then])
      refine bodyPost_ret (v := .tuple #[.agg #[.int .i64 0, .slice none 0 0], .bool false]) ?_ rfl ?_
      · rw [results_cell_tmp rfl]
        simp [asAddr, Result.andThen, load_fact2 H4e.out]
      · exact PfEnd.no rfl HN.out (below_two2 (ba B2) (Nat.le_refl _) _ _)
    | true =>
      rw [if_pos rfl] at hi
      obtain ⟨av, cv, rfl⟩ := slR.form hi
      have hbx : Below w2.heap.size w2 (w2.alloc (.cells #[.int .i64 n, .slice av (valI l).length cv] 79)) := ba (Below.refl _ _)
      have Fr : Two (w2.alloc (.cells #[.int .i64 n, .slice av (valI l).length cv] 79)) w2.heap.size (.int .i64 n) (.slice av (valI l).length cv) := Two.new _ _ _ _
      have hin := hi.below' hbx
      have Bw := bt B2 hbx
      have H4r := Lib.hid ((H41.out.below hb2).below hbx)
      have Hnot := Lib.hid (show w.heap.size ∉ fi from fun hm => by have h1 := hfi.2 _ hm; have h2 := H41.out.lt; omega)
      have Hfr := Lib.hid (hfi.mono B1.size)
      clear hi
      go_wp2_with fail
      cases hmb : factB s ⟨n, valI l⟩ with
      | false =>
        have HN := Lib.hid (fact_no1 (s := s) (fun h => factI_no (.inr ⟨n, l, HRC.out, .inr h⟩)) hmb)
        refine (retBB (implIsFact_any vs s fs ⟨n, valI l⟩ _ _ _ (hs.below' Bw) hin) hmb).mono ?_
        rintro e wy ⟨rfl, hby⟩
        clear hmb
        have H4e := Lib.hid (H4r.out.below hby)
        have H4y := H4e.out
        obtain ⟨⟨r0, r1⟩, q0, q1⟩ := H4y
        go_wp2
        (try simp only [Exit.inBlock, Exit.then])
        refine bodyPost_ret (v := .tuple #[.agg #[.int .i64 0, .slice none 0 0], .bool false]) ?_ rfl ?_
        · rw [results_cell_tmp rfl]
          simp [asAddr, Result.andThen, load_fact2 H4e.out]
        · exact PfEnd.no rfl HN.out (below_two2 (bt Bw hby) (Nat.le_refl _) _ _)
      | true =>
        have Hmb := Lib.hid hmb
        refine (retBB (implIsFact_any vs s fs ⟨n, valI l⟩ _ _ _ (hs.below' Bw) hin) hmb).mono ?_
        rintro e wy ⟨rfl, hby⟩
        clear hmb
        have Fy := Fr.below hby
        have Fy2 := Fy
        obtain ⟨⟨k0, k1⟩, m0, m1⟩ := Fy2
        go_wp2_with fail
        refine (implFormatFact_any ⟨n, valI l⟩ _ _ _ (ints.below' hin hby) (HLW.out.on (bt Bw hby)).2.2.1).mono ?_
        rintro e we ⟨rfl, hbe⟩
        have hbye := bt hby hbe
        have H4e := Lib.hid (H4r.out.below hbye)
        by_cases heq : factFS ⟨n, valI l⟩ = t.data.toList
        · have hse := str_eq heq
          have Heq := Lib.hid heq
          clear heq
          rw [hse]
          clear hse
          have Fz := Fy.below hbe
          obtain ⟨⟨x0', x1'⟩, z0, z1⟩ := Fz
          have H4y := H4e.out
          obtain ⟨⟨r0, r1⟩, q0, q1⟩ := H4y
          go_wp2
          (try simp only [Exit.inBlock, Exit.then])
          refine bodyPost_ret (v := .tuple #[.agg #[.int .i64 (⟨n, valI l⟩ : FactD).rel, (.slice av (valI l).length cv)], .bool true]) ?_ rfl ?_
          · rw [results_cell_tmp rfl]
            simp [asAddr, Result.andThen, load_fact2 H4e.out]
          · exact PfEnd.yes ⟨n, valI l⟩ _ _ rfl Hmb.out Heq.out (ints_two2 (ints.below' hin hbye) Hnot.out _ _) Hfr.out (below_two2 (bt Bw hbye) (Nat.le_refl _) _ _)
        · have hse := str_ne heq
          have HN := Lib.hid (fact_no2 (s := s) (fun h => factI_no (.inr ⟨n, l, HRC.out, .inr h⟩)) heq)
          clear heq
          have H4y := H4e.out
          obtain ⟨⟨r0, r1⟩, q0, q1⟩ := H4y
          go_wp2
          (try simp only [Exit.inBlock, Exit.then])
          refine bodyPost_ret (v := .tuple #[.agg #[.int .i64 0, .slice none 0 0], .bool false]) ?_ rfl ?_
          · rw [results_cell_tmp rfl]
            simp [asAddr, Result.andThen, load_fact2 H4e.out]
          · exact PfEnd.no rfl HN.out (below_two2 (bt Bw hbye) (Nat.le_refl _) _ _)
end Go.Proofs.YtpdmdfkcaabnaaaGreatDoor
/- readTerms and readAtom of the program: they return what 'allT', 'valT', 'okA', 'rdA' say. Conditions: lengths within 2^20; what the library's own variables hold. -/
namespace Go.Proofs.YtpdmdfkcaabnaaaGreatDoor
open Go.RowKit
set_option linter.unusedVariables false
set_option linter.unusedSimpArgs false
/-- What reading terms ends in. -/
def RtEnd (l : List (List UInt8)) (w : World) (e : Ending) (w' : World) : Prop :=
  ∃ (v : Value) (f : List Nat), e = .returned (.tuple #[v, .bool (allT l)]) ∧ ints w' v (if allT l then valT l else []) f ∧ Fresh w.heap.size f ∧ Below w.heap.size w w'
theorem RtEnd.no {l : List (List UInt8)} {w w' : World} {e : Ending} (h : allT l = false) (he : e = .returned (.tuple #[.slice none 0 0, .bool false])) (hb : Below w.heap.size w w') : RtEnd l w e w' :=
  ⟨_, [], by rw [h]; exact he, by rw [h]; exact slR.nilv _ _ _ _, Fresh.nil _, hb⟩
theorem RtEnd.yes {l : List (List UInt8)} {w w' : World} {e : Ending} (v : Value) (lo : List Int) (f : List Nat) (h : allT l = true) (hv : lo = valT l) (he : e = .returned (.tuple #[v, .bool true])) (hi : ints w' v lo f) (hf : Fresh w.heap.size f) (hb : Below w.heap.size w w') : RtEnd l w e w' :=
  ⟨v, f, by rw [h]; exact he, by rw [h, if_pos rfl, ← hv]; exact hi, hf, hb⟩
theorem rdT_none {p : List UInt8} (h : pInt (Lib.trimPrefix p [120]) = none) : rdT p = none := by unfold rdT; rw [h]; rfl
theorem rdT_same {p : List UInt8} {n : Int} (h : pInt (Lib.trimPrefix p [120]) = some n) (he : Lib.trimPrefix p [120] = p) : rdT p = some n := by unfold rdT; rw [h]; simp [he]
theorem rdT_ten {p : List UInt8} {n : Int} (h : pInt (Lib.trimPrefix p [120]) = some n) (he : Lib.trimPrefix p [120] ≠ p) : rdT p = some (n + 10) := by unfold rdT; rw [h]; simp [he]
theorem valT_take {l : List (List UInt8)} {k : Nat} {n : Int} {lo : List Int} (hlt : k < l.length) (h : lo = valT (l.take k)) (hn : rdT l[k] = some n) : lo ++ [n] = valT (l.take (k + 1)) := by
  rw [h, List.take_succ_eq_append_getElem hlt]; unfold valT; rw [List.map_append]; simp [hn]
theorem allT_take {l : List (List UInt8)} {k : Nat} {n : Int} (hlt : k < l.length) (h : allT (l.take k) = true) (hn : rdT l[k] = some n) : allT (l.take (k + 1)) = true := by
  unfold allT at h ⊢
  rw [List.take_succ_eq_append_getElem hlt, List.all_append, h]; simp [hn]
set_option maxRecDepth 100000 in
set_option maxHeartbeats 3200000 in
theorem readTerms_any (v : Value) (l : List (List UInt8)) (f : List Nat) (w : World) (h : slR 9 1 strR w v l f) (hl : l.length ≤ 1048577) (hp : ∀ p ∈ l, p.length ≤ 1048576) (hL : LibW w) :
    Calls Tryz.prog 181 #[v] w (RtEnd l w) := by
  obtain ⟨a, cap, rfl⟩ := slR.form h
  have Hp := Lib.hid hp
  have HL := Lib.hid hL
  clear hp hL
  go_enter Tryz.func181, Tryz.ntmps181
  go_wp2
  go_loopw [4, 13] (fun u i wr => ∃ (k gu cu : Nat) (lo : List Int) (fo : List Nat), i = .int .i64 (k : Int) ∧ k ≤ l.length ∧ u = .slice (some ⟨gu, 0, none⟩) lo.length cu ∧ Hid (lo = valT (l.take k)) ∧ Hid (allT (l.take k) = true) ∧ grR 3 1 intR w.heap.size wr (.slice (some ⟨gu, 0, none⟩) lo.length cu) lo fo ∧ Below w.heap.size w wr) (fun _ i _ => l.length - (intOf i).toNat)
  case atStart => exact ⟨0, _, _, [], _, rfl, Nat.zero_le _, rfl, Lib.hid (by simp [valT]), Lib.hid (by simp [allT]), grR.lit intR (Nat.le_refl _) (Nat.le_refl _), ba (Below.refl _ _)⟩
  case round =>
    obtain ⟨k, gu, cu, lo, fo, rfl, hk, rfl, HV, HA, hgr, hbel⟩ := hrel
    have hlb : lo.length ≤ 1048577 := by rw [HV.out]; unfold valT; simp; omega
    by_cases hlt : k < l.length
    · obtain ⟨g, c, fk, hg, ⟨rfl, rfl⟩, _, hc, _, _, _⟩ := slR.at (slR.below' good_str h hbel) k hlt
      have hc0 : wr.cell? ⟨g, k, none⟩ = some (.string ⟨l[k].toArray⟩) := by have := hc 0 _ rfl; simpa using this
      clear hc
      subst hg
      have hkl : (k : Int) < (l.length : Int) := by omega
      obtain ⟨X, hX⟩ : ∃ X, Lib.trimPrefix l[k] [120] = X := ⟨_, rfl⟩
      have hXl : X.length ≤ 1048576 := by rw [← hX]; exact Nat.le_trans (Lib.trimPrefix_le _ _) (Hp.out l[k] (List.getElem_mem hlt))
      have hqp : ∀ w, Calls Tryz.prog 98 #[.string ⟨l[k].toArray⟩, .string ⟨#[120]⟩] w fun e w' => e = .returned (.string ⟨X.toArray⟩) ∧ w = w' := fun w => (Tryz.strings_TrimPrefix ⟨l[k].toArray⟩ ⟨#[120]⟩ w).mono (by rintro e w' ⟨rfl, rfl⟩; exact ⟨by rw [show (⟨l[k].toArray⟩ : ByteArray).data.toList = l[k] from rfl, show (⟨#[120]⟩ : ByteArray).data.toList = [120] from rfl, hX], rfl⟩)
      have hq := libParseInt_any ⟨X.toArray⟩ wr (arr_sz _ hXl) (HL.out.on hbel)
      cases hpi : pInt X with
      | none =>
        have HN := Lib.hid (allT_no hlt (rdT_none (by rw [hX]; exact hpi)))
        have hq2 := ret2 hq (c := 0) (d := false) (by simp [hpi]) (by simp [hpi])
        clear hq hpi hX
        generalize l[k] = x at hc0 hqp
        go_wp2_with fail
        refine (hqp _).mono ?_
        rintro e w1' ⟨rfl, rfl⟩
        go_wp2_with fail
        refine hq2.mono ?_
        rintro e w1 ⟨rfl, hb1⟩
        clear hq2 hqp
        go_wp2
        go_ret2
        exact RtEnd.no HN.out rfl (bt hbel hb1)
      | some n =>
        have hnb := pInt_some hpi
        have hn1 := hnb.1
        have hn2 := hnb.2.1
        by_cases hXe : X = l[k]
        · have hr := rdT_same (by rw [hX]; exact hpi) (by rw [hX]; exact hXe)
          have HV2 := Lib.hid (valT_take hlt HV.out hr)
          have HA2 := Lib.hid (allT_take hlt HA.out hr)
          have hq2 := ret2 hq (c := n) (d := true) (by simp [hpi]) (by simp [hpi])
          have hbe : (X == l[k]) = true := by simp [hXe]
          clear hq hpi hnb hr hX hXe
          generalize l[k] = x at hc0 hqp hbe
          have hI : I64 n := ⟨by omega, by omega⟩
          go_wp2_with fail
          refine (hqp _).mono ?_
          rintro e w1' ⟨rfl, rfl⟩
          go_wp2_with fail
          refine hq2.mono ?_
          rintro e w1 ⟨rfl, hb1⟩
          clear hq2 hqp
          have hgr1 := hgr.below' good_int hb1
          have hbw := bt hbel hb1
          go_wp2_with (at_builtin; refine wpList_gr slInt good_int rfl _ _ rfl hgr1 hbw rfl #[.int .i64 n] n [] ⟨rfl, rfl, hI⟩ rfl (Fresh.nil _) (by simp) rfl (by simp [Value.oneCell']) (by omega) (by unfold maxLen; omega) ?_; intro g3 cap3 w2 f2 hgr3 hb3 hg3)
          go_roundw
          case rel => exact ⟨k + 1, g3, cap3, lo ++ [n], f2, by go_num, by omega, by simp, HV2, HA2, by simpa using hgr3, hb3⟩
          case measure => simp [intOf]; omega
        · have hr := rdT_ten (by rw [hX]; exact hpi) (by rw [hX]; exact hXe)
          have HV2 := Lib.hid (valT_take hlt HV.out hr)
          have HA2 := Lib.hid (allT_take hlt HA.out hr)
          have hq2 := ret2 hq (c := n) (d := true) (by simp [hpi]) (by simp [hpi])
          have hbe : (X == l[k]) = false := by simp [hXe]
          clear hq hpi hnb hr hX hXe
          generalize l[k] = x at hc0 hqp hbe
          have hI : I64 (n + 10) := ⟨by omega, by omega⟩
          have hte : n + (10 : Int) = n + 10 := rfl
          go_wp2_with fail
          refine (hqp _).mono ?_
          rintro e w1' ⟨rfl, rfl⟩
          go_wp2_with fail
          refine hq2.mono ?_
          rintro e w1 ⟨rfl, hb1⟩
          clear hq2 hqp
          have hgr1 := hgr.below' good_int hb1
          have hbw := bt hbel hb1
          go_wp2_with (at_builtin; refine wpList_gr slInt good_int rfl _ _ rfl hgr1 hbw rfl #[.int .i64 (n + 10)] (n + 10) [] ⟨rfl, rfl, hI⟩ rfl (Fresh.nil _) (by simp) rfl (by simp [Value.oneCell']) (by omega) (by unfold maxLen; omega) ?_; intro g3 cap3 w2 f2 hgr3 hb3 hg3)
          go_roundw
          case rel => exact ⟨k + 1, g3, cap3, lo ++ [n + 10], f2, by go_num, by omega, by simp, HV2, HA2, by simpa using hgr3, hb3⟩
          case measure => simp [intOf]; omega
    · have HT := Lib.hid (show l.take k = l from List.take_of_length_le (by omega))
      have hkl : ¬ (k : Int) < (l.length : Int) := by omega
      go_wp2
      go_ret2
      have hA := HA.out
      have hV := HV.out
      rw [HT.out] at hA hV
      exact RtEnd.yes _ lo fo hA hV rfl hgr.sl hgr.fresh hbel

/-- What reading an atom ends in. -/
def RaEnd (t : List UInt8) (w : World) (e : Ending) (w' : World) : Prop :=
  ∃ (v : Value) (f : List Nat), e = .returned (.tuple #[.agg #[.int .i64 (rdA t).rel, v], .bool (okA t)]) ∧ ints w' v (rdA t).terms f ∧ Fresh w.heap.size f ∧ Below w.heap.size w w'
theorem RaEnd.mk {t : List UInt8} {w w' : World} {e : Ending} (r : Int) (l : List Int) (k : Bool) (v : Value) (f : List Nat) (h1 : rdA t = ⟨r, l⟩) (h2 : okA t = k) (he : e = .returned (.tuple #[.agg #[.int .i64 r, v], .bool k])) (hi : ints w' v l f) (hf : Fresh w.heap.size f) (hb : Below w.heap.size w w') : RaEnd t w e w' :=
  ⟨v, f, by rw [h1, h2]; exact he, by rw [h1]; exact hi, hf, hb⟩
theorem rdA_none {t : List UInt8} (h : readC 114 t = none) : rdA t = ⟨0, []⟩ ∧ okA t = false := by unfold rdA okA; rw [h]; exact ⟨rfl, rfl⟩
theorem rdA_some {t : List UInt8} {r : Int} {ws : List (List UInt8)} (h : readC 114 t = some (r, ws)) : rdA t = ⟨r, if allT ws then valT ws else []⟩ ∧ okA t = allT ws := by unfold rdA okA; rw [h]; exact ⟨rfl, rfl⟩
set_option maxRecDepth 100000 in
set_option maxHeartbeats 3200000 in
theorem readAtom_any (t : ByteArray) (w : World) (ht : t.size ≤ 1048576) (hL : LibW w) :
    Calls Tryz.prog 182 #[.string t] w (RaEnd t.data.toList w) := by
  have htl : t.data.toList.length ≤ 1048576 := by simpa using ht
  have HLW := Lib.hid hL
  clear hL
  have hb0 : Below w.heap.size w (w.alloc (.cells #[.int .i64 0, .slice none 0 0] 69)) := ba (Below.refl _ _)
  have h40 : Two (w.alloc (.cells #[.int .i64 0, .slice none 0 0] 69)) w.heap.size (.int .i64 0) (.slice none 0 0) := Two.new _ _ _ _
  have hri := fun v l f (W : World) (h : slR 9 1 strR W v l f) hl hp (hW : LibW W) => readTerms_any v l f W h hl hp hW
  go_enter Tryz.func182, Tryz.ntmps182
  go_wp2_with fail
  refine (readCall_any 114 t _ ht (HLW.out.on hb0)).mono ?_
  rintro e w1 (⟨hrc, rfl, hb1⟩ | ⟨n, l, v, f, hrc, rfl, hp, hb1⟩)
  · have HR := Lib.hid (rdA_none hrc)
    clear hrc
    have B1 := bt hb0 hb1
    have H41 := Lib.hid (h40.below hb1)
    go_wp2_with fail
    refine (hri _ [] [] _ (slR.nilv _ _ _ _) (by simp) (by simp) (HLW.out.on B1)).mono ?_
    rintro e w2 ⟨vi, fi, rfl, hi, hfi, hb2⟩
    have B2 := bt B1 hb2
    obtain ⟨av, cv, rfl⟩ : ∃ a c, vi = .slice a 0 c := slR.form hi
    have h42 := H41.out.below hb2
    have Hnot := Lib.hid (show w.heap.size ∉ fi from fun hm => by have h1 := hfi.2 _ hm; have h2 := H41.out.lt; omega)
    have Hfr := Lib.hid (hfi.mono B1.size)
    have H42 := Lib.hid h42
    have h42c := h42
    obtain ⟨⟨r0, r1⟩, q0, q1⟩ := h42c
    clear hri
    go_wp2
    (try simp only [Exit.inBlock, Exit.then])
    refine bodyPost_ret (v := .tuple #[.agg #[.int .i64 0, .slice av 0 cv], .bool false]) ?_ rfl ?_
    · rw [results_cell_tmp rfl]
      simp [asAddr, Result.andThen, load_atom2 H42.out]
    · exact RaEnd.mk 0 [] false _ fi HR.out.1 HR.out.2 rfl (ints_two2 hi Hnot.out _ _) Hfr.out (below_two2 B2 (Nat.le_refl _) _ _)
  · have hrl := readC_len hrc
    have HR := Lib.hid (rdA_some hrc)
    clear hrc
    obtain ⟨hl1, hl2, hn1, hn2⟩ := hrl
    have HLp := Lib.hid (show ∀ p ∈ l, p.length ≤ 1048576 from fun p hp => by have := hl2 p hp; omega)
    clear hl2
    have B1 := bt hb0 hb1
    have H41 := Lib.hid (h40.below hb1)
    obtain ⟨ka, hka⟩ : ∃ ka, allT l = ka := ⟨_, rfl⟩
    have hq3 : Calls Tryz.prog 181 #[v] w1 fun e w' => ∃ (v : Value) (f : List Nat), e = .returned (.tuple #[v, .bool ka]) ∧ ints w' v (if ka then valT l else []) f ∧ Fresh w1.heap.size f ∧ Below w1.heap.size w1 w' := by
      have h2 := hri v l f w1 hp (by omega) HLp.out (HLW.out.on B1)
      unfold RtEnd at h2
      rw [hka] at h2
      exact h2
    obtain ⟨lo, hlo⟩ : ∃ lo, (if ka then valT l else []) = lo := ⟨_, rfl⟩
    have hR := HR.out
    rw [hka, hlo] at hR
    have HR := Lib.hid hR
    rw [hlo] at hq3
    clear hka hri hlo hR
    go_wp2_with fail
    refine hq3.mono ?_
    rintro e w2 ⟨vi, fi, rfl, hi, hfi, hb2⟩
    clear hq3
    have B2 := bt B1 hb2
    obtain ⟨av, cv, rfl⟩ := slR.form hi
    have h42 := H41.out.below hb2
    have Hnot := Lib.hid (show w.heap.size ∉ fi from fun hm => by have h1 := hfi.2 _ hm; have h2 := H41.out.lt; omega)
    have Hfr := Lib.hid (hfi.mono B1.size)
    have H42 := Lib.hid h42
    have h42c := h42
    obtain ⟨⟨r0, r1⟩, q0, q1⟩ := h42c
    cases ka with
    | false =>
      go_wp2
      (try simp only [Exit.inBlock, Exit.then])
      refine bodyPost_ret (v := .tuple #[.agg #[.int .i64 n, .slice av lo.length cv], .bool false]) ?_ rfl ?_
      · rw [results_cell_tmp rfl]
        simp [asAddr, Result.andThen, load_atom2 H42.out]
      · exact RaEnd.mk n lo _ _ fi HR.out.1 HR.out.2 rfl (ints_two2 hi Hnot.out _ _) Hfr.out (below_two2 B2 (Nat.le_refl _) _ _)
    | true =>
      go_wp2
      (try simp only [Exit.inBlock, Exit.then])
      refine bodyPost_ret (v := .tuple #[.agg #[.int .i64 n, .slice av lo.length cv], .bool true]) ?_ rfl ?_
      · rw [results_cell_tmp rfl]
        simp [asAddr, Result.andThen, load_atom2 H42.out]
      · exact RaEnd.mk n lo _ _ fi HR.out.1 HR.out.2 rfl (ints_two2 hi Hnot.out _ _) Hfr.out (below_two2 B2 (Nat.le_refl _) _ _)
end Go.Proofs.YtpdmdfkcaabnaaaGreatDoor
/- readQuery and ParseQuery of the program. Conditions: the text is no longer than 2^20; what the library's own variables hold. -/
namespace Go.Proofs.YtpdmdfkcaabnaaaGreatDoor
open Go.RowKit
set_option linter.unusedVariables false
set_option linter.unusedSimpArgs false
/-- What reading a query ends in. -/
def RqEnd (t : List UInt8) (w : World) (e : Ending) (w' : World) : Prop :=
  ∃ (vh va : Value) (k : Bool), e = .returned (.tuple #[.agg #[vh, va], .bool k]) ∧ Below w.heap.size w w' ∧
    ((k = false ∧ (okQ t = false ∨ queryFS (rdQ t) ≠ t) ∧ (∃ a n c, vh = .slice a n c) ∧ ∃ a n c, va = .slice a n c) ∨
     (k = true ∧ okQ t = true ∧ queryFS (rdQ t) = t ∧ ∃ fh fa, ints w' vh (rdQ t).head fh ∧ atoms w' va (rdQ t).atoms fa ∧ Fresh w.heap.size (fh ++ fa)))
theorem RqEnd.no {t : List UInt8} {w w' : World} {e : Ending} {a b : Option Addr} {n c n' c' : Nat} (he : e = .returned (.tuple #[.agg #[.slice a n c, .slice b n' c'], .bool false])) (h : okQ t = false ∨ queryFS (rdQ t) ≠ t) (hb : Below w.heap.size w w') : RqEnd t w e w' :=
  ⟨_, _, false, he, hb, .inl ⟨rfl, h, ⟨_, _, _, rfl⟩, _, _, _, rfl⟩⟩
theorem RqEnd.yes {t : List UInt8} {w w' : World} {e : Ending} (q : QueryD) (vh va : Value) (fh fa : List Nat) (he : e = .returned (.tuple #[.agg #[vh, va], .bool true])) (hq : rdQ t = q) (h : okQ t = true) (h2 : queryFS q = t) (h3 : ints w' vh q.head fh) (h4 : atoms w' va q.atoms fa) (h5 : Fresh w.heap.size (fh ++ fa)) (hb : Below w.heap.size w w') : RqEnd t w e w' :=
  ⟨vh, va, true, he, hb, .inr ⟨rfl, h, by rw [hq]; exact h2, fh, fa, by rw [hq]; exact h3, by rw [hq]; exact h4, h5⟩⟩
theorem rdA_bd (t : List UInt8) : -999999999 ≤ (rdA t).rel ∧ (rdA t).rel ≤ 999999999 := by
  unfold rdA
  split
  · rename_i h; exact (readC_len h).2.2
  · exact ⟨by decide, by decide⟩
theorem cut_found (t sep : List UInt8) (h : (Lib.cut t sep).2.2 = true) : (Lib.cut t sep).1.length + sep.length + (Lib.cut t sep).2.1.length = t.length := by
  unfold Lib.cut at h ⊢
  split
  · rename_i h2
    have := Lib.index_room t sep h2
    simp only [List.length_take, List.length_drop]
    omega
  · rename_i h2; rw [if_neg h2] at h; cases h
theorem rdA_len (t : List UInt8) : (rdA t).terms.length ≤ t.length := by
  unfold rdA
  split
  · rename_i r ws h
    have hw : ws.length ≤ t.length := by
      unfold readC at h
      split at h
      · rename_i h2
        simp only [Option.some.injEq, Prod.mk.injEq] at h
        have h3 := cut_found t [40] h2.1
        have h4 := Lib.trimSuffix_le (Lib.cut t [40]).2.1 [41]
        rw [← h.2]
        unfold wordsC
        split
        · simp
        · have := cutL_len 44 (Lib.trimSuffix (Lib.cut t [40]).2.1 [41])
          simp only [List.length_cons, List.length_nil] at h3
          omega
      · cases h
    simp only
    split
    · unfold valT; rw [List.length_map]; exact hw
    · simp
  · simp
theorem split_sum (sep : List UInt8) (h1 : 1 ≤ sep.length) : ∀ (k : Nat) (s : List UInt8), ((Lib.splitK sep 0 k s).map List.length).sum + (Lib.splitK sep 0 k s).length ≤ s.length + 1
  | 0, s => by simp [Lib.splitK]
  | k + 1, s => by
    unfold Lib.splitK
    split
    · simp
    · rename_i h
      have ih := split_sum sep h1 k (s.drop ((Lib.index s sep).toNat + sep.length))
      have h2 : 0 ≤ Lib.index s sep := by
        rcases Lib.index_spec s sep with ⟨h3, _⟩ | ⟨i, h3, _⟩
        · rw [h3] at h; simp at h
        · omega
      have h3 := Lib.index_room s sep h2
      simp only [List.map_cons, List.sum_cons, List.length_cons, List.length_take, List.length_drop] at ih ⊢
      omega
theorem rdA_sum : ∀ l : List (List UInt8), (termsL (l.map rdA)).length ≤ (l.map List.length).sum
  | [] => by simp [termsL]
  | p :: r => by
    have ih := rdA_sum r
    have hp := rdA_len p
    unfold termsL at ih ⊢
    simp only [List.map_cons, List.flatMap_cons, List.length_append, List.sum_cons]
    omega
theorem okQ_cut {t : List UInt8} (h : (Lib.cut t ifS).2.2 = false) : okQ t = false := by unfold okQ; rw [h]; rfl
theorem okQ_head {t : List UInt8} (h1 : (Lib.cut t ifS).1 ≠ yesS) (h : allT (cutL 44 (Lib.cut t ifS).1) = false) : okQ t = false := by unfold okQ; rw [h, decide_eq_false h1]; simp
theorem okQ_parts {t : List UInt8} {W : List (List UInt8)} (hW : partsQ (Lib.cut t ifS).2.1 = W) (h : (∃ p ∈ W, okA p = false) ∨ 4 < W.length) : okQ t = false := by
  unfold okQ
  rw [hW]
  rcases h with ⟨p, hp, h⟩ | h
  · have : W.all okA = false := by rw [List.all_eq_false]; exact ⟨p, hp, by rw [h]; simp⟩
    rw [this]; simp
  · rw [decide_eq_false (show ¬ W.length ≤ 4 by omega)]; simp
theorem okQ_yes {t : List UInt8} {W : List (List UInt8)} (hW : partsQ (Lib.cut t ifS).2.1 = W) (h0 : (Lib.cut t ifS).2.2 = true) (h1 : (Lib.cut t ifS).1 = yesS ∨ allT (cutL 44 (Lib.cut t ifS).1) = true) (h2 : W.all okA = true) (h3 : W.length ≤ 4) : okQ t = true := by
  unfold okQ
  rw [hW, h0, h2, decide_eq_true h3]
  rcases h1 with h1 | h1
  · rw [decide_eq_true h1]; rfl
  · rw [h1]; simp
theorem rdQ_parts {t : List UInt8} {W : List (List UInt8)} (hW : partsQ (Lib.cut t ifS).2.1 = W) : rdQ t = ⟨if (Lib.cut t ifS).1 = yesS then [] else valT (cutL 44 (Lib.cut t ifS).1), W.map rdA⟩ := by unfold rdQ; rw [hW]

set_option maxRecDepth 100000 in
set_option maxHeartbeats 12800000 in
theorem readQuery_any (t : ByteArray) (w : World) (ht : t.size ≤ 1048576) (hL : LibW w) :
    Calls Tryz.prog 117 #[.string t] w (RqEnd t.data.toList w) := by
  have htl : t.data.toList.length ≤ 1048576 := by simpa using ht
  have HLW := Lib.hid hL
  obtain ⟨m, hm⟩ := hL.2.2.2
  clear hL
  have hb0 : Below w.heap.size w (w.alloc (.cells #[.slice none 0 0, .slice none 0 0] 58)) := ba (Below.refl _ _)
  have h40 : Two (w.alloc (.cells #[.slice none 0 0, .slice none 0 0] 58)) w.heap.size (.slice none 0 0) (.slice none 0 0) := Two.new _ _ _ _
  have hcl := cut_le t.data.toList ifS
  obtain ⟨A, hA⟩ : ∃ A, (Lib.cut t.data.toList ifS).1 = A := ⟨_, rfl⟩
  obtain ⟨R, hR⟩ : ∃ R, (Lib.cut t.data.toList ifS).2.1 = R := ⟨_, rfl⟩
  obtain ⟨ki, hki⟩ : ∃ k, (Lib.cut t.data.toList ifS).2.2 = k := ⟨_, rfl⟩
  obtain ⟨W, hW⟩ : ∃ W, partsQ R = W := ⟨_, rfl⟩
  have hsum : (W.map List.length).sum + W.length ≤ R.length + 1 := by rw [← hW]; exact split_sum andS (by decide) _ R
  have HcN := Lib.hid (show ki = false → okQ t.data.toList = false from fun e => okQ_cut (by rw [hki]; exact e))
  have HcH := Lib.hid (show A ≠ yesS → allT (cutL 44 A) = false → okQ t.data.toList = false from fun e1 e2 => okQ_head (by rw [hA]; exact e1) (by rw [hA]; exact e2))
  have HOQ := Lib.hid (show ((∃ p ∈ W, okA p = false) ∨ 4 < W.length) → okQ t.data.toList = false from fun h => okQ_parts (by rw [hR]; exact hW) h)
  have HOY0 := Lib.hid (show ki = true → (A = yesS ∨ allT (cutL 44 A) = true) → W.all okA = true → W.length ≤ 4 → okQ t.data.toList = true from fun h0 h1 h2 h3 => okQ_yes (by rw [hR]; exact hW) (hki.trans h0) (by rw [hA]; exact h1) h2 h3)
  have HRQ0 := Lib.hid (show rdQ t.data.toList = ⟨if A = yesS then [] else valT (cutL 44 A), W.map rdA⟩ by rw [rdQ_parts (W := W) (by rw [hR]; exact hW), hA])
  have Hlen := Lib.hid (show ki = true → A.length + 4 + R.length = t.data.toList.length from fun h => by
    have h2 := cut_found t.data.toList ifS (hki.trans h)
    rw [hA, hR] at h2; exact h2)
  have hqc : ∀ w', w'.cell? ⟨0, 0, none⟩ = some (.int .i64 m) → Calls Tryz.prog 180 #[.string t, .string ⟨#[32, 105, 102, 32]⟩] w' fun e w'' => e = .returned (.tuple #[.string ⟨A.toArray⟩, .string ⟨R.toArray⟩, .bool ki]) ∧ Below w'.heap.size w' w'' := fun w' h => (Tryz.strings_Cut t ⟨#[32, 105, 102, 32]⟩ m w' (by omega) h).mono (by
    rintro e w'' ⟨rfl, n, rfl⟩
    refine ⟨?_, (Qt.dn _ n).below⟩
    rw [show (⟨#[32, 105, 102, 32]⟩ : ByteArray).data.toList = ifS from rfl, hA, hR, hki])
  rw [hA, hR] at hcl
  clear hA hR hki
  have HRs := Lib.hid (arr_sz R (by omega))
  have HAs := Lib.hid (arr_sz A (by omega))
  have hqs : ∀ w', LibW w' → Calls Tryz.prog 95 #[.string ⟨R.toArray⟩, .string ⟨#[32, 97, 110, 100, 32]⟩] w' (CutEnd W w') := fun w' h => by
    have h2 : Calls Tryz.prog 95 #[.string ⟨R.toArray⟩, .string ⟨#[32, 97, 110, 100, 32]⟩] w' (CutEnd (partsQ R) w') := split_any ⟨R.toArray⟩ ⟨#[32, 97, 110, 100, 32]⟩ w' HRs.out (by simp [ByteArray.size]) h.2.2.2
    rwa [hW] at h2
  clear hW
  have HWp := Lib.hid (show ∀ p ∈ W, p.length ≤ 1048576 from fun p hp => by have h2 := sum_ge_mem (f := List.length) hp; have h3 := List.length_pos_of_mem hp; omega)
  have hWl : W.length ≤ 1048577 := by omega
  have HTW := Lib.hid (show ki = true → (termsL (W.map rdA)).length ≤ 1048576 from fun h => by have h1 := rdA_sum W; have h2 := Hlen.out h; have h3 : 0 ≤ W.length := Nat.zero_le _; rcases Nat.eq_zero_or_pos W.length with h4 | h4 <;> omega)
  clear hsum
  go_enter Tryz.func117, Tryz.ntmps117
  go_wp2_with fail
  refine (hqc _ (cell_below hm hb0)).mono ?_
  rintro e w1 ⟨rfl, hb1⟩
  clear hqc
  have B1 := bt hb0 hb1
  have h41 := h40.below hb1
  cases ki with
  | false =>
    have HN := Lib.hid (HcN.out rfl)
    have H4e := Lib.hid h41
    have H4y := H4e.out
    obtain ⟨⟨r0, r1⟩, q0, q1⟩ := H4y
    go_wp2
    (try simp only [Exit.inBlock, Exit.then])
    refine bodyPost_ret (v := .tuple #[.agg #[.slice none 0 0, .slice none 0 0], .bool false]) ?_ rfl ?_
    · rw [results_cell_tmp rfl]
      simp [asAddr, Result.andThen, load_query2 H4e.out]
    · exact RqEnd.no rfl (.inl HN.out) (below_two2 B1 (Nat.le_refl _) _ _)
  | true =>
    have HTW2 := Lib.hid (HTW.out rfl)
    clear HTW
    have HLn := Lib.hid (Hlen.out rfl)
    have hwg : w.heap.size ≠ w1.heap.size := by have := h41.lt; omega
    have hba1 : Below w1.heap.size w1 (w1.alloc (.cells #[.slice none 0 0, .slice none 0 0] 58)) := ba (Below.refl _ _)
    have F0 : Two (w1.alloc (.cells #[.slice none 0 0, .slice none 0 0] 58)) w1.heap.size (.slice none 0 0) (.slice none 0 0) := Two.new _ _ _ _
    by_cases hyes : A = [121, 101, 115]
    · have hyb : (A == [121, 101, 115]) = true := by simp [hyes]
      have HRQ := Lib.hid (show rdQ t.data.toList = ⟨[], W.map rdA⟩ by rw [HRQ0.out, if_pos (show A = yesS from hyes)])
      have HOY := Lib.hid (show W.all okA = true → W.length ≤ 4 → okQ t.data.toList = true from HOY0.out rfl (.inl hyes))
      clear hyes
      have Fz := F0
      have Bz := bt B1 hba1
      have H4z := Lib.hid (h41.below hba1)
      have hh0 : ints (w1.alloc (.cells #[.slice none 0 0, .slice none 0 0] 58)) (.slice none 0 0) [] [] := slR.nilv _ _ _ _
      have hhb : ([] : List Int).length ≤ 1048576 := by simp
      have Hgh := Lib.hid (show w1.heap.size ∉ ([] : List Nat) by simp)
      have Hfh := Lib.hid (Fresh.nil (w1.heap.size + 1))
      go_wp2_with fail
      refine (hqs _ (HLW.out.on Bz)).mono ?_
      rintro e w5 ⟨gs, cs, f5, rfl, hgs, hb5⟩
      have B5 := bt Bz hb5
      have F5 := Fz.below hb5
      have H45 := Lib.hid (H4z.out.below hb5)
      have hh5 := hh0.below' hb5
      have hfhl := Lib.hid hh5.lt
      have hgsz : (w1.alloc (.cells #[.slice none 0 0, .slice none 0 0] 58)).heap.size ≤ gs := gr_base hgs gs rfl
      have hgsg : gs ≠ w1.heap.size := by have := Fz.lt; omega
      have h15 : w1.heap.size < w5.heap.size := F5.lt
      clear Fz hh0 hb5 hqs
      go_wp2
      go_loopw [40] (fun i wr => ∃ (k : Nat) (va : Value) (lo : List AtomD) (fo : List Nat), i = .int .i64 (k : Int) ∧ k ≤ W.length ∧ Hid (lo.length = k) ∧ k ≤ 4 ∧ Hid (lo = (W.take k).map rdA) ∧ Hid ((W.take k).all okA = true) ∧ Two wr w1.heap.size (.slice none 0 0) va ∧ grR 69 2 atomR w5.heap.size wr va lo fo ∧ SX [w1.heap.size] w5 wr ∧ Below w.heap.size w wr) (fun i _ => W.length - (intOf i).toNat)
      case atStart => exact ⟨0, _, [], [], rfl, Nat.zero_le _, Lib.hid rfl, by omega, Lib.hid (by simp), Lib.hid (by simp), F5, grR.nilv atomR, SX.refl _ _, B5⟩
      case round =>
        obtain ⟨k, va, la, fa, rfl, hk, Hlk, hk4, Hla, HAl, Fq, hgq, hsq, Bq⟩ := hrel
        obtain ⟨av2, cv2, rfl⟩ := slR.form hgq.sl
        have hl4 : la.length ≤ 4 := by have := Hlk.out; omega
        by_cases hlt : k < W.length
        · have hkl : (k : Int) < (W.length : Int) := by omega
          have hk0 : (0 : Int) ≤ (k : Int) := by omega
          have pk := hsq.cell (strs_at hgs rfl k hlt) (by simpa using hgsg)
          have Hsz := Lib.hid (arr_sz _ (HWp.out W[k] (List.getElem_mem hlt)))
          have hqa : ∀ (x : World), LibW x → Calls Tryz.prog 182 #[.string ⟨W[k].toArray⟩] x fun e w' => ∃ (vi : Value) (fi : List Nat), e = .returned (.tuple #[.agg #[.int .i64 (rdA W[k]).rel, vi], .bool (okA W[k])]) ∧ ints w' vi (rdA W[k]).terms fi ∧ Fresh x.heap.size fi ∧ Below x.heap.size x w' := fun x hx => readAtom_any ⟨W[k].toArray⟩ x Hsz.out hx
          have hrb := rdA_bd W[k]
          have HS := Lib.hid (show la ++ [rdA W[k]] = (W.take (k + 1)).map rdA by rw [Hla.out, List.take_succ_eq_append_getElem hlt, List.map_append]; rfl)
          have HA2 := Lib.hid (show okA W[k] = true → (W.take (k + 1)).all okA = true from fun h => by rw [List.take_succ_eq_append_getElem hlt, List.all_append, HAl.out]; simp [h])
          have HN1 := Lib.hid (show okA W[k] = false → okQ t.data.toList = false from fun h => HOQ.out (.inl ⟨W[k], List.getElem_mem hlt, h⟩))
          have hlq : (rdA W[k]).terms.length ≤ 1048576 := Nat.le_trans (rdA_len W[k]) (HWp.out W[k] (List.getElem_mem hlt))
          generalize rdA W[k] = ax at hqa hrb HS hlq
          generalize okA W[k] = ok at hqa HA2 HN1
          generalize W[k] = x at pk Hsz hqa
          have hI : I64 ax.rel := ⟨by omega, by omega⟩
          go_wp2_with fail
          refine (hqa _ (HLW.out.on Bq)).mono ?_
          rintro e w3 ⟨vt, fi, rfl, hi3, hfi, hb3⟩
          clear hqa
          obtain ⟨pt, qt, rfl⟩ := slR.form hi3
          have hbx : Below w3.heap.size w3 (w3.alloc (.cells #[.int .i64 ax.rel, .slice pt ax.terms.length qt] 69)) := ba (Below.refl _ _)
          have hb3x := bt hb3 hbx
          have F3 := Fq.below hb3x
          have B3 := bt Bq hb3x
          have H43 := Lib.hid ((H45.out.sx hsq (by simpa using hwg)).below hb3x)
          cases ok with
          | false =>
            have HN := Lib.hid (HN1.out rfl)
            have H4e := H43
            have H4y := H4e.out
            obtain ⟨⟨r0, r1⟩, q0, q1⟩ := H4y
            go_wp2
            (try simp only [Exit.inBlock, Exit.then])
            refine bodyPost_ret (v := .tuple #[.agg #[.slice none 0 0, .slice none 0 0], .bool false]) ?_ rfl ?_
            · rw [results_cell_tmp rfl]
              simp [asAddr, Result.andThen, load_query2 H4e.out]
            · exact RqEnd.no rfl (.inl HN.out) (below_two2 B3 (Nat.le_refl _) _ _)
          | true =>
            have F3' := F3
            obtain ⟨⟨f0, f1⟩, y0, y1⟩ := F3'
            by_cases hk5 : k = 4
            · have hk4b : ((la.length : Int) == 4) = true := by have := Hlk.out; simp; omega
              have HN := Lib.hid (HOQ.out (.inr (show 4 < W.length by omega)))
              have H4e := H43
              have H4y := H4e.out
              obtain ⟨⟨r0, r1⟩, q0, q1⟩ := H4y
              go_wp2
              (try simp only [Exit.inBlock, Exit.then])
              refine bodyPost_ret (v := .tuple #[.agg #[.slice none 0 0, .slice none 0 0], .bool false]) ?_ rfl ?_
              · rw [results_cell_tmp rfl]
                simp [asAddr, Result.andThen, load_query2 H4e.out]
              · exact RqEnd.no rfl (.inl HN.out) (below_two2 B3 (Nat.le_refl _) _ _)
            · have hk4b : ((la.length : Int) == 4) = false := by have := Hlk.out; rw [beq_eq_false_iff_ne]; omega
              have Htt : Two (w3.alloc (.cells #[.int .i64 ax.rel, .slice pt ax.terms.length qt] 69)) w3.heap.size (.int .i64 ax.rel) (.slice pt ax.terms.length qt) := Two.new _ _ _ _
              have Htt' := Htt
              obtain ⟨⟨e0, e1⟩, _, _⟩ := Htt'
              have hgr3 := hgq.below' good_atom hb3x
              have s3 : SX [w1.heap.size] w5 (w3.alloc (.cells #[.int .i64 ax.rel, .slice pt ax.terms.length qt] 69)) := hsq.below hb3x
              have hle : w5.heap.size ≤ (w3.alloc (.cells #[.int .i64 ax.rel, .slice pt ax.terms.length qt] 69)).heap.size := s3.1
              have hcb := cutW_below hle
              have hfr3 := hfi.mono hsq.1
              have hi4 := hi3.below' hbx
              have hdis : ∀ g ∈ fi, g ∉ fa := fun g hg hm => (by have h1 := hfi.2 g hg; have h2 := grR.lt good_atom hgq g hm; omega)
              rw [← cutW_size hle] at hgr3 hfr3
              go_wp2_with (at_builtin; refine wpList_gr2 slAtomS good_atom rfl _ _ rfl hgr3 hcb rfl #[.int .i64 ax.rel, .slice pt ax.terms.length qt] ax fi ⟨_, rfl, hI, hi4⟩ rfl hfr3 hdis (w3.heap.size + 1) (by simp) rfl (by simp [Value.oneCell']) (by omega) (by unfold maxLen; omega) ?_; intro g4 cap4 w4 fo4 hgr4 hb4 hg4 _ _; rw [cutW_size hle] at hgr4; have hown : ∀ j, (Value.slice av2 la.length cv2).ownBlock = some j → w5.heap.size ≤ j := gr_base hgq; have s4 : SX [w1.heap.size] w5 w4 := s3.grownBy hg4 hown; have s34 := SX.of_grown hg4; have hno : w1.heap.size ∉ (Value.slice av2 la.length cv2).ownBlock.toList := own_not hown h15; have F4 := F3.sx s34 hno; have B4 : Below w.heap.size w w4 := B3.trans (below_of_grown hg4 B3.size fun j hj => Nat.le_trans B5.size (hown j hj)); have F4' := F4; obtain ⟨⟨x0, x1⟩, z0, z1⟩ := F4')
              have Hgr5 := Lib.hid (hgr4.frame good_atom fun j hj => Below.heap_setCell w4 ⟨w1.heap.size, 1, none⟩ (.slice (some ⟨g4, 0, none⟩) (la.length + 1) cap4) j (fun e => by
                have h1 := hgr4.fresh.2 j hj
                simp only [] at e
                omega))
              have HF5 := Lib.hid (F4.set1 (.slice (some ⟨g4, 0, none⟩) (la.length + 1) cap4))
              have HB5 := Lib.hid (bs (u := .slice (some ⟨g4, 0, none⟩) (la.length + 1) cap4) B4 (p := ⟨w1.heap.size, 1, none⟩) B1.size)
              have HS5 := Lib.hid (s4.setIn 1 (.slice (some ⟨g4, 0, none⟩) (la.length + 1) cap4))
              have HA3 := Lib.hid (HA2.out (by simp))
              have HL6 := Lib.hid (show (la ++ [ax]).length = k + 1 by have := Hlk.out; simp; omega)
              clear hgr4 F4 s4 F3 s3 hgr3 hcb s34 hi3 hfi hfr3 hi4
              go_roundw
              case rel => exact ⟨k + 1, _, la ++ [ax], fo4, by go_num, by omega, HL6, by omega, HS, HA3, HF5.out, by simpa using Hgr5.out, HS5.out, HB5.out⟩
              case measure => simp [intOf]; omega
        · have hkk : k = W.length := by omega
          have HQ := Lib.hid (show rdQ t.data.toList = ⟨[], la⟩ by
            rw [HRQ.out, Hla.out, hkk, List.take_length])
          have HOK := Lib.hid (show okQ t.data.toList = true from HOY.out (by have h := HAl.out; rw [hkk, List.take_length] at h; exact h) (by omega))
          have HT : (termsL (⟨[], la⟩ : QueryD).atoms).length ≤ 1048576 := by
            have h1 := HTW2.out
            have h2 : la = W.map rdA := by rw [Hla.out, hkk, List.take_length]
            rw [← h2] at h1
            exact h1
          clear hkk
          have hha : atoms wr (.slice av2 la.length cv2) (⟨[], la⟩ : QueryD).atoms fa := hgq.sl
          have hhq : ints wr (.slice none 0 0) (⟨[], la⟩ : QueryD).head [] := hh5.frame fun j hj => hsq.2 j (hfhl.out j hj) (by intro hm; rw [List.mem_singleton] at hm; subst hm; exact Hgh.out hj)
          have Hnh := Lib.hid (show w.heap.size ∉ [] from fun hm => by have h1 := Hfh.out.2 _ hm; have := B1.size; omega)
          have Hna := Lib.hid (show w.heap.size ∉ fa from fun hm => by have h1 := hgq.fresh.2 _ hm; have h2 := H45.out.lt; omega)
          have Hfr := Lib.hid (show Fresh w.heap.size ([] ++ fa) from ⟨List.nodup_append.2 ⟨Hfh.out.1, hgq.fresh.1, fun a ha b hb e => by
            subst e
            have h1 := hfhl.out a ha
            have h2 := hgq.fresh.2 a hb
            omega⟩, fun a ha => (List.mem_append.1 ha).elim (fun h => Nat.le_trans B1.size (Nat.le_of_succ_le (Hfh.out.2 a h))) (fun h => Nat.le_trans B5.size (hgq.fresh.2 a h))⟩)
          have H4q := Lib.hid (H45.out.sx hsq (by simpa using hwg))
          have hkl : ¬ (k : Int) < (W.length : Int) := by omega
          have Fq2 := Fq
          obtain ⟨⟨f0, f1⟩, y0, y1⟩ := Fq2
          obtain ⟨q, hq⟩ : ∃ q, (⟨[], la⟩ : QueryD) = q := ⟨_, rfl⟩
          have hla4 : q.atoms.length ≤ 1048576 := by rw [← hq]; show la.length ≤ 1048576; omega
          have hlh : q.head.length ≤ 1048576 := by rw [← hq]; exact hhb
          rw [hq] at HQ HT hha hhq
          clear hq
          have hqf := fun (x : World) (hx : Below w.heap.size w x) (h1 : ints x (.slice none 0 0) q.head []) (h2 : atoms x (.slice av2 la.length cv2) q.atoms fa) => implFormatQuery_any q (.slice none 0 0) [] (.slice av2 la.length cv2) fa x h1 h2 HT hlh hla4 (HLW.out.on hx).2.2.1
          by_cases heq : queryFS q = t.data.toList
          · have hse := str_eq heq
            have Heq := Lib.hid heq
            clear heq
            rw [hse] at hqf
            clear hse
            go_wp2_with fail
            go_region_law (go_simp
                           go_wp2_with (go_at_call 36
                                        refine (hqf _ ?_ (hhq.below' ?_) (hha.below' ?_)).mono ?_
                                        · (repeat (first | exact Bq | refine bdr ?_))
                                        · (repeat (first | exact Below.refl _ _ | refine bdr ?_))
                                        · (repeat (first | exact Below.refl _ _ | refine bdr ?_))
                                        rintro e we ⟨rfl, hbe'⟩
                                        have hbe : Below wr.heap.size wr we := bt (by (repeat (first | exact Below.refl _ _ | refine bdr ?_))) hbe'
                                        have d0 : we.cell? ⟨w1.heap.size, 0, none⟩ = some ((.slice none 0 0)) := cell_below f0 hbe
                                        have d1 : we.cell? ⟨w1.heap.size, 1, none⟩ = some (.slice av2 la.length cv2) := cell_below f1 hbe
                                        have H4e := Lib.hid (H4q.out.below hbe)
                                        have H4y := H4e.out
                                        obtain ⟨⟨r0, r1⟩, q0, q1⟩ := H4y))
            all_goals
              go_wp2
              (try simp only [Exit.inBlock, Exit.then])
              refine bodyPost_ret (v := .tuple #[.agg #[(.slice none 0 0), .slice av2 la.length cv2], .bool true]) ?_ rfl ?_
              · rw [results_cell_tmp rfl]
                simp [asAddr, Result.andThen, load_query2 H4e.out, Act.put]
              · exact RqEnd.yes q _ _ _ _ rfl HQ.out HOK.out Heq.out (ints_two2 (ints.below' hhq hbe) Hnh.out _ _) (atoms_two2 (atoms.below' hha hbe) Hna.out _ _) Hfr.out (below_two2 (bt Bq hbe) (Nat.le_refl _) _ _)
          · have hse := str_ne heq
            have Heq := Lib.hid heq
            clear heq
            go_wp2_with fail
            go_region_law (go_simp
                           go_wp2_with (go_at_call 36
                                        refine (hqf _ ?_ (hhq.below' ?_) (hha.below' ?_)).mono ?_
                                        · (repeat (first | exact Bq | refine bdr ?_))
                                        · (repeat (first | exact Below.refl _ _ | refine bdr ?_))
                                        · (repeat (first | exact Below.refl _ _ | refine bdr ?_))
                                        rintro e we ⟨rfl, hbe'⟩
                                        have hbe : Below wr.heap.size wr we := bt (by (repeat (first | exact Below.refl _ _ | refine bdr ?_))) hbe'
                                        have d0 : we.cell? ⟨w1.heap.size, 0, none⟩ = some ((.slice none 0 0)) := cell_below f0 hbe
                                        have d1 : we.cell? ⟨w1.heap.size, 1, none⟩ = some (.slice av2 la.length cv2) := cell_below f1 hbe
                                        have H4e := Lib.hid (H4q.out.below hbe)
                                        have H4y := H4e.out
                                        obtain ⟨⟨r0, r1⟩, q0, q1⟩ := H4y))
            all_goals
              go_wp2
              (try simp only [Exit.inBlock, Exit.then])
              refine bodyPost_ret (v := .tuple #[.agg #[(.slice none 0 0), .slice av2 la.length cv2], .bool false]) ?_ rfl ?_
              · rw [results_cell_tmp rfl]
                simp [asAddr, Result.andThen, load_query2 H4e.out, Act.put]
              · exact RqEnd.no rfl (.inr (by rw [HQ.out]; exact Heq.out)) (below_two2 (bt Bq hbe) (Nat.le_refl _) _ _)
    · have hyb : (A == [121, 101, 115]) = false := by simp [hyes]
      obtain ⟨L, hL⟩ : ∃ L, cutL 44 A = L := ⟨_, rfl⟩
      have hLn : L.length ≤ 1048576 := by rw [← hL]; have := cutL_len 44 A; have := HLn.out; omega
      have HLp := Lib.hid (show ∀ p ∈ L, p.length ≤ 1048576 from fun p hp => Nat.le_trans (cutL_piece 44 _ p (by rw [hL]; exact hp)) (by omega))
      have HRQ1 := Lib.hid (show rdQ t.data.toList = ⟨valT L, W.map rdA⟩ by rw [HRQ0.out, if_neg (show A ≠ yesS from hyes), hL])
      have HcH2 := Lib.hid (show allT L = false → okQ t.data.toList = false from fun h => HcH.out hyes (by rw [hL]; exact h))
      have HOY1 := Lib.hid (show allT L = true → W.all okA = true → W.length ≤ 4 → okQ t.data.toList = true from fun h => HOY0.out rfl (.inr (by rw [hL]; exact h)))
      clear hyes
      have Bz1 := bt B1 hba1
      have hsp := split1_any ⟨A.toArray⟩ 44 _ HAs.out (HLW.out.on Bz1).2.2.2
      rw [show cutL 44 (⟨A.toArray⟩ : ByteArray).data.toList = L from hL] at hsp
      clear hL
      have Hba1 := Lib.hid hba1
      go_wp2_with fail
      refine hsp.mono ?_
      rintro e w2 ⟨gp, cp, fp, rfl, hgp, hbp⟩
      clear hsp
      have Bp := bt Bz1 hbp
      obtain ⟨ka, hka⟩ : ∃ ka, allT L = ka := ⟨_, rfl⟩
      have hq3 : ∀ v f, slR 9 1 strR w2 v L f → Calls Tryz.prog 181 #[v] w2 fun e w' => ∃ (v : Value) (f : List Nat), e = .returned (.tuple #[v, .bool ka]) ∧ ints w' v (if ka then valT L else []) f ∧ Fresh w2.heap.size f ∧ Below w2.heap.size w2 w' := fun v f h => by
        have h2 := readTerms_any v L f w2 h (by omega) HLp.out (HLW.out.on Bp)
        unfold RtEnd at h2
        rw [hka] at h2
        exact h2
      have HKA := Lib.hid hka
      clear hka
      have hsl := hgp.sl
      go_wp2_with fail
      refine (hq3 _ _ hsl).mono ?_
      rintro e w3 ⟨vi, fi, rfl, hi, hfi, hb3⟩
      clear hq3 hsl
      have B3 := bt Bp hb3
      have hb13 := bt hbp hb3
      have h12 : w1.heap.size < w2.heap.size := Nat.lt_of_lt_of_le (by simp only [World.alloc, Array.size_push]; omega) hbp.size
      have F3 := F0.below hb13
      have F3' := F3
      obtain ⟨⟨f0, f1⟩, y0, y1⟩ := F3'
      have Hgh := Lib.hid (show w1.heap.size ∉ fi from fun hm => by have := hfi.2 _ hm; omega)
      have H43 := Lib.hid ((h41.below Hba1.out).below hb13)
      cases ka with
      | false =>
        have HN := Lib.hid (HcH2.out HKA.out)
        have H4e := H43
        have H4y := H4e.out
        obtain ⟨⟨r0, r1⟩, q0, q1⟩ := H4y
        go_wp2
        (try simp only [Exit.inBlock, Exit.then])
        refine bodyPost_ret (v := .tuple #[.agg #[.slice none 0 0, .slice none 0 0], .bool false]) ?_ rfl ?_
        · rw [results_cell_tmp rfl]
          simp [asAddr, Result.andThen, load_query2 H4e.out]
        · exact RqEnd.no rfl (.inl HN.out) (below_two2 B3 (Nat.le_refl _) _ _)
      | true =>
        have HRQ := HRQ1
        have HOY := Lib.hid (HOY1.out HKA.out)
        rw [if_pos rfl] at hi
        have hhb : (valT L).length ≤ 1048576 := by unfold valT; rw [List.length_map]; exact hLn
        obtain ⟨lh, hlh0⟩ : ∃ lh, valT L = lh := ⟨_, rfl⟩
        rw [hlh0] at hi hhb
        have HRQ1 := Lib.hid (show rdQ t.data.toList = ⟨lh, W.map rdA⟩ by rw [HRQ.out, hlh0])
        clear HRQ
        have HRQ := HRQ1
        clear hlh0
        obtain ⟨av, cv, rfl⟩ := slR.form hi
        have Fz : Two (w3.setCell ⟨w1.heap.size, 0, none⟩ (.slice av lh.length cv)) w1.heap.size (.slice av lh.length cv) (.slice none 0 0) := F3.set0 _
        have Bz : Below w.heap.size w (w3.setCell ⟨w1.heap.size, 0, none⟩ (.slice av lh.length cv)) := bs B3 B1.size
        have H4z := Lib.hid (H43.out.sx (SX.set (w := w3) ⟨w1.heap.size, 0, none⟩ (.slice av lh.length cv)) (by simpa using hwg))
        have hh0 := hi.far (p := ⟨w1.heap.size, 0, none⟩) Hgh.out (.slice av lh.length cv)
        have Hfh := Lib.hid (hfi.mono (show w1.heap.size + 1 ≤ w2.heap.size from h12))
        clear hi hfi hgp F0 F3 HRQ1
        go_wp2_with fail
        refine (hqs _ (HLW.out.on Bz)).mono ?_
        rintro e w5 ⟨gs, cs, f5, rfl, hgs, hb5⟩
        have B5 := bt Bz hb5
        have F5 := Fz.below hb5
        have H45 := Lib.hid (H4z.out.below hb5)
        have hh5 := hh0.below' hb5
        have hfhl := Lib.hid hh5.lt
        have hgsz : (w3.setCell ⟨w1.heap.size, 0, none⟩ (.slice av lh.length cv)).heap.size ≤ gs := gr_base hgs gs rfl
        have hgsg : gs ≠ w1.heap.size := by have := Fz.lt; omega
        have h15 : w1.heap.size < w5.heap.size := F5.lt
        clear Fz hh0 hb5 hqs
        go_wp2
        go_loopw [40] (fun i wr => ∃ (k : Nat) (va : Value) (lo : List AtomD) (fo : List Nat), i = .int .i64 (k : Int) ∧ k ≤ W.length ∧ Hid (lo.length = k) ∧ k ≤ 4 ∧ Hid (lo = (W.take k).map rdA) ∧ Hid ((W.take k).all okA = true) ∧ Two wr w1.heap.size (.slice av lh.length cv) va ∧ grR 69 2 atomR w5.heap.size wr va lo fo ∧ SX [w1.heap.size] w5 wr ∧ Below w.heap.size w wr) (fun i _ => W.length - (intOf i).toNat)
        case atStart => exact ⟨0, _, [], [], rfl, Nat.zero_le _, Lib.hid rfl, by omega, Lib.hid (by simp), Lib.hid (by simp), F5, grR.nilv atomR, SX.refl _ _, B5⟩
        case round =>
          obtain ⟨k, va, la, fa, rfl, hk, Hlk, hk4, Hla, HAl, Fq, hgq, hsq, Bq⟩ := hrel
          obtain ⟨av2, cv2, rfl⟩ := slR.form hgq.sl
          have hl4 : la.length ≤ 4 := by have := Hlk.out; omega
          by_cases hlt : k < W.length
          · have hkl : (k : Int) < (W.length : Int) := by omega
            have hk0 : (0 : Int) ≤ (k : Int) := by omega
            have pk := hsq.cell (strs_at hgs rfl k hlt) (by simpa using hgsg)
            have Hsz := Lib.hid (arr_sz _ (HWp.out W[k] (List.getElem_mem hlt)))
            have hqa : ∀ (x : World), LibW x → Calls Tryz.prog 182 #[.string ⟨W[k].toArray⟩] x fun e w' => ∃ (vi : Value) (fi : List Nat), e = .returned (.tuple #[.agg #[.int .i64 (rdA W[k]).rel, vi], .bool (okA W[k])]) ∧ ints w' vi (rdA W[k]).terms fi ∧ Fresh x.heap.size fi ∧ Below x.heap.size x w' := fun x hx => readAtom_any ⟨W[k].toArray⟩ x Hsz.out hx
            have hrb := rdA_bd W[k]
            have HS := Lib.hid (show la ++ [rdA W[k]] = (W.take (k + 1)).map rdA by rw [Hla.out, List.take_succ_eq_append_getElem hlt, List.map_append]; rfl)
            have HA2 := Lib.hid (show okA W[k] = true → (W.take (k + 1)).all okA = true from fun h => by rw [List.take_succ_eq_append_getElem hlt, List.all_append, HAl.out]; simp [h])
            have HN1 := Lib.hid (show okA W[k] = false → okQ t.data.toList = false from fun h => HOQ.out (.inl ⟨W[k], List.getElem_mem hlt, h⟩))
            have hlq : (rdA W[k]).terms.length ≤ 1048576 := Nat.le_trans (rdA_len W[k]) (HWp.out W[k] (List.getElem_mem hlt))
            generalize rdA W[k] = ax at hqa hrb HS hlq
            generalize okA W[k] = ok at hqa HA2 HN1
            generalize W[k] = x at pk Hsz hqa
            have hI : I64 ax.rel := ⟨by omega, by omega⟩
            go_wp2_with fail
            refine (hqa _ (HLW.out.on Bq)).mono ?_
            rintro e w3 ⟨vt, fi, rfl, hi3, hfi, hb3⟩
            clear hqa
            obtain ⟨pt, qt, rfl⟩ := slR.form hi3
            have hbx : Below w3.heap.size w3 (w3.alloc (.cells #[.int .i64 ax.rel, .slice pt ax.terms.length qt] 69)) := ba (Below.refl _ _)
            have hb3x := bt hb3 hbx
            have F3 := Fq.below hb3x
            have B3 := bt Bq hb3x
            have H43 := Lib.hid ((H45.out.sx hsq (by simpa using hwg)).below hb3x)
            cases ok with
            | false =>
              have HN := Lib.hid (HN1.out rfl)
              have H4e := H43
              have H4y := H4e.out
              obtain ⟨⟨r0, r1⟩, q0, q1⟩ := H4y
              go_wp2
              (try simp only [Exit.inBlock, Exit.then])
              refine bodyPost_ret (v := .tuple #[.agg #[.slice none 0 0, .slice none 0 0], .bool false]) ?_ rfl ?_
              · rw [results_cell_tmp rfl]
                simp [asAddr, Result.andThen, load_query2 H4e.out]
              · exact RqEnd.no rfl (.inl HN.out) (below_two2 B3 (Nat.le_refl _) _ _)
            | true =>
              have F3' := F3
              obtain ⟨⟨f0, f1⟩, y0, y1⟩ := F3'
              by_cases hk5 : k = 4
              · have hk4b : ((la.length : Int) == 4) = true := by have := Hlk.out; simp; omega
                have HN := Lib.hid (HOQ.out (.inr (show 4 < W.length by omega)))
                have H4e := H43
                have H4y := H4e.out
                obtain ⟨⟨r0, r1⟩, q0, q1⟩ := H4y
                go_wp2
                (try simp only [Exit.inBlock, Exit.then])
                refine bodyPost_ret (v := .tuple #[.agg #[.slice none 0 0, .slice none 0 0], .bool false]) ?_ rfl ?_
                · rw [results_cell_tmp rfl]
                  simp [asAddr, Result.andThen, load_query2 H4e.out]
                · exact RqEnd.no rfl (.inl HN.out) (below_two2 B3 (Nat.le_refl _) _ _)
              · have hk4b : ((la.length : Int) == 4) = false := by have := Hlk.out; rw [beq_eq_false_iff_ne]; omega
                have Htt : Two (w3.alloc (.cells #[.int .i64 ax.rel, .slice pt ax.terms.length qt] 69)) w3.heap.size (.int .i64 ax.rel) (.slice pt ax.terms.length qt) := Two.new _ _ _ _
                have Htt' := Htt
                obtain ⟨⟨e0, e1⟩, _, _⟩ := Htt'
                have hgr3 := hgq.below' good_atom hb3x
                have s3 : SX [w1.heap.size] w5 (w3.alloc (.cells #[.int .i64 ax.rel, .slice pt ax.terms.length qt] 69)) := hsq.below hb3x
                have hle : w5.heap.size ≤ (w3.alloc (.cells #[.int .i64 ax.rel, .slice pt ax.terms.length qt] 69)).heap.size := s3.1
                have hcb := cutW_below hle
                have hfr3 := hfi.mono hsq.1
                have hi4 := hi3.below' hbx
                have hdis : ∀ g ∈ fi, g ∉ fa := fun g hg hm => (by have h1 := hfi.2 g hg; have h2 := grR.lt good_atom hgq g hm; omega)
                rw [← cutW_size hle] at hgr3 hfr3
                go_wp2_with (at_builtin; refine wpList_gr2 slAtomS good_atom rfl _ _ rfl hgr3 hcb rfl #[.int .i64 ax.rel, .slice pt ax.terms.length qt] ax fi ⟨_, rfl, hI, hi4⟩ rfl hfr3 hdis (w3.heap.size + 1) (by simp) rfl (by simp [Value.oneCell']) (by omega) (by unfold maxLen; omega) ?_; intro g4 cap4 w4 fo4 hgr4 hb4 hg4 _ _; rw [cutW_size hle] at hgr4; have hown : ∀ j, (Value.slice av2 la.length cv2).ownBlock = some j → w5.heap.size ≤ j := gr_base hgq; have s4 : SX [w1.heap.size] w5 w4 := s3.grownBy hg4 hown; have s34 := SX.of_grown hg4; have hno : w1.heap.size ∉ (Value.slice av2 la.length cv2).ownBlock.toList := own_not hown h15; have F4 := F3.sx s34 hno; have B4 : Below w.heap.size w w4 := B3.trans (below_of_grown hg4 B3.size fun j hj => Nat.le_trans B5.size (hown j hj)); have F4' := F4; obtain ⟨⟨x0, x1⟩, z0, z1⟩ := F4')
                have Hgr5 := Lib.hid (hgr4.frame good_atom fun j hj => Below.heap_setCell w4 ⟨w1.heap.size, 1, none⟩ (.slice (some ⟨g4, 0, none⟩) (la.length + 1) cap4) j (fun e => by
                  have h1 := hgr4.fresh.2 j hj
                  simp only [] at e
                  omega))
                have HF5 := Lib.hid (F4.set1 (.slice (some ⟨g4, 0, none⟩) (la.length + 1) cap4))
                have HB5 := Lib.hid (bs (u := .slice (some ⟨g4, 0, none⟩) (la.length + 1) cap4) B4 (p := ⟨w1.heap.size, 1, none⟩) B1.size)
                have HS5 := Lib.hid (s4.setIn 1 (.slice (some ⟨g4, 0, none⟩) (la.length + 1) cap4))
                have HA3 := Lib.hid (HA2.out (by simp))
                have HL6 := Lib.hid (show (la ++ [ax]).length = k + 1 by have := Hlk.out; simp; omega)
                clear hgr4 F4 s4 F3 s3 hgr3 hcb s34 hi3 hfi hfr3 hi4
                go_roundw
                case rel => exact ⟨k + 1, _, la ++ [ax], fo4, by go_num, by omega, HL6, by omega, HS, HA3, HF5.out, by simpa using Hgr5.out, HS5.out, HB5.out⟩
                case measure => simp [intOf]; omega
          · have hkk : k = W.length := by omega
            have HQ := Lib.hid (show rdQ t.data.toList = ⟨lh, la⟩ by
              rw [HRQ.out, Hla.out, hkk, List.take_length])
            have HOK := Lib.hid (show okQ t.data.toList = true from HOY.out (by have h := HAl.out; rw [hkk, List.take_length] at h; exact h) (by omega))
            have HT : (termsL (⟨lh, la⟩ : QueryD).atoms).length ≤ 1048576 := by
              have h1 := HTW2.out
              have h2 : la = W.map rdA := by rw [Hla.out, hkk, List.take_length]
              rw [← h2] at h1
              exact h1
            clear hkk
            have hha : atoms wr (.slice av2 la.length cv2) (⟨lh, la⟩ : QueryD).atoms fa := hgq.sl
            have hhq : ints wr (.slice av lh.length cv) (⟨lh, la⟩ : QueryD).head fi := hh5.frame fun j hj => hsq.2 j (hfhl.out j hj) (by intro hm; rw [List.mem_singleton] at hm; subst hm; exact Hgh.out hj)
            have Hnh := Lib.hid (show w.heap.size ∉ fi from fun hm => by have h1 := Hfh.out.2 _ hm; have := B1.size; omega)
            have Hna := Lib.hid (show w.heap.size ∉ fa from fun hm => by have h1 := hgq.fresh.2 _ hm; have h2 := H45.out.lt; omega)
            have Hfr := Lib.hid (show Fresh w.heap.size (fi ++ fa) from ⟨List.nodup_append.2 ⟨Hfh.out.1, hgq.fresh.1, fun a ha b hb e => by
              subst e
              have h1 := hfhl.out a ha
              have h2 := hgq.fresh.2 a hb
              omega⟩, fun a ha => (List.mem_append.1 ha).elim (fun h => Nat.le_trans B1.size (Nat.le_of_succ_le (Hfh.out.2 a h))) (fun h => Nat.le_trans B5.size (hgq.fresh.2 a h))⟩)
            have H4q := Lib.hid (H45.out.sx hsq (by simpa using hwg))
            have hkl : ¬ (k : Int) < (W.length : Int) := by omega
            have Fq2 := Fq
            obtain ⟨⟨f0, f1⟩, y0, y1⟩ := Fq2
            obtain ⟨q, hq⟩ : ∃ q, (⟨lh, la⟩ : QueryD) = q := ⟨_, rfl⟩
            have hla4 : q.atoms.length ≤ 1048576 := by rw [← hq]; show la.length ≤ 1048576; omega
            have hlh : q.head.length ≤ 1048576 := by rw [← hq]; exact hhb
            rw [hq] at HQ HT hha hhq
            clear hq
            have hqf := fun (x : World) (hx : Below w.heap.size w x) (h1 : ints x (.slice av lh.length cv) q.head fi) (h2 : atoms x (.slice av2 la.length cv2) q.atoms fa) => implFormatQuery_any q (.slice av lh.length cv) fi (.slice av2 la.length cv2) fa x h1 h2 HT hlh hla4 (HLW.out.on hx).2.2.1
            by_cases heq : queryFS q = t.data.toList
            · have hse := str_eq heq
              have Heq := Lib.hid heq
              clear heq
              rw [hse] at hqf
              clear hse
              go_wp2_with fail
              go_region_law (go_simp
                             go_wp2_with (go_at_call 36
                                          refine (hqf _ ?_ (hhq.below' ?_) (hha.below' ?_)).mono ?_
                                          · (repeat (first | exact Bq | refine bdr ?_))
                                          · (repeat (first | exact Below.refl _ _ | refine bdr ?_))
                                          · (repeat (first | exact Below.refl _ _ | refine bdr ?_))
                                          rintro e we ⟨rfl, hbe'⟩
                                          have hbe : Below wr.heap.size wr we := bt (by (repeat (first | exact Below.refl _ _ | refine bdr ?_))) hbe'
                                          have d0 : we.cell? ⟨w1.heap.size, 0, none⟩ = some ((.slice av lh.length cv)) := cell_below f0 hbe
                                          have d1 : we.cell? ⟨w1.heap.size, 1, none⟩ = some (.slice av2 la.length cv2) := cell_below f1 hbe
                                          have H4e := Lib.hid (H4q.out.below hbe)
                                          have H4y := H4e.out
                                          obtain ⟨⟨r0, r1⟩, q0, q1⟩ := H4y))
              all_goals
                go_wp2
                (try simp only [Exit.inBlock, Exit.then])
                refine bodyPost_ret (v := .tuple #[.agg #[(.slice av lh.length cv), .slice av2 la.length cv2], .bool true]) ?_ rfl ?_
                · rw [results_cell_tmp rfl]
                  simp [asAddr, Result.andThen, load_query2 H4e.out, Act.put]
                · exact RqEnd.yes q _ _ _ _ rfl HQ.out HOK.out Heq.out (ints_two2 (ints.below' hhq hbe) Hnh.out _ _) (atoms_two2 (atoms.below' hha hbe) Hna.out _ _) Hfr.out (below_two2 (bt Bq hbe) (Nat.le_refl _) _ _)
            · have hse := str_ne heq
              have Heq := Lib.hid heq
              clear heq
              go_wp2_with fail
              go_region_law (go_simp
                             go_wp2_with (go_at_call 36
                                          refine (hqf _ ?_ (hhq.below' ?_) (hha.below' ?_)).mono ?_
                                          · (repeat (first | exact Bq | refine bdr ?_))
                                          · (repeat (first | exact Below.refl _ _ | refine bdr ?_))
                                          · (repeat (first | exact Below.refl _ _ | refine bdr ?_))
                                          rintro e we ⟨rfl, hbe'⟩
                                          have hbe : Below wr.heap.size wr we := bt (by (repeat (first | exact Below.refl _ _ | refine bdr ?_))) hbe'
                                          have d0 : we.cell? ⟨w1.heap.size, 0, none⟩ = some ((.slice av lh.length cv)) := cell_below f0 hbe
                                          have d1 : we.cell? ⟨w1.heap.size, 1, none⟩ = some (.slice av2 la.length cv2) := cell_below f1 hbe
                                          have H4e := Lib.hid (H4q.out.below hbe)
                                          have H4y := H4e.out
                                          obtain ⟨⟨r0, r1⟩, q0, q1⟩ := H4y))
              all_goals
                go_wp2
                (try simp only [Exit.inBlock, Exit.then])
                refine bodyPost_ret (v := .tuple #[.agg #[(.slice av lh.length cv), .slice av2 la.length cv2], .bool false]) ?_ rfl ?_
                · rw [results_cell_tmp rfl]
                  simp [asAddr, Result.andThen, load_query2 H4e.out, Act.put]
                · exact RqEnd.no rfl (.inr (by rw [HQ.out]; exact Heq.out)) (below_two2 (bt Bq hbe) (Nat.le_refl _) _ _)
theorem rdQ_bd {t : List UInt8} (h : okQ t = true) (ht : t.length ≤ 1048576) : (termsL (rdQ t).atoms).length ≤ 1048576 := by
  have h0 : (Lib.cut t ifS).2.2 = true := by
    cases hc : (Lib.cut t ifS).2.2 with
    | false => rw [okQ_cut hc] at h; cases h
    | true => rfl
  have h1 := cut_found t ifS h0
  have h2 := split_sum andS (by decide) (Lib.count (Lib.cut t ifS).2.1 andS) (Lib.cut t ifS).2.1
  have h3 := rdA_sum (partsQ (Lib.cut t ifS).2.1)
  have h4 : ifS.length = 4 := rfl
  show (termsL ((partsQ (Lib.cut t ifS).2.1).map rdA)).length ≤ _
  unfold partsQ at h3 ⊢
  omega
set_option maxRecDepth 100000 in
set_option maxHeartbeats 12800000 in
theorem implParseQuery_any (vs : Value) (s : List Int) (fs : List Nat) (t : ByteArray) (w : World) (hs : ints w vs s fs) (ht : t.size ≤ 1048576) (hL : LibW w) :
    Calls Tryz.prog 37 #[vs, .string t] w (PqEnd s t.data.toList w) := by
  have Htl := Lib.hid (show t.data.toList.length ≤ 1048576 by simpa using ht)
  have HLW := Lib.hid hL
  clear hL
  have hb0 : Below w.heap.size w (w.alloc (.cells #[.slice none 0 0, .slice none 0 0] 58)) := ba (Below.refl _ _)
  have h40 : Two (w.alloc (.cells #[.slice none 0 0, .slice none 0 0] 58)) w.heap.size (.slice none 0 0) (.slice none 0 0) := Two.new _ _ _ _
  go_enter Tryz.func37, Tryz.ntmps37
  go_wp2_with fail
  refine (readQuery_any t _ ht (HLW.out.on hb0)).mono ?_
  rintro e w1 ⟨vh, va, k, rfl, hb1, (⟨rfl, hno, ⟨ah, nh, ch, rfl⟩, aa, na, ca, rfl⟩ | ⟨rfl, hok, hfe, fh, fa, hih, hia, hfr⟩)⟩
  · have HN := Lib.hid (queryI_no (s := s) (hno.elim .inl fun h => .inr (.inr h)))
    clear hno
    have B1 := bt hb0 hb1
    have H4e := Lib.hid ((h40.below hb1).below (ba (o := .cells #[.slice ah nh ch, .slice aa na ca] 58) (Below.refl _ _)))
    have H4y := H4e.out
    obtain ⟨⟨r0, r1⟩, q0, q1⟩ := H4y
    go_wp2
    (try simp only [Exit.inBlock, Exit.then])
    refine bodyPost_ret (v := .tuple #[.agg #[.slice none 0 0, .slice none 0 0], .bool false]) ?_ rfl ?_
    · rw [results_cell_tmp rfl]
      simp [asAddr, Result.andThen, load_query2 H4e.out]
    · exact PqEnd.no rfl HN.out (below_two2 (ba B1) (Nat.le_refl _) _ _)
  · have HT := Lib.hid (rdQ_bd hok Htl.out)
    have HNB := Lib.hid (show queryB s (rdQ t.data.toList) = false → ∀ n, queryB s n = true → queryFS n ≠ t.data.toList from fun h => queryI_no (.inr (.inl h)))
    clear hok
    obtain ⟨q, hq⟩ : ∃ q, rdQ t.data.toList = q := ⟨_, rfl⟩
    rw [hq] at HT HNB hfe hih hia
    clear hq
    have Hfe := Lib.hid hfe
    clear hfe
    obtain ⟨ph, qh, rfl⟩ := slR.form hih
    obtain ⟨pa, qa, rfl⟩ := slR.form hia
    have B1 := bt hb0 hb1
    have hbx : Below w1.heap.size w1 (w1.alloc (.cells #[.slice ph q.head.length qh, .slice pa q.atoms.length qa] 58)) := ba (Below.refl _ _)
    have F : Two (w1.alloc (.cells #[.slice ph q.head.length qh, .slice pa q.atoms.length qa] 58)) w1.heap.size (.slice ph q.head.length qh) (.slice pa q.atoms.length qa) := Two.new _ _ _ _
    have Bx := bt B1 hbx
    have hhx := hih.below' hbx
    have hax := hia.below' hbx
    have Hfr := Lib.hid (hfr.mono hb0.size)
    have h41 := h40.below hb1
    have Hnh := Lib.hid (show w.heap.size ∉ fh from fun hm => by have h1 := hfr.2 _ (List.mem_append.2 (.inl hm)); simp only [World.alloc, Array.size_push] at h1; omega)
    have Hna := Lib.hid (show w.heap.size ∉ fa from fun hm => by have h1 := hfr.2 _ (List.mem_append.2 (.inr hm)); simp only [World.alloc, Array.size_push] at h1; omega)
    have H4x := Lib.hid (h41.below hbx)
    clear hih hia hfr h41 h40
    have Fq := F
    obtain ⟨⟨f0, f1⟩, y0, y1⟩ := Fq
    go_wp2_with fail
    cases hmb : queryB s q with
    | false =>
      have HN := Lib.hid (HNB.out hmb)
      refine (retBB (implIsQuery_any vs s fs q _ _ _ _ _ (hs.below' Bx) hhx hax HT.out) hmb).mono ?_
      rintro e wy ⟨rfl, hby⟩
      clear hmb
      have H4e := Lib.hid (H4x.out.below hby)
      have H4y := H4e.out
      obtain ⟨⟨r0, r1⟩, q0, q1⟩ := H4y
      go_wp2
      (try simp only [Exit.inBlock, Exit.then])
      refine bodyPost_ret (v := .tuple #[.agg #[.slice none 0 0, .slice none 0 0], .bool false]) ?_ rfl ?_
      · rw [results_cell_tmp rfl]
        simp [asAddr, Result.andThen, load_query2 H4e.out]
      · exact PqEnd.no rfl HN.out (below_two2 (bt Bx hby) (Nat.le_refl _) _ _)
    | true =>
      have Hmb := Lib.hid hmb
      refine (retBB (implIsQuery_any vs s fs q _ _ _ _ _ (hs.below' Bx) hhx hax HT.out) hmb).mono ?_
      rintro e wy ⟨rfl, hby⟩
      clear hmb
      have Fy := F.below hby
      obtain ⟨⟨k0, k1⟩, m0, m1⟩ := Fy
      have H4e := Lib.hid (H4x.out.below hby)
      have H4y := H4e.out
      obtain ⟨⟨r0, r1⟩, q0, q1⟩ := H4y
      go_wp2
      (try simp only [Exit.inBlock, Exit.then])
      refine bodyPost_ret (v := .tuple #[.agg #[.slice ph q.head.length qh, .slice pa q.atoms.length qa], .bool true]) ?_ rfl ?_
      · rw [results_cell_tmp rfl]
        simp [asAddr, Result.andThen, load_query2 H4e.out]
      · exact PqEnd.yes q _ _ _ _ rfl Hmb.out Hfe.out (ints_two2 (ints.below' hhx hby) Hnh.out _ _) (atoms_two2 (atoms.below' hax hby) Hna.out _ _) Hfr.out (below_two2 (bt Bx hby) (Nat.le_refl _) _ _)
end Go.Proofs.YtpdmdfkcaabnaaaGreatDoor
