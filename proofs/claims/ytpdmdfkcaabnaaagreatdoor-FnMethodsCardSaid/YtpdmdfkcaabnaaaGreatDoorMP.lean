/- Several of my texts as one: SplitI, ReadC. -/
import Derived.Test.YtpdmdfkcaabnaaaGreatDoorMT
import Derived.Test.YtpdmdfkcaabnaaaGreatDoorParFL
import Derived.Test.YtpdmdfkcaabnaaaGreatDoorShelf
import Derived.Laws.Strings
/- strings.Split, strings.TrimPrefix and readInts of the program. Conditions: the text is no longer than 2^20; what the library's own variables hold. -/
namespace Go.Proofs.YtpdmdfkcaabnaaaGreatDoor
open Go.RowKit
set_option linter.unusedVariables false
set_option linter.unusedSimpArgs false
theorem str_rows (w : World) : ∀ l : List (List UInt8), All strR w (l.map fun x => [Value.string ⟨x.toArray⟩]) l (l.map fun _ => [])
  | [] => .nil
  | x :: t => .cons ⟨rfl, rfl⟩ (str_rows w t)
theorem flat_one (l : List (List UInt8)) : (l.map fun x => [Value.string ⟨x.toArray⟩]).flatten = l.map fun x => Value.string ⟨x.toArray⟩ := by
  induction l with
  | nil => rfl
  | cons x t ih => simp only [List.map_cons, List.flatten_cons, ih]; rfl
theorem flat_nil (l : List (List UInt8)) : (l.map fun _ => ([] : List Nat)).flatten = [] := by
  induction l with
  | nil => rfl
  | cons x t ih => simp only [List.map_cons, List.flatten_cons, ih]; rfl
theorem grR.made (w : World) (l : List (List UInt8)) (hn : l.length ≤ maxLen) : grR 9 1 strR w.heap.size (w.alloc (.cells (l.map fun x => Value.string ⟨x.toArray⟩).toArray 9)) (.slice (some ⟨w.heap.size, 0, none⟩) l.length l.length) l [w.heap.size] := by
  refine ⟨l.map fun x => [Value.string ⟨x.toArray⟩], l.map fun _ => [], str_rows _ l, ?_, ⟨?_, .inr ⟨w.heap.size, l.length, (l.map fun x => Value.string ⟨x.toArray⟩).toArray, rfl, Nat.le_refl _, heap_alloc_new w _, Nat.le_refl _, hn, by simp, ?_⟩⟩, ?_, by simp, by simp⟩
  · intro c hc
    obtain ⟨x, _, rfl⟩ := List.mem_map.1 hc
    rfl
  · rw [flat_one]; simp
  · rw [flat_one, Nat.mul_one]; exact List.take_of_length_le (by simp)
  · rw [flat_nil]; rfl
theorem split_any (s sep : ByteArray) (w : World) (hs : s.size ≤ 1048576) (h1 : 1 ≤ sep.size) (hm : ∃ m, w.cell? ⟨0, 0, none⟩ = some (.int .i64 m)) :
    Calls Tryz.prog 95 #[.string s, .string sep] w (CutEnd (Lib.splitK sep.data.toList 0 (Lib.count s.data.toList sep.data.toList) s.data.toList) w) := by
  obtain ⟨m, hm⟩ := hm
  refine (Tryz.strings_Split s sep m w (by omega) hm h1).mono ?_
  rintro e w' ⟨rfl, rfl⟩
  have hd := Lib.splitB_data sep 0 (Lib.countB s sep) s
  have hl : (Lib.splitK sep.data.toList 0 (Lib.count s.data.toList sep.data.toList) s.data.toList).length = Lib.countB s sep + 1 := by
    rw [← hd, List.length_map]; exact Lib.splitB_all sep h1 0 _ s rfl
  have hle : Lib.countB s sep ≤ s.size := Lib.countB_le sep h1 _ s (Nat.le_refl _)
  have he : (Lib.splitB sep 0 (Lib.countB s sep) s).map Value.string = (Lib.splitK sep.data.toList 0 (Lib.count s.data.toList sep.data.toList) s.data.toList).map fun x => Value.string ⟨x.toArray⟩ := by
    rw [← hd, List.map_map]
    refine List.map_congr_left fun x _ => ?_
    simp only [Function.comp]
  have hg := grR.made w (Lib.splitK sep.data.toList 0 (Lib.count s.data.toList sep.data.toList) s.data.toList) (by rw [hl]; unfold maxLen; omega)
  rw [he]
  refine CutEnd.mk w.heap.size (Lib.countB s sep + 1) [w.heap.size] (by rw [hl]) ?_ (ba (Below.refl _ _))
  have e2 : Value.slice (some ⟨w.heap.size, 0, none⟩) (Lib.splitK sep.data.toList 0 (Lib.count s.data.toList sep.data.toList) s.data.toList).length (Lib.countB s sep + 1) = .slice (some ⟨w.heap.size, 0, none⟩) (Lib.splitK sep.data.toList 0 (Lib.count s.data.toList sep.data.toList) s.data.toList).length (Lib.splitK sep.data.toList 0 (Lib.count s.data.toList sep.data.toList) s.data.toList).length := by rw [hl]
  rw [e2]
  exact hg
theorem split1_any (s : ByteArray) (c : UInt8) (w : World) (hs : s.size ≤ 1048576) (hm : ∃ m, w.cell? ⟨0, 0, none⟩ = some (.int .i64 m)) :
    Calls Tryz.prog 95 #[.string s, .string ⟨#[c]⟩] w (CutEnd (cutL c s.data.toList) w) := by
  have h := split_any s ⟨#[c]⟩ w hs (by simp [ByteArray.size]) hm
  have e : Lib.splitK [c] 0 (Lib.count s.data.toList [c]) s.data.toList = cutL c s.data.toList := split_cut c _
  rw [show (⟨#[c]⟩ : ByteArray).data.toList = [c] from rfl, e] at h
  exact h
/-- What the program's reading of numbers wants of the library's variables. -/
def LibW (w : World) : Prop := (∃ tp p, w.cell? ⟨1, 0, none⟩ = some (.iface tp p)) ∧ (∃ tp p, w.cell? ⟨2, 0, none⟩ = some (.iface tp p)) ∧ Lib.TabBelow Tryz.prog w.heap.size w "internal/strconv.uint64pow10" .u64 Lib.pow10Tab ∧ ∃ m, w.cell? ⟨0, 0, none⟩ = some (.int .i64 m)
theorem LibW.on {w w' : World} (h : LibW w) (hb : Below w.heap.size w w') : LibW w' := by
  obtain ⟨⟨t, p, h1⟩, ⟨t2, p2, h2⟩, h3, m, h4⟩ := h
  exact ⟨⟨t, p, cell_below h1 hb⟩, ⟨t2, p2, cell_below h2 hb⟩, Tab.on h3 hb, m, cell_below h4 hb⟩
theorem libParseInt_any (s : ByteArray) (w : World) (hs : s.size ≤ 1048576) (h : LibW w) : Calls Tryz.prog 97 #[.string s] w fun e w' => e = .returned (.tuple #[.int .i64 ((pInt s.data.toList).getD 0), .bool (pInt s.data.toList).isSome]) ∧ Below w.heap.size w w' :=
  (implParseInt_any s w hs h.1 h.2.1 h.2.2.1).mono fun e w' ⟨v, k, he, hI, hb⟩ => by
    obtain ⟨rfl, rfl⟩ := par_fun hI
    exact ⟨he, hb⟩
theorem ret2 {P : Program} {f : FuncId} {args : Array Value} {w : World} {N : Nat} {a c : Int} {b d : Bool} (h : Calls P f args w fun e w' => e = .returned (.tuple #[.int .i64 a, .bool b]) ∧ Below N w w') (ha : a = c) (hb : b = d) : Calls P f args w fun e w' => e = .returned (.tuple #[.int .i64 c, .bool d]) ∧ Below N w w' := ha ▸ hb ▸ h
/-- What reading numbers ends in. -/
def RdEnd (l : List (List UInt8)) (w : World) (e : Ending) (w' : World) : Prop :=
  ∃ (v : Value) (f : List Nat), e = .returned (.tuple #[v, .bool (allI l)]) ∧ ints w' v (if allI l then valI l else []) f ∧ Fresh w.heap.size f ∧ Below w.heap.size w w'
theorem RdEnd.no {l : List (List UInt8)} {w w' : World} {e : Ending} (h : allI l = false) (he : e = .returned (.tuple #[.slice none 0 0, .bool false])) (hb : Below w.heap.size w w') : RdEnd l w e w' :=
  ⟨_, [], by rw [h]; exact he, by rw [h]; exact slR.nilv _ _ _ _, Fresh.nil _, hb⟩
theorem RdEnd.yes {l : List (List UInt8)} {w w' : World} {e : Ending} (v : Value) (lo : List Int) (f : List Nat) (h : allI l = true) (hv : lo = valI l) (he : e = .returned (.tuple #[v, .bool true])) (hi : ints w' v lo f) (hf : Fresh w.heap.size f) (hb : Below w.heap.size w w') : RdEnd l w e w' :=
  ⟨v, f, by rw [h]; exact he, by rw [h, if_pos rfl, ← hv]; exact hi, hf, hb⟩
theorem valI_bd (l : List (List UInt8)) : ∀ x ∈ valI l, -999999999 ≤ x ∧ x ≤ 999999999 := by
  intro x hx
  obtain ⟨p, _, rfl⟩ := List.mem_map.1 hx
  exact pInt_bd p 0 (by omega)
set_option maxRecDepth 100000 in
set_option maxHeartbeats 3200000 in
theorem readInts_any (v : Value) (l : List (List UInt8)) (f : List Nat) (w : World) (h : slR 9 1 strR w v l f) (hl : l.length ≤ 1048577) (hp : ∀ p ∈ l, p.length ≤ 1048576) (hL : LibW w) :
    Calls Tryz.prog 96 #[v] w (RdEnd l w) := by
  obtain ⟨a, cap, rfl⟩ := slR.form h
  have Hp := Lib.hid hp
  have HL := Lib.hid hL
  clear hp hL
  go_enter Tryz.func96, Tryz.ntmps96
  go_wp2
  go_loopw [4, 12] (fun u i wr => ∃ (k gu cu : Nat) (lo : List Int) (fo : List Nat), i = .int .i64 (k : Int) ∧ k ≤ l.length ∧ u = .slice (some ⟨gu, 0, none⟩) lo.length cu ∧ Hid (lo = valI (l.take k)) ∧ Hid (allI (l.take k) = true) ∧ grR 3 1 intR w.heap.size wr (.slice (some ⟨gu, 0, none⟩) lo.length cu) lo fo ∧ Below w.heap.size w wr) (fun _ i _ => l.length - (intOf i).toNat)
  case atStart => exact ⟨0, _, _, [], _, rfl, Nat.zero_le _, rfl, Lib.hid (by simp [valI]), Lib.hid (by simp [allI]), grR.lit intR (Nat.le_refl _) (Nat.le_refl _), ba (Below.refl _ _)⟩
  case round =>
    obtain ⟨k, gu, cu, lo, fo, rfl, hk, rfl, HV, HA, hgr, hbel⟩ := hrel
    have hlb : lo.length ≤ 1048577 := by rw [HV.out]; unfold valI; simp; omega
    by_cases hlt : k < l.length
    · obtain ⟨g, c, fk, hg, ⟨rfl, rfl⟩, _, hc, _, _, _⟩ := slR.at (slR.below' good_str h hbel) k hlt
      have hc0 : wr.cell? ⟨g, k, none⟩ = some (.string ⟨l[k].toArray⟩) := by have := hc 0 _ rfl; simpa using this
      clear hc
      subst hg
      have hkl : (k : Int) < (l.length : Int) := by omega
      have Hsz := Lib.hid (show (⟨l[k].toArray⟩ : ByteArray).size ≤ 1048576 from by have := Hp.out l[k] (List.getElem_mem hlt); simpa [ByteArray.size] using this)
      have hq := libParseInt_any ⟨l[k].toArray⟩ wr Hsz.out (HL.out.on hbel)
      cases hpi : pInt l[k] with
      | none =>
        have HN := Lib.hid (allI_no hlt hpi)
        have hq2 := ret2 hq (c := 0) (d := false) (by simp [hpi]) (by simp [hpi])
        clear hq hpi
        generalize l[k] = x at hc0 hq2
        go_wp2_with fail
        refine hq2.mono ?_
        rintro e w1 ⟨rfl, hb1⟩
        clear hq2
        go_wp2
        go_ret2
        exact RdEnd.no HN.out rfl (bt hbel hb1)
      | some n =>
        have hnb := pInt_some hpi
        have hn1 := hnb.1
        have hn2 := hnb.2.1
        have HV2 := Lib.hid (show lo ++ [n] = valI (l.take (k + 1)) by rw [HV.out, List.take_succ_eq_append_getElem hlt]; unfold valI; rw [List.map_append]; simp [hpi])
        have HA2 := Lib.hid (show allI (l.take (k + 1)) = true by
          have h1 := HA.out
          unfold allI at h1 ⊢
          rw [List.take_succ_eq_append_getElem hlt, List.all_append, h1]; simp [hpi])
        have hq2 := ret2 hq (c := n) (d := true) (by simp [hpi]) (by simp [hpi])
        clear hq hpi hnb
        generalize l[k] = x at hc0 hq2
        have hI : I64 n := ⟨by omega, by omega⟩
        go_wp2_with fail
        refine hq2.mono ?_
        rintro e w1 ⟨rfl, hb1⟩
        clear hq2
        have hgr1 := hgr.below' good_int hb1
        have hbw := bt hbel hb1
        go_wp2_with (at_builtin; refine wpList_gr slInt good_int rfl _ _ rfl hgr1 hbw rfl #[.int .i64 n] n [] ⟨rfl, rfl, hI⟩ rfl (Fresh.nil _) (by simp) rfl (by simp [Value.oneCell']) (by omega) (by unfold maxLen; omega) ?_; intro g3 cap3 w2 f2 hgr3 hb3 hg3)
        go_roundw
        case rel => exact ⟨k + 1, g3, cap3, lo ++ [n], f2, by go_num, by omega, by simp, HV2, HA2, by simpa using hgr3, hb3⟩
        case measure => simp [intOf]; omega
    · have HT := Lib.hid (show l.take k = l from List.take_of_length_le (by omega))
      have hkl : ¬ (k : Int) < (l.length : Int) := by omega
      go_wp2
      go_ret2
      have hA := HA.out
      have hV := HV.out
      rw [HT.out] at hA hV
      exact RdEnd.yes _ lo fo hA hV rfl hgr.sl hgr.fresh hbel
end Go.Proofs.YtpdmdfkcaabnaaaGreatDoor
/- readCall of the program: the number behind a letter and the words in parentheses. Conditions: the text is no longer than 2^20; what the library's own variables hold. -/
namespace Go.Proofs.YtpdmdfkcaabnaaaGreatDoor
open Go.RowKit
set_option linter.unusedVariables false
set_option linter.unusedSimpArgs false
theorem results_tmp3 {fn : Func} {t u v : Tmp} (h : fn.results = #[.tmp t, .tmp u, .tmp v]) (tmps : Array Value) (P : Program) (w : World) :
    (results fn tmps).run P w = .ok (.tuple #[tmps.getD t undef, tmps.getD u undef, tmps.getD v undef]) w := by simp [results, h]
/-- What reading a call ends in. -/
def RcEnd (c : UInt8) (t : List UInt8) (w : World) (e : Ending) (w' : World) : Prop :=
  (readC c t = none ∧ e = .returned (.tuple #[.int .i64 0, .slice none 0 0, .bool false]) ∧ Below w.heap.size w w') ∨
  (∃ (n : Int) (l : List (List UInt8)) (v : Value) (f : List Nat), readC c t = some (n, l) ∧ e = .returned (.tuple #[.int .i64 n, v, .bool true]) ∧ slR 9 1 strR w' v l f ∧ Below w.heap.size w w')
theorem RcEnd.no {c : UInt8} {t : List UInt8} {w w' : World} {e : Ending} (h : readC c t = none) (he : e = .returned (.tuple #[.int .i64 0, .slice none 0 0, .bool false])) (hb : Below w.heap.size w w') : RcEnd c t w e w' := .inl ⟨h, he, hb⟩
theorem RcEnd.yes {c : UInt8} {t : List UInt8} {w w' : World} {e : Ending} (n : Int) (l : List (List UInt8)) (v : Value) (f : List Nat) (h : readC c t = some (n, l)) (he : e = .returned (.tuple #[.int .i64 n, v, .bool true])) (hs : slR 9 1 strR w' v l f) (hb : Below w.heap.size w w') : RcEnd c t w e w' := .inr ⟨n, l, v, f, h, he, hs, hb⟩
theorem cut_le (t : List UInt8) (sep : List UInt8) : (Lib.cut t sep).1.length ≤ t.length ∧ (Lib.cut t sep).2.1.length ≤ t.length := by
  unfold Lib.cut
  split
  · simp; omega
  · simp
theorem readC_no1 {c : UInt8} {t : List UInt8} (h : (Lib.cut t [40]).2.2 = false) : readC c t = none := by unfold readC; rw [if_neg fun e => by rw [h] at e; cases e.1]
theorem readC_no2 {c : UInt8} {t : List UInt8} (h : (pInt (Lib.trimPrefix (Lib.cut t [40]).1 [c])).isSome = false) : readC c t = none := by unfold readC; rw [if_neg fun e => by rw [h] at e; cases e.2.1]
theorem readC_no3 {c : UInt8} {t : List UInt8} (h : Lib.hasSuffix (Lib.cut t [40]).2.1 [41] = false) : readC c t = none := by unfold readC; rw [if_neg fun e => by rw [h] at e; cases e.2.2]
theorem readC_yes {c : UInt8} {t : List UInt8} (h1 : (Lib.cut t [40]).2.2 = true) (h2 : (pInt (Lib.trimPrefix (Lib.cut t [40]).1 [c])).isSome = true) (h3 : Lib.hasSuffix (Lib.cut t [40]).2.1 [41] = true) :
    readC c t = some ((pInt (Lib.trimPrefix (Lib.cut t [40]).1 [c])).getD 0, wordsC (Lib.trimSuffix (Lib.cut t [40]).2.1 [41])) := by unfold readC; rw [if_pos ⟨h1, h2, h3⟩]
theorem readC_len {c : UInt8} {t : List UInt8} {n : Int} {l : List (List UInt8)} (h : readC c t = some (n, l)) : l.length ≤ t.length + 1 ∧ (∀ p ∈ l, p.length ≤ t.length) ∧ -999999999 ≤ n ∧ n ≤ 999999999 := by
  unfold readC at h
  split at h
  · simp only [Option.some.injEq, Prod.mk.injEq] at h
    obtain ⟨rfl, rfl⟩ := h
    have h1 := (cut_le t [40]).2
    have h2 := Lib.trimSuffix_le (Lib.cut t [40]).2.1 [41]
    have h3 := pInt_bd (Lib.trimPrefix (Lib.cut t [40]).1 [c]) 0 (by omega)
    refine ⟨?_, ?_, h3⟩
    · unfold wordsC
      split
      · simp
      · have := cutL_len 44 (Lib.trimSuffix (Lib.cut t [40]).2.1 [41]); omega
    · unfold wordsC
      split
      · simp
      · intro p hp
        have := cutL_piece 44 _ p hp
        omega
  · cases h
set_option maxRecDepth 100000 in
set_option maxHeartbeats 3200000 in
theorem readCall_any (c : UInt8) (s : ByteArray) (w : World) (hs : s.size ≤ 1048576) (hL : LibW w) :
    Calls Tryz.prog 144 #[.string ⟨#[c]⟩, .string s] w (RcEnd c s.data.toList w) := by
  have hsl : s.data.toList.length ≤ 1048576 := by simpa using hs
  have HLW := Lib.hid hL
  obtain ⟨m, hm⟩ := hL.2.2.2
  have hcl := cut_le s.data.toList [40]
  obtain ⟨A, hA⟩ : ∃ A, (Lib.cut s.data.toList [40]).1 = A := ⟨_, rfl⟩
  obtain ⟨R, hR⟩ : ∃ R, (Lib.cut s.data.toList [40]).2.1 = R := ⟨_, rfl⟩
  obtain ⟨k, hk⟩ : ∃ k, (Lib.cut s.data.toList [40]).2.2 = k := ⟨_, rfl⟩
  rw [hA, hR] at hcl
  have hqc : ∀ w', w'.cell? ⟨0, 0, none⟩ = some (.int .i64 m) → Calls Tryz.prog 180 #[.string s, .string ⟨#[40]⟩] w' fun e w'' => e = .returned (.tuple #[.string ⟨A.toArray⟩, .string ⟨R.toArray⟩, .bool k]) ∧ Below w'.heap.size w' w'' := fun w' h => (Tryz.strings_Cut s ⟨#[40]⟩ m w' (by omega) h).mono (by
    rintro e w'' ⟨rfl, n, rfl⟩
    refine ⟨?_, (Qt.dn _ n).below⟩
    rw [show (⟨#[40]⟩ : ByteArray).data.toList = [40] from rfl, hA, hR, hk])
  have HC1 := Lib.hid (show k = false → readC c s.data.toList = none from fun e => readC_no1 (hk.trans e))
  have HC2 := Lib.hid (show (pInt (Lib.trimPrefix A [c])).isSome = false → readC c s.data.toList = none from fun e => readC_no2 (by rw [hA]; exact e))
  have HC3 := Lib.hid (show Lib.hasSuffix R [41] = false → readC c s.data.toList = none from fun e => readC_no3 (by rw [hR]; exact e))
  have HC4 := Lib.hid (show k = true → (pInt (Lib.trimPrefix A [c])).isSome = true → Lib.hasSuffix R [41] = true → readC c s.data.toList = some ((pInt (Lib.trimPrefix A [c])).getD 0, wordsC (Lib.trimSuffix R [41])) from fun e1 e2 e3 => by
    have h := readC_yes (c := c) (t := s.data.toList) (hk.trans e1) (by rw [hA]; exact e2) (by rw [hR]; exact e3)
    rw [hA, hR] at h; exact h)
  clear hA hR hk hL
  have hqp : ∀ w, Calls Tryz.prog 98 #[.string ⟨A.toArray⟩, .string ⟨#[c]⟩] w fun e w' => e = .returned (.string ⟨(Lib.trimPrefix A [c]).toArray⟩) ∧ w = w' := fun w => (Tryz.strings_TrimPrefix ⟨A.toArray⟩ ⟨#[c]⟩ w).mono (by rintro e w' ⟨rfl, rfl⟩; exact ⟨rfl, rfl⟩)
  have hRs : (⟨R.toArray⟩ : ByteArray).size ≤ 1048576 := show R.toArray.size ≤ 1048576 by rw [List.size_toArray]; omega
  obtain ⟨n, hn⟩ : ∃ n, (pInt (Lib.trimPrefix A [c])).getD 0 = n := ⟨_, rfl⟩
  obtain ⟨kn, hkn⟩ : ∃ kn, (pInt (Lib.trimPrefix A [c])).isSome = kn := ⟨_, rfl⟩
  have hTl := Lib.trimPrefix_le A [c]
  have hpi : ∀ w, LibW w → Calls Tryz.prog 97 #[.string ⟨(Lib.trimPrefix A [c]).toArray⟩] w fun e w' => e = .returned (.tuple #[.int .i64 n, .bool kn]) ∧ Below w.heap.size w w' := fun w h => ret2 (libParseInt_any ⟨(Lib.trimPrefix A [c]).toArray⟩ w (show (Lib.trimPrefix A [c]).toArray.size ≤ 1048576 by rw [List.size_toArray]; omega) h) hn hkn
  rw [hn] at HC4
  rw [hkn] at HC2 HC4
  obtain ⟨ks, hks⟩ : ∃ ks, Lib.hasSuffix R [41] = ks := ⟨_, rfl⟩
  have hqs : ∀ w, Calls Tryz.prog 195 #[.string ⟨R.toArray⟩, .string ⟨#[41]⟩] w fun e w' => e = .returned (.bool ks) ∧ w = w' := fun w => (Tryz.strings_HasSuffix ⟨R.toArray⟩ ⟨#[41]⟩ w (by omega)).mono (by rintro e w' ⟨rfl, rfl⟩; exact ⟨by rw [show (⟨R.toArray⟩ : ByteArray).data.toList = R from rfl, show (⟨#[41]⟩ : ByteArray).data.toList = [41] from rfl, hks], rfl⟩)
  rw [hks] at HC3 HC4
  obtain ⟨I, hI⟩ : ∃ I, Lib.trimSuffix R [41] = I := ⟨_, rfl⟩
  have hqt : ∀ w, Calls Tryz.prog 196 #[.string ⟨R.toArray⟩, .string ⟨#[41]⟩] w fun e w' => e = .returned (.string ⟨I.toArray⟩) ∧ w = w' := fun w => (Tryz.strings_TrimSuffix ⟨R.toArray⟩ ⟨#[41]⟩ w (by omega)).mono (by rintro e w' ⟨rfl, rfl⟩; exact ⟨by rw [show (⟨R.toArray⟩ : ByteArray).data.toList = R from rfl, show (⟨#[41]⟩ : ByteArray).data.toList = [41] from rfl, hI], rfl⟩)
  have hIl := Lib.trimSuffix_le R [41]
  rw [hI] at HC4 hIl
  have HIs := Lib.hid (show I.toArray.size ≤ 1048576 by rw [List.size_toArray]; omega)
  clear hI hks hkn hn hTl
  go_enter Tryz.func144, Tryz.ntmps144
  go_wp2_with fail
  refine (hqc _ hm).mono ?_
  rintro e w1 ⟨rfl, hb1⟩
  go_wp2_with fail
  refine (hqp _).mono ?_
  rintro e w1' ⟨rfl, rfl⟩
  go_wp2_with fail
  refine (hpi _ (HLW.out.on hb1)).mono ?_
  rintro e w2 ⟨rfl, hb2⟩
  have B2 := bt hb1 hb2
  cases k with
  | false =>
    have HN := Lib.hid (HC1.out rfl)
    go_wp2
    refine bodyPost_ret (results_tmp3 rfl _ _ _) rfl ?_
    exact RcEnd.no HN.out rfl B2
  | true =>
    cases kn with
    | false =>
      have HN := Lib.hid (HC2.out rfl)
      go_wp2
      refine bodyPost_ret (results_tmp3 rfl _ _ _) rfl ?_
      exact RcEnd.no HN.out rfl B2
    | true =>
      cases ks with
      | false =>
        have HN := Lib.hid (HC3.out rfl)
        go_wp2_with fail
        refine (hqs _).mono ?_
        rintro e w2' ⟨rfl, rfl⟩
        go_wp2
        refine bodyPost_ret (results_tmp3 rfl _ _ _) rfl ?_
        exact RcEnd.no HN.out rfl B2
      | true =>
        have HY := Lib.hid (HC4.out rfl rfl rfl)
        go_wp2_with fail
        refine (hqs _).mono ?_
        rintro e w2' ⟨rfl, rfl⟩
        go_wp2_with fail
        refine (hqt _).mono ?_
        rintro e w2' ⟨rfl, rfl⟩
        by_cases hI0 : I = []
        · subst hI0
          go_wp2
          refine bodyPost_ret (results_tmp3 rfl _ _ _) rfl ?_
          exact RcEnd.yes n [] _ [] (by rw [HY.out]; rfl) rfl (slR.nilv _ _ _ _) B2
        · have hIe : (I == []) = false := by rw [beq_eq_false_iff_ne]; exact hI0
          have hIe2 : I.isEmpty = false := by cases I with
            | nil => exact absurd rfl hI0
            | cons x t => rfl
          have HW := Lib.hid (show wordsC I = cutL 44 I by unfold wordsC; rw [if_neg hI0])
          clear hI0
          go_wp2_with fail
          refine (split1_any ⟨I.toArray⟩ 44 _ HIs.out (HLW.out.on B2).2.2.2).mono ?_
          rintro e w3 ⟨gp, cp, fp, rfl, hgp, hb3⟩
          go_wp2
          refine bodyPost_ret (results_tmp3 rfl _ _ _) rfl ?_
          exact RcEnd.yes n (cutL 44 I) _ _ (by rw [HY.out, HW.out]) rfl hgp.sl (bt B2 hb3)
end Go.Proofs.YtpdmdfkcaabnaaaGreatDoor
