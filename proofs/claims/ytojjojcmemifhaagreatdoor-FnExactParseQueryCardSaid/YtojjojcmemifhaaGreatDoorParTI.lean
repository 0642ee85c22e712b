/- readTerms and readAtom of the program: they return what 'allT', 'valT', 'okA', 'rdA' say. Conditions: lengths within 2^20; what the library's own variables hold. -/
import Derived.Test.YtojjojcmemifhaaGreatDoorParFI
import Derived.Test.YtojjojcmemifhaaGreatDoorParQL
import Derived.Test.YtojjojcmemifhaaGreatDoorParAS
namespace Go.Proofs.YtojjojcmemifhaaGreatDoor
open Go.RowKit
set_option linter.unusedVariables false
set_option linter.unusedSimpArgs false
/-- What reading terms ends in. -/
def RtEnd (l : List (List UInt8)) (w : World) (e : Ending) (w' : World) : Prop :=
  ∃ (v : Value) (f : List Nat), e = .returned (.tuple #[v, .bool (allT l)]) ∧ ints w' v (if allT l then valT l else []) f ∧ Fresh w.heap.size f ∧ Below w.heap.size w w'
theorem RtEnd.no {l : List (List UInt8)} {w w' : World} {e : Ending} (h : allT l = false) (he : e = .returned (.tuple #[.slice none 0 0, .bool false])) (hb : Below w.heap.size w w') : RtEnd l w e w' :=
  ⟨_, [], by rw [h]; exact he, by rw [h]; exact slR.nilv _ _ _ _, Fresh.nil _, hb⟩
theorem RtEnd.yes {l : List (List UInt8)} {w w' : World} {e : Ending} (v : Value) (lo : List Int) (f : List Nat) (h : allT l = true) (hv : lo = valT l) (he : e = .returned (.tuple #[v, .bool true])) (hi : ints w' v lo f) (hf : Fresh w.heap.size f) (hb : Below w.heap.size w w') : RtEnd l w e w' :=
  ⟨v, f, by rw [h]; exact he, by rw [h, if_pos rfl, ← hv]; exact hi, hf, hb⟩
theorem rdT_none {p : List UInt8} (h : pInt (Lib.trimPrefix p [120]) = none) : rdT p = none := by unfold rdT; rw [h]; rfl
theorem rdT_same {p : List UInt8} {n : Int} (h : pInt (Lib.trimPrefix p [120]) = some n) (he : Lib.trimPrefix p [120] = p) : rdT p = some n := by unfold rdT; rw [h]; simp [he]
theorem rdT_ten {p : List UInt8} {n : Int} (h : pInt (Lib.trimPrefix p [120]) = some n) (he : Lib.trimPrefix p [120] ≠ p) : rdT p = some (n + 10) := by unfold rdT; rw [h]; simp [he]
theorem valT_take {l : List (List UInt8)} {k : Nat} {n : Int} {lo : List Int} (hlt : k < l.length) (h : lo = valT (l.take k)) (hn : rdT l[k] = some n) : lo ++ [n] = valT (l.take (k + 1)) := by
  rw [h, List.take_succ_eq_append_getElem hlt]; unfold valT; rw [List.map_append]; simp [hn]
theorem allT_take {l : List (List UInt8)} {k : Nat} {n : Int} (hlt : k < l.length) (h : allT (l.take k) = true) (hn : rdT l[k] = some n) : allT (l.take (k + 1)) = true := by
  unfold allT at h ⊢
  rw [List.take_succ_eq_append_getElem hlt, List.all_append, h]; simp [hn]
set_option maxRecDepth 100000 in
set_option maxHeartbeats 3200000 in
theorem readTerms_any (v : Value) (l : List (List UInt8)) (f : List Nat) (w : World) (h : slR 9 1 strR w v l f) (hl : l.length ≤ 1048577) (hp : ∀ p ∈ l, p.length ≤ 1048576) (hL : LibW w) :
    Calls Tryz.prog 192 #[v] w (RtEnd l w) := by
  obtain ⟨a, cap, rfl⟩ := slR.form h
  have Hp := Lib.hid hp
  have HL := Lib.hid hL
  clear hp hL
  go_enter Tryz.func192, Tryz.ntmps192
  go_wp2
  go_loopw [4, 13] (fun u i wr => ∃ (k gu cu : Nat) (lo : List Int) (fo : List Nat), i = .int .i64 (k : Int) ∧ k ≤ l.length ∧ u = .slice (some ⟨gu, 0, none⟩) lo.length cu ∧ Hid (lo = valT (l.take k)) ∧ Hid (allT (l.take k) = true) ∧ grR 3 1 intR w.heap.size wr (.slice (some ⟨gu, 0, none⟩) lo.length cu) lo fo ∧ Below w.heap.size w wr) (fun _ i _ => l.length - (intOf i).toNat)
  case atStart => exact ⟨0, _, _, [], _, rfl, Nat.zero_le _, rfl, Lib.hid (by simp [valT]), Lib.hid (by simp [allT]), grR.lit intR (Nat.le_refl _) (Nat.le_refl _), ba (Below.refl _ _)⟩
  case round =>
    obtain ⟨k, gu, cu, lo, fo, rfl, hk, rfl, HV, HA, hgr, hbel⟩ := hrel
    have hlb : lo.length ≤ 1048577 := by rw [HV.out]; unfold valT; simp; omega
    by_cases hlt : k < l.length
    · obtain ⟨g, c, fk, hg, ⟨rfl, rfl⟩, _, hc, _, _, _⟩ := slR.at (slR.below' good_str h hbel) k hlt
      have hc0 : wr.cell? ⟨g, k, none⟩ = some (.string ⟨l[k].toArray⟩) := by have := hc 0 _ rfl; simpa using this
      clear hc
      subst hg
      have hkl : (k : Int) < (l.length : Int) := by omega
      obtain ⟨X, hX⟩ : ∃ X, Lib.trimPrefix l[k] [120] = X := ⟨_, rfl⟩
      have hXl : X.length ≤ 1048576 := by rw [← hX]; exact Nat.le_trans (Lib.trimPrefix_le _ _) (Hp.out l[k] (List.getElem_mem hlt))
      have hqp : ∀ w, Calls Tryz.prog 110 #[.string ⟨l[k].toArray⟩, .string ⟨#[120]⟩] w fun e w' => e = .returned (.string ⟨X.toArray⟩) ∧ w = w' := fun w => (Tryz.strings_TrimPrefix ⟨l[k].toArray⟩ ⟨#[120]⟩ w).mono (by rintro e w' ⟨rfl, rfl⟩; exact ⟨by rw [show (⟨l[k].toArray⟩ : ByteArray).data.toList = l[k] from rfl, show (⟨#[120]⟩ : ByteArray).data.toList = [120] from rfl, hX], rfl⟩)
      have hq := libParseInt_any ⟨X.toArray⟩ wr (arr_sz _ hXl) (HL.out.on hbel)
      cases hpi : pInt X with
      | none =>
        have HN := Lib.hid (allT_no hlt (rdT_none (by rw [hX]; exact hpi)))
        have hq2 := ret2 hq (c := 0) (d := false) (by simp [hpi]) (by simp [hpi])
        clear hq hpi hX
        generalize l[k] = x at hc0 hqp
        go_wp2_with fail
        refine (hqp _).mono ?_
        rintro e w1' ⟨rfl, rfl⟩
        go_wp2_with fail
        refine hq2.mono ?_
        rintro e w1 ⟨rfl, hb1⟩
        clear hq2 hqp
        go_wp2
        go_ret2
        exact RtEnd.no HN.out rfl (bt hbel hb1)
      | some n =>
        have hnb := pInt_some hpi
        have hn1 := hnb.1
        have hn2 := hnb.2.1
        by_cases hXe : X = l[k]
        · have hr := rdT_same (by rw [hX]; exact hpi) (by rw [hX]; exact hXe)
          have HV2 := Lib.hid (valT_take hlt HV.out hr)
          have HA2 := Lib.hid (allT_take hlt HA.out hr)
          have hq2 := ret2 hq (c := n) (d := true) (by simp [hpi]) (by simp [hpi])
          have hbe : (X == l[k]) = true := by simp [hXe]
          clear hq hpi hnb hr hX hXe
          generalize l[k] = x at hc0 hqp hbe
          have hI : I64 n := ⟨by omega, by omega⟩
          go_wp2_with fail
          refine (hqp _).mono ?_
          rintro e w1' ⟨rfl, rfl⟩
          go_wp2_with fail
          refine hq2.mono ?_
          rintro e w1 ⟨rfl, hb1⟩
          clear hq2 hqp
          have hgr1 := hgr.below' good_int hb1
          have hbw := bt hbel hb1
          go_wp2_with (at_builtin; refine wpList_gr slInt good_int rfl _ _ rfl hgr1 hbw rfl #[.int .i64 n] n [] ⟨rfl, rfl, hI⟩ rfl (Fresh.nil _) (by simp) rfl (by simp [Value.oneCell']) (by omega) (by unfold maxLen; omega) ?_; intro g3 cap3 w2 f2 hgr3 hb3 hg3)
          go_roundw
          case rel => exact ⟨k + 1, g3, cap3, lo ++ [n], f2, by go_num, by omega, by simp, HV2, HA2, by simpa using hgr3, hb3⟩
          case measure => simp [intOf]; omega
        · have hr := rdT_ten (by rw [hX]; exact hpi) (by rw [hX]; exact hXe)
          have HV2 := Lib.hid (valT_take hlt HV.out hr)
          have HA2 := Lib.hid (allT_take hlt HA.out hr)
          have hq2 := ret2 hq (c := n) (d := true) (by simp [hpi]) (by simp [hpi])
          have hbe : (X == l[k]) = false := by simp [hXe]
          clear hq hpi hnb hr hX hXe
          generalize l[k] = x at hc0 hqp hbe
          have hI : I64 (n + 10) := ⟨by omega, by omega⟩
          have hte : n + (10 : Int) = n + 10 := rfl
          go_wp2_with fail
          refine (hqp _).mono ?_
          rintro e w1' ⟨rfl, rfl⟩
          go_wp2_with fail
          refine hq2.mono ?_
          rintro e w1 ⟨rfl, hb1⟩
          clear hq2 hqp
          have hgr1 := hgr.below' good_int hb1
          have hbw := bt hbel hb1
          go_wp2_with (at_builtin; refine wpList_gr slInt good_int rfl _ _ rfl hgr1 hbw rfl #[.int .i64 (n + 10)] (n + 10) [] ⟨rfl, rfl, hI⟩ rfl (Fresh.nil _) (by simp) rfl (by simp [Value.oneCell']) (by omega) (by unfold maxLen; omega) ?_; intro g3 cap3 w2 f2 hgr3 hb3 hg3)
          go_roundw
          case rel => exact ⟨k + 1, g3, cap3, lo ++ [n + 10], f2, by go_num, by omega, by simp, HV2, HA2, by simpa using hgr3, hb3⟩
          case measure => simp [intOf]; omega
    · have HT := Lib.hid (show l.take k = l from List.take_of_length_le (by omega))
      have hkl : ¬ (k : Int) < (l.length : Int) := by omega
      go_wp2
      go_ret2
      have hA := HA.out
      have hV := HV.out
      rw [HT.out] at hA hV
      exact RtEnd.yes _ lo fo hA hV rfl hgr.sl hgr.fresh hbel

/-- What reading an atom ends in. -/
def RaEnd (t : List UInt8) (w : World) (e : Ending) (w' : World) : Prop :=
  ∃ (v : Value) (f : List Nat), e = .returned (.tuple #[.agg #[.int .i64 (rdA t).rel, v], .bool (okA t)]) ∧ ints w' v (rdA t).terms f ∧ Fresh w.heap.size f ∧ Below w.heap.size w w'
theorem RaEnd.mk {t : List UInt8} {w w' : World} {e : Ending} (r : Int) (l : List Int) (k : Bool) (v : Value) (f : List Nat) (h1 : rdA t = ⟨r, l⟩) (h2 : okA t = k) (he : e = .returned (.tuple #[.agg #[.int .i64 r, v], .bool k])) (hi : ints w' v l f) (hf : Fresh w.heap.size f) (hb : Below w.heap.size w w') : RaEnd t w e w' :=
  ⟨v, f, by rw [h1, h2]; exact he, by rw [h1]; exact hi, hf, hb⟩
theorem rdA_none {t : List UInt8} (h : readC 114 t = none) : rdA t = ⟨0, []⟩ ∧ okA t = false := by unfold rdA okA; rw [h]; exact ⟨rfl, rfl⟩
theorem rdA_some {t : List UInt8} {r : Int} {ws : List (List UInt8)} (h : readC 114 t = some (r, ws)) : rdA t = ⟨r, if allT ws then valT ws else []⟩ ∧ okA t = allT ws := by unfold rdA okA; rw [h]; exact ⟨rfl, rfl⟩
set_option maxRecDepth 100000 in
set_option maxHeartbeats 3200000 in
theorem readAtom_any (t : ByteArray) (w : World) (ht : t.size ≤ 1048576) (hL : LibW w) :
    Calls Tryz.prog 193 #[.string t] w (RaEnd t.data.toList w) := by
  have htl : t.data.toList.length ≤ 1048576 := by simpa using ht
  have HLW := Lib.hid hL
  clear hL
  have hb0 : Below w.heap.size w (w.alloc (.cells #[.int .i64 0, .slice none 0 0] 73)) := ba (Below.refl _ _)
  have h40 : Two (w.alloc (.cells #[.int .i64 0, .slice none 0 0] 73)) w.heap.size (.int .i64 0) (.slice none 0 0) := Two.new _ _ _ _
  have hri := fun v l f (W : World) (h : slR 9 1 strR W v l f) hl hp (hW : LibW W) => readTerms_any v l f W h hl hp hW
  go_enter Tryz.func193, Tryz.ntmps193
  go_wp2_with fail
  refine (readCall_any 114 t _ ht (HLW.out.on hb0)).mono ?_
  rintro e w1 (⟨hrc, rfl, hb1⟩ | ⟨n, l, v, f, hrc, rfl, hp, hb1⟩)
  · have HR := Lib.hid (rdA_none hrc)
    clear hrc
    have B1 := bt hb0 hb1
    have H41 := Lib.hid (h40.below hb1)
    go_wp2_with fail
    refine (hri _ [] [] _ (slR.nilv _ _ _ _) (by simp) (by simp) (HLW.out.on B1)).mono ?_
    rintro e w2 ⟨vi, fi, rfl, hi, hfi, hb2⟩
    have B2 := bt B1 hb2
    obtain ⟨av, cv, rfl⟩ : ∃ a c, vi = .slice a 0 c := slR.form hi
    have h42 := H41.out.below hb2
    have Hnot := Lib.hid (show w.heap.size ∉ fi from fun hm => by have h1 := hfi.2 _ hm; have h2 := H41.out.lt; omega)
    have Hfr := Lib.hid (hfi.mono B1.size)
    have H42 := Lib.hid h42
    have h42c := h42
    obtain ⟨⟨r0, r1⟩, q0, q1⟩ := h42c
    clear hri
    go_wp2
    (try simp only [Exit.inBlock, Exit.then])
    refine bodyPost_ret (v := .tuple #[.agg #[.int .i64 0, .slice av 0 cv], .bool false]) ?_ rfl ?_
    · rw [results_cell_tmp rfl]
      simp [asAddr, Result.andThen, load_atom2 H42.out]
    · exact RaEnd.mk 0 [] false _ fi HR.out.1 HR.out.2 rfl (ints_two2 hi Hnot.out _ _) Hfr.out (below_two2 B2 (Nat.le_refl _) _ _)
  · have hrl := readC_len hrc
    have HR := Lib.hid (rdA_some hrc)
    clear hrc
    obtain ⟨hl1, hl2, hn1, hn2⟩ := hrl
    have HLp := Lib.hid (show ∀ p ∈ l, p.length ≤ 1048576 from fun p hp => by have := hl2 p hp; omega)
    clear hl2
    have B1 := bt hb0 hb1
    have H41 := Lib.hid (h40.below hb1)
    obtain ⟨ka, hka⟩ : ∃ ka, allT l = ka := ⟨_, rfl⟩
    have hq3 : Calls Tryz.prog 192 #[v] w1 fun e w' => ∃ (v : Value) (f : List Nat), e = .returned (.tuple #[v, .bool ka]) ∧ ints w' v (if ka then valT l else []) f ∧ Fresh w1.heap.size f ∧ Below w1.heap.size w1 w' := by
      have h2 := hri v l f w1 hp (by omega) HLp.out (HLW.out.on B1)
      unfold RtEnd at h2
      rw [hka] at h2
      exact h2
    obtain ⟨lo, hlo⟩ : ∃ lo, (if ka then valT l else []) = lo := ⟨_, rfl⟩
    have hR := HR.out
    rw [hka, hlo] at hR
    have HR := Lib.hid hR
    rw [hlo] at hq3
    clear hka hri hlo hR
    go_wp2_with fail
    refine hq3.mono ?_
    rintro e w2 ⟨vi, fi, rfl, hi, hfi, hb2⟩
    clear hq3
    have B2 := bt B1 hb2
    obtain ⟨av, cv, rfl⟩ := slR.form hi
    have h42 := H41.out.below hb2
    have Hnot := Lib.hid (show w.heap.size ∉ fi from fun hm => by have h1 := hfi.2 _ hm; have h2 := H41.out.lt; omega)
    have Hfr := Lib.hid (hfi.mono B1.size)
    have H42 := Lib.hid h42
    have h42c := h42
    obtain ⟨⟨r0, r1⟩, q0, q1⟩ := h42c
    cases ka with
    | false =>
      go_wp2
      (try simp only [Exit.inBlock, Exit.then])
      refine bodyPost_ret (v := .tuple #[.agg #[.int .i64 n, .slice av lo.length cv], .bool false]) ?_ rfl ?_
      · rw [results_cell_tmp rfl]
        simp [asAddr, Result.andThen, load_atom2 H42.out]
      · exact RaEnd.mk n lo _ _ fi HR.out.1 HR.out.2 rfl (ints_two2 hi Hnot.out _ _) Hfr.out (below_two2 B2 (Nat.le_refl _) _ _)
    | true =>
      go_wp2
      (try simp only [Exit.inBlock, Exit.then])
      refine bodyPost_ret (v := .tuple #[.agg #[.int .i64 n, .slice av lo.length cv], .bool true]) ?_ rfl ?_
      · rw [results_cell_tmp rfl]
        simp [asAddr, Result.andThen, load_atom2 H42.out]
      · exact RaEnd.mk n lo _ _ fi HR.out.1 HR.out.2 rfl (ints_two2 hi Hnot.out _ _) Hfr.out (below_two2 B2 (Nat.le_refl _) _ _)
end Go.Proofs.YtojjojcmemifhaaGreatDoor
