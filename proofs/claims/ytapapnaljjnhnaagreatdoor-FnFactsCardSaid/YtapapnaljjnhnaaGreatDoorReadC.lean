/- readCall of the program: the number behind a letter and the words in parentheses. Conditions: the text is no longer than 2^20; what the library's own variables hold. -/
import Derived.Test.YtapapnaljjnhnaaGreatDoorSplitI
import Derived.Laws.Strings
namespace Go.Proofs.YtapapnaljjnhnaaGreatDoor
open Go.RowKit
set_option linter.unusedVariables false
set_option linter.unusedSimpArgs false
theorem results_tmp3 {fn : Func} {t u v : Tmp} (h : fn.results = #[.tmp t, .tmp u, .tmp v]) (tmps : Array Value) (P : Program) (w : World) :
    (results fn tmps).run P w = .ok (.tuple #[tmps.getD t undef, tmps.getD u undef, tmps.getD v undef]) w := by simp [results, h]
/-- What reading a call ends in. -/
def RcEnd (c : UInt8) (t : List UInt8) (w : World) (e : Ending) (w' : World) : Prop :=
  (readC c t = none ∧ e = .returned (.tuple #[.int .i64 0, .slice none 0 0, .bool false]) ∧ Below w.heap.size w w') ∨
  (∃ (n : Int) (l : List (List UInt8)) (v : Value) (f : List Nat), readC c t = some (n, l) ∧ e = .returned (.tuple #[.int .i64 n, v, .bool true]) ∧ slR 9 1 strR w' v l f ∧ Below w.heap.size w w')
theorem RcEnd.no {c : UInt8} {t : List UInt8} {w w' : World} {e : Ending} (h : readC c t = none) (he : e = .returned (.tuple #[.int .i64 0, .slice none 0 0, .bool false])) (hb : Below w.heap.size w w') : RcEnd c t w e w' := .inl ⟨h, he, hb⟩
theorem RcEnd.yes {c : UInt8} {t : List UInt8} {w w' : World} {e : Ending} (n : Int) (l : List (List UInt8)) (v : Value) (f : List Nat) (h : readC c t = some (n, l)) (he : e = .returned (.tuple #[.int .i64 n, v, .bool true])) (hs : slR 9 1 strR w' v l f) (hb : Below w.heap.size w w') : RcEnd c t w e w' := .inr ⟨n, l, v, f, h, he, hs, hb⟩
theorem cut_le (t : List UInt8) (sep : List UInt8) : (Lib.cut t sep).1.length ≤ t.length ∧ (Lib.cut t sep).2.1.length ≤ t.length := by
  unfold Lib.cut
  split
  · simp; omega
  · simp
theorem readC_no1 {c : UInt8} {t : List UInt8} (h : (Lib.cut t [40]).2.2 = false) : readC c t = none := by unfold readC; rw [if_neg fun e => by rw [h] at e; cases e.1]
theorem readC_no2 {c : UInt8} {t : List UInt8} (h : (pInt (Lib.trimPrefix (Lib.cut t [40]).1 [c])).isSome = false) : readC c t = none := by unfold readC; rw [if_neg fun e => by rw [h] at e; cases e.2.1]
theorem readC_no3 {c : UInt8} {t : List UInt8} (h : Lib.hasSuffix (Lib.cut t [40]).2.1 [41] = false) : readC c t = none := by unfold readC; rw [if_neg fun e => by rw [h] at e; cases e.2.2]
theorem readC_yes {c : UInt8} {t : List UInt8} (h1 : (Lib.cut t [40]).2.2 = true) (h2 : (pInt (Lib.trimPrefix (Lib.cut t [40]).1 [c])).isSome = true) (h3 : Lib.hasSuffix (Lib.cut t [40]).2.1 [41] = true) :
    readC c t = some ((pInt (Lib.trimPrefix (Lib.cut t [40]).1 [c])).getD 0, wordsC (Lib.trimSuffix (Lib.cut t [40]).2.1 [41])) := by unfold readC; rw [if_pos ⟨h1, h2, h3⟩]
theorem readC_len {c : UInt8} {t : List UInt8} {n : Int} {l : List (List UInt8)} (h : readC c t = some (n, l)) : l.length ≤ t.length + 1 ∧ (∀ p ∈ l, p.length ≤ t.length) ∧ -999999999 ≤ n ∧ n ≤ 999999999 := by
  unfold readC at h
  split at h
  · simp only [Option.some.injEq, Prod.mk.injEq] at h
    obtain ⟨rfl, rfl⟩ := h
    have h1 := (cut_le t [40]).2
    have h2 := Lib.trimSuffix_le (Lib.cut t [40]).2.1 [41]
    have h3 := pInt_bd (Lib.trimPrefix (Lib.cut t [40]).1 [c]) 0 (by omega)
    refine ⟨?_, ?_, h3⟩
    · unfold wordsC
      split
      · simp
      · have := cutL_len 44 (Lib.trimSuffix (Lib.cut t [40]).2.1 [41]); omega
    · unfold wordsC
      split
      · simp
      · intro p hp
        have := cutL_piece 44 _ p hp
        omega
  · cases h
set_option maxRecDepth 100000 in
set_option maxHeartbeats 3200000 in
theorem readCall_any (c : UInt8) (s : ByteArray) (w : World) (hs : s.size ≤ 1048576) (hL : LibW w) :
    Calls Tryz.prog 144 #[.string ⟨#[c]⟩, .string s] w (RcEnd c s.data.toList w) := by
  have hsl : s.data.toList.length ≤ 1048576 := by simpa using hs
  have HLW := Lib.hid hL
  obtain ⟨m, hm⟩ := hL.2.2.2
  have hcl := cut_le s.data.toList [40]
  obtain ⟨A, hA⟩ : ∃ A, (Lib.cut s.data.toList [40]).1 = A := ⟨_, rfl⟩
  obtain ⟨R, hR⟩ : ∃ R, (Lib.cut s.data.toList [40]).2.1 = R := ⟨_, rfl⟩
  obtain ⟨k, hk⟩ : ∃ k, (Lib.cut s.data.toList [40]).2.2 = k := ⟨_, rfl⟩
  rw [hA, hR] at hcl
  have hqc : ∀ w', w'.cell? ⟨0, 0, none⟩ = some (.int .i64 m) → Calls Tryz.prog 180 #[.string s, .string ⟨#[40]⟩] w' fun e w'' => e = .returned (.tuple #[.string ⟨A.toArray⟩, .string ⟨R.toArray⟩, .bool k]) ∧ Below w'.heap.size w' w'' := fun w' h => (Tryz.strings_Cut s ⟨#[40]⟩ m w' (by omega) h).mono (by
    rintro e w'' ⟨rfl, n, rfl⟩
    refine ⟨?_, (Qt.dn _ n).below⟩
    rw [show (⟨#[40]⟩ : ByteArray).data.toList = [40] from rfl, hA, hR, hk])
  have HC1 := Lib.hid (show k = false → readC c s.data.toList = none from fun e => readC_no1 (hk.trans e))
  have HC2 := Lib.hid (show (pInt (Lib.trimPrefix A [c])).isSome = false → readC c s.data.toList = none from fun e => readC_no2 (by rw [hA]; exact e))
  have HC3 := Lib.hid (show Lib.hasSuffix R [41] = false → readC c s.data.toList = none from fun e => readC_no3 (by rw [hR]; exact e))
  have HC4 := Lib.hid (show k = true → (pInt (Lib.trimPrefix A [c])).isSome = true → Lib.hasSuffix R [41] = true → readC c s.data.toList = some ((pInt (Lib.trimPrefix A [c])).getD 0, wordsC (Lib.trimSuffix R [41])) from fun e1 e2 e3 => by
    have h := readC_yes (c := c) (t := s.data.toList) (hk.trans e1) (by rw [hA]; exact e2) (by rw [hR]; exact e3)
    rw [hA, hR] at h; exact h)
  clear hA hR hk hL
  have hqp : ∀ w, Calls Tryz.prog 98 #[.string ⟨A.toArray⟩, .string ⟨#[c]⟩] w fun e w' => e = .returned (.string ⟨(Lib.trimPrefix A [c]).toArray⟩) ∧ w = w' := fun w => (Tryz.strings_TrimPrefix ⟨A.toArray⟩ ⟨#[c]⟩ w).mono (by rintro e w' ⟨rfl, rfl⟩; exact ⟨rfl, rfl⟩)
  have hRs : (⟨R.toArray⟩ : ByteArray).size ≤ 1048576 := show R.toArray.size ≤ 1048576 by rw [List.size_toArray]; omega
  obtain ⟨n, hn⟩ : ∃ n, (pInt (Lib.trimPrefix A [c])).getD 0 = n := ⟨_, rfl⟩
  obtain ⟨kn, hkn⟩ : ∃ kn, (pInt (Lib.trimPrefix A [c])).isSome = kn := ⟨_, rfl⟩
  have hTl := Lib.trimPrefix_le A [c]
  have hpi : ∀ w, LibW w → Calls Tryz.prog 97 #[.string ⟨(Lib.trimPrefix A [c]).toArray⟩] w fun e w' => e = .returned (.tuple #[.int .i64 n, .bool kn]) ∧ Below w.heap.size w w' := fun w h => ret2 (libParseInt_any ⟨(Lib.trimPrefix A [c]).toArray⟩ w (show (Lib.trimPrefix A [c]).toArray.size ≤ 1048576 by rw [List.size_toArray]; omega) h) hn hkn
  rw [hn] at HC4
  rw [hkn] at HC2 HC4
  obtain ⟨ks, hks⟩ : ∃ ks, Lib.hasSuffix R [41] = ks := ⟨_, rfl⟩
  have hqs : ∀ w, Calls Tryz.prog 195 #[.string ⟨R.toArray⟩, .string ⟨#[41]⟩] w fun e w' => e = .returned (.bool ks) ∧ w = w' := fun w => (Tryz.strings_HasSuffix ⟨R.toArray⟩ ⟨#[41]⟩ w (by omega)).mono (by rintro e w' ⟨rfl, rfl⟩; exact ⟨by rw [show (⟨R.toArray⟩ : ByteArray).data.toList = R from rfl, show (⟨#[41]⟩ : ByteArray).data.toList = [41] from rfl, hks], rfl⟩)
  rw [hks] at HC3 HC4
  obtain ⟨I, hI⟩ : ∃ I, Lib.trimSuffix R [41] = I := ⟨_, rfl⟩
  have hqt : ∀ w, Calls Tryz.prog 196 #[.string ⟨R.toArray⟩, .string ⟨#[41]⟩] w fun e w' => e = .returned (.string ⟨I.toArray⟩) ∧ w = w' := fun w => (Tryz.strings_TrimSuffix ⟨R.toArray⟩ ⟨#[41]⟩ w (by omega)).mono (by rintro e w' ⟨rfl, rfl⟩; exact ⟨by rw [show (⟨R.toArray⟩ : ByteArray).data.toList = R from rfl, show (⟨#[41]⟩ : ByteArray).data.toList = [41] from rfl, hI], rfl⟩)
  have hIl := Lib.trimSuffix_le R [41]
  rw [hI] at HC4 hIl
  have HIs := Lib.hid (show I.toArray.size ≤ 1048576 by rw [List.size_toArray]; omega)
  clear hI hks hkn hn hTl
  go_enter Tryz.func144, Tryz.ntmps144
  go_wp2_with fail
  refine (hqc _ hm).mono ?_
  rintro e w1 ⟨rfl, hb1⟩
  go_wp2_with fail
  refine (hqp _).mono ?_
  rintro e w1' ⟨rfl, rfl⟩
  go_wp2_with fail
  refine (hpi _ (HLW.out.on hb1)).mono ?_
  rintro e w2 ⟨rfl, hb2⟩
  have B2 := bt hb1 hb2
  cases k with
  | false =>
    have HN := Lib.hid (HC1.out rfl)
    go_wp2
    refine bodyPost_ret (results_tmp3 rfl _ _ _) rfl ?_
    exact RcEnd.no HN.out rfl B2
  | true =>
    cases kn with
    | false =>
      have HN := Lib.hid (HC2.out rfl)
      go_wp2
      refine bodyPost_ret (results_tmp3 rfl _ _ _) rfl ?_
      exact RcEnd.no HN.out rfl B2
    | true =>
      cases ks with
      | false =>
        have HN := Lib.hid (HC3.out rfl)
        go_wp2_with fail
        refine (hqs _).mono ?_
        rintro e w2' ⟨rfl, rfl⟩
        go_wp2
        refine bodyPost_ret (results_tmp3 rfl _ _ _) rfl ?_
        exact RcEnd.no HN.out rfl B2
      | true =>
        have HY := Lib.hid (HC4.out rfl rfl rfl)
        go_wp2_with fail
        refine (hqs _).mono ?_
        rintro e w2' ⟨rfl, rfl⟩
        go_wp2_with fail
        refine (hqt _).mono ?_
        rintro e w2' ⟨rfl, rfl⟩
        by_cases hI0 : I = []
        · subst hI0
          go_wp2
          refine bodyPost_ret (results_tmp3 rfl _ _ _) rfl ?_
          exact RcEnd.yes n [] _ [] (by rw [HY.out]; rfl) rfl (slR.nilv _ _ _ _) B2
        · have hIe : (I == []) = false := by rw [beq_eq_false_iff_ne]; exact hI0
          have hIe2 : I.isEmpty = false := by cases I with
            | nil => exact absurd rfl hI0
            | cons x t => rfl
          have HW := Lib.hid (show wordsC I = cutL 44 I by unfold wordsC; rw [if_neg hI0])
          clear hI0
          go_wp2_with fail
          refine (split1_any ⟨I.toArray⟩ 44 _ HIs.out (HLW.out.on B2).2.2.2).mono ?_
          rintro e w3 ⟨gp, cp, fp, rfl, hgp, hb3⟩
          go_wp2
          refine bodyPost_ret (results_tmp3 rfl _ _ _) rfl ?_
          exact RcEnd.yes n (cutL 44 I) _ _ (by rw [HY.out, HW.out]) rfl hgp.sl (bt B2 hb3)
end Go.Proofs.YtapapnaljjnhnaaGreatDoor
