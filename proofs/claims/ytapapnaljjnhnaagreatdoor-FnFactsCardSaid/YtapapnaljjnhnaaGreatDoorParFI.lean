/- ParseFact of the program: it returns what 'FactIs' says. Conditions: the text is no longer than 2^20; what the library's own variables hold. -/
import Derived.Test.YtapapnaljjnhnaaGreatDoorParFS
import Derived.Test.YtapapnaljjnhnaaGreatDoorReadC
namespace Go.Proofs.YtapapnaljjnhnaaGreatDoor
open Go.RowKit
set_option linter.unusedVariables false
set_option linter.unusedSimpArgs false
set_option maxRecDepth 100000 in
set_option maxHeartbeats 6400000 in
theorem implParseFact_any (vs : Value) (s : List Int) (fs : List Nat) (t : ByteArray) (w : World) (hs : ints w vs s fs) (ht : t.size ≤ 1048576) (hL : LibW w) :
    Calls Tryz.prog 66 #[vs, .string t] w (PfEnd s t.data.toList w) := by
  have htl : t.data.toList.length ≤ 1048576 := by simpa using ht
  have HLW := Lib.hid hL
  clear hL
  have hb0 : Below w.heap.size w (w.alloc (.cells #[.int .i64 0, .slice none 0 0] 79)) := ba (Below.refl _ _)
  have h40 : Two (w.alloc (.cells #[.int .i64 0, .slice none 0 0] 79)) w.heap.size (.int .i64 0) (.slice none 0 0) := Two.new _ _ _ _
  have hri := fun v l f (W : World) (h : slR 9 1 strR W v l f) hl hp (hW : LibW W) => readInts_any v l f W h hl hp hW
  go_enter Tryz.func66, Tryz.ntmps66
  go_wp2_with fail
  refine (readCall_any 114 t _ ht (HLW.out.on hb0)).mono ?_
  rintro e w1 (⟨hrc, rfl, hb1⟩ | ⟨n, l, v, f, hrc, rfl, hp, hb1⟩)
  · have HN := Lib.hid (factI_no (s := s) (.inl hrc))
    clear hrc
    have B1 := bt hb0 hb1
    have H41 := Lib.hid (h40.below hb1)
    go_wp2_with fail
    refine (hri _ [] [] _ (slR.nilv _ _ _ _) (by simp) (by simp) (HLW.out.on B1)).mono ?_
    rintro e w2 ⟨vi, fi, rfl, hi, hfi, hb2⟩
    have B2 := bt B1 hb2
    obtain ⟨av, cv, rfl⟩ : ∃ a c, vi = .slice a 0 c := slR.form hi
    have H4e := Lib.hid ((H41.out.below hb2).below (ba (o := .cells #[.int .i64 0, .slice av 0 cv] 79) (Below.refl _ _)))
    have H42 := Lib.hid (H41.out.below hb2)
    clear hi
    have H4y := H4e.out
    obtain ⟨⟨r0, r1⟩, q0, q1⟩ := H4y
    go_wp2
    (try simp only [Exit.inBlock, Exit.then])
    refine bodyPost_ret (v := .tuple #[.agg #[.int .i64 0, .slice none 0 0], .bool false]) ?_ rfl ?_
    · rw [results_cell_tmp rfl]
      simp [asAddr, Result.andThen, load_fact2 H4e.out]
    · exact PfEnd.no rfl HN.out (below_two2 (ba B2) (Nat.le_refl _) _ _)
  · have hrl := readC_len hrc
    have HRC := Lib.hid hrc
    clear hrc
    obtain ⟨hl1, hl2, hn1, hn2⟩ := hrl
    have HLp := Lib.hid (show ∀ p ∈ l, p.length ≤ 1048576 from fun p hp => by have := hl2 p hp; omega)
    clear hl2
    have B1 := bt hb0 hb1
    have H41 := Lib.hid (h40.below hb1)
    obtain ⟨ka, hka⟩ : ∃ ka, allI l = ka := ⟨_, rfl⟩
    have hq3 : Calls Tryz.prog 96 #[v] w1 fun e w' => ∃ (v : Value) (f : List Nat), e = .returned (.tuple #[v, .bool ka]) ∧ ints w' v (if ka then valI l else []) f ∧ Fresh w1.heap.size f ∧ Below w1.heap.size w1 w' := by
      have h2 := hri v l f w1 hp (by omega) HLp.out (HLW.out.on B1)
      unfold RdEnd at h2
      rw [hka] at h2
      exact h2
    have HKA := Lib.hid hka
    clear hka hri
    go_wp2_with fail
    refine hq3.mono ?_
    rintro e w2 ⟨vi, fi, rfl, hi, hfi, hb2⟩
    clear hq3
    have B2 := bt B1 hb2
    cases ka with
    | false =>
      have HN := Lib.hid (factI_no (s := s) (.inr ⟨n, l, HRC.out, .inl HKA.out⟩))
      simp only [Bool.false_eq_true, if_false] at hi
      obtain ⟨av, cv, rfl⟩ : ∃ a c, vi = .slice a 0 c := slR.form hi
      have H4e := Lib.hid ((H41.out.below hb2).below (ba (o := .cells #[.int .i64 n, .slice av 0 cv] 79) (Below.refl _ _)))
      have H42 := Lib.hid (H41.out.below hb2)
      clear hi
      have H4y := H4e.out
      obtain ⟨⟨r0, r1⟩, q0, q1⟩ := H4y
      go_wp2
      (try simp only [Exit.inBlock, Exit.then])
      refine bodyPost_ret (v := .tuple #[.agg #[.int .i64 0, .slice none 0 0], .bool false]) ?_ rfl ?_
      · rw [results_cell_tmp rfl]
        simp [asAddr, Result.andThen, load_fact2 H4e.out]
      · exact PfEnd.no rfl HN.out (below_two2 (ba B2) (Nat.le_refl _) _ _)
    | true =>
      rw [if_pos rfl] at hi
      obtain ⟨av, cv, rfl⟩ := slR.form hi
      have hbx : Below w2.heap.size w2 (w2.alloc (.cells #[.int .i64 n, .slice av (valI l).length cv] 79)) := ba (Below.refl _ _)
      have Fr : Two (w2.alloc (.cells #[.int .i64 n, .slice av (valI l).length cv] 79)) w2.heap.size (.int .i64 n) (.slice av (valI l).length cv) := Two.new _ _ _ _
      have hin := hi.below' hbx
      have Bw := bt B2 hbx
      have H4r := Lib.hid ((H41.out.below hb2).below hbx)
      have Hnot := Lib.hid (show w.heap.size ∉ fi from fun hm => by have h1 := hfi.2 _ hm; have h2 := H41.out.lt; omega)
      have Hfr := Lib.hid (hfi.mono B1.size)
      clear hi
      go_wp2_with fail
      cases hmb : factB s ⟨n, valI l⟩ with
      | false =>
        have HN := Lib.hid (fact_no1 (s := s) (fun h => factI_no (.inr ⟨n, l, HRC.out, .inr h⟩)) hmb)
        refine (retBB (implIsFact_any vs s fs ⟨n, valI l⟩ _ _ _ (hs.below' Bw) hin) hmb).mono ?_
        rintro e wy ⟨rfl, hby⟩
        clear hmb
        have H4e := Lib.hid (H4r.out.below hby)
        have H4y := H4e.out
        obtain ⟨⟨r0, r1⟩, q0, q1⟩ := H4y
        go_wp2
        (try simp only [Exit.inBlock, Exit.then])
        refine bodyPost_ret (v := .tuple #[.agg #[.int .i64 0, .slice none 0 0], .bool false]) ?_ rfl ?_
        · rw [results_cell_tmp rfl]
          simp [asAddr, Result.andThen, load_fact2 H4e.out]
        · exact PfEnd.no rfl HN.out (below_two2 (bt Bw hby) (Nat.le_refl _) _ _)
      | true =>
        have Hmb := Lib.hid hmb
        refine (retBB (implIsFact_any vs s fs ⟨n, valI l⟩ _ _ _ (hs.below' Bw) hin) hmb).mono ?_
        rintro e wy ⟨rfl, hby⟩
        clear hmb
        have Fy := Fr.below hby
        have Fy2 := Fy
        obtain ⟨⟨k0, k1⟩, m0, m1⟩ := Fy2
        go_wp2_with fail
        refine (implFormatFact_any ⟨n, valI l⟩ _ _ _ (ints.below' hin hby) (HLW.out.on (bt Bw hby)).2.2.1).mono ?_
        rintro e we ⟨rfl, hbe⟩
        have hbye := bt hby hbe
        have H4e := Lib.hid (H4r.out.below hbye)
        by_cases heq : factFS ⟨n, valI l⟩ = t.data.toList
        · have hse := str_eq heq
          have Heq := Lib.hid heq
          clear heq
          rw [hse]
          clear hse
          have Fz := Fy.below hbe
          obtain ⟨⟨x0', x1'⟩, z0, z1⟩ := Fz
          have H4y := H4e.out
          obtain ⟨⟨r0, r1⟩, q0, q1⟩ := H4y
          go_wp2
          (try simp only [Exit.inBlock, Exit.then])
          refine bodyPost_ret (v := .tuple #[.agg #[.int .i64 (⟨n, valI l⟩ : FactD).rel, (.slice av (valI l).length cv)], .bool true]) ?_ rfl ?_
          · rw [results_cell_tmp rfl]
            simp [asAddr, Result.andThen, load_fact2 H4e.out]
          · exact PfEnd.yes ⟨n, valI l⟩ _ _ rfl Hmb.out Heq.out (ints_two2 (ints.below' hin hbye) Hnot.out _ _) Hfr.out (below_two2 (bt Bw hbye) (Nat.le_refl _) _ _)
        · have hse := str_ne heq
          have HN := Lib.hid (fact_no2 (s := s) (fun h => factI_no (.inr ⟨n, l, HRC.out, .inr h⟩)) heq)
          clear heq
          have H4y := H4e.out
          obtain ⟨⟨r0, r1⟩, q0, q1⟩ := H4y
          go_wp2
          (try simp only [Exit.inBlock, Exit.then])
          refine bodyPost_ret (v := .tuple #[.agg #[.int .i64 0, .slice none 0 0], .bool false]) ?_ rfl ?_
          · rw [results_cell_tmp rfl]
            simp [asAddr, Result.andThen, load_fact2 H4e.out]
          · exact PfEnd.no rfl HN.out (below_two2 (bt Bw hbye) (Nat.le_refl _) _ _)
end Go.Proofs.YtapapnaljjnhnaaGreatDoor
