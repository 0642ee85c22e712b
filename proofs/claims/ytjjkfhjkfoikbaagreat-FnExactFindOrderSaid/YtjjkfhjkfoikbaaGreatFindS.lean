/- FindOrder and BlockedAtoms of the reference. Condition: not more than 2^20 terms. -/
import Derived.Test.YtjjkfhjkfoikbaaGreatGreedS
namespace Go.Proofs.YtjjkfhjkfoikbaaGreat
open Go.RowKit
set_option linter.unusedVariables false
set_option linter.unusedSimpArgs false
theorem findL_no {s : List Int} {l : List MethD} {q : QueryD} (h : askedB s l q = false) : findL s l q = ([], false) := by unfold findL; rw [h]; rfl
theorem findL_lt {s : List Int} {l : List MethD} {q : QueryD} (h : askedB s l q = true) (hl : (greedyN l q.atoms q.atoms.length).length < q.atoms.length) : findL s l q = ([], false) := by unfold findL; rw [h, if_pos rfl, if_pos hl]
theorem findL_ge {s : List Int} {l : List MethD} {q : QueryD} (h : askedB s l q = true) (hl : ¬ (greedyN l q.atoms q.atoms.length).length < q.atoms.length) : findL s l q = (greedyN l q.atoms q.atoms.length, true) := by unfold findL; rw [h, if_pos rfl, if_neg hl]
theorem blockedL_no {s : List Int} {l : List MethD} {q : QueryD} (h : askedB s l q = false) : blockedL s l q = [] := by unfold blockedL; rw [h]; rfl
theorem blockedL_yes {s : List Int} {l : List MethD} {q : QueryD} (h : askedB s l q = true) : blockedL s l q = freeL q.atoms.length (greedyN l q.atoms q.atoms.length) := by unfold blockedL; rw [h]; rfl
theorem memB_take {st : List StepD} {k : Nat} (hk : k < st.length) (x : Int) : memB (used (st.take (k + 1))) x = (memB (used (st.take k)) x || decide (st[k].atom = x)) := by
  have h : used (st.take (k + 1)) = used (st.take k) ++ [st[k].atom] := by rw [List.take_succ_eq_append_getElem hk, used_snoc]
  rw [h, Bool.eq_iff_iff, Bool.or_eq_true, memB_iff, memB_iff, List.mem_append, List.mem_singleton, decide_eq_true_eq]
  exact or_congr Iff.rfl eq_comm
set_option maxRecDepth 100000 in
set_option maxHeartbeats 3200000 in
theorem specFindOrder_any (vs : Value) (s : List Int) (fs : List Nat) (vl : Value) (l : List MethD) (fl : List Nat) (q : QueryD) (vh : Value) (fh : List Nat) (va : Value) (fa : List Nat) (w : World) (hs : ints w vs s fs) (hl : meths w vl l fl) (hh : ints w vh q.head fh) (ha : atoms w va q.atoms fa) (hn : (termsL q.atoms).length ≤ 1048576) :
    Calls Tryz.prog 20 #[vs, vl, .agg #[vh, va]] w fun e w' => ∃ v' f', e = .returned (.tuple #[v', .bool (findL s l q).2]) ∧ steps w' v' (findL s l q).1 f' ∧ Below w.heap.size w w' := by
  obtain ⟨head, ats⟩ := q
  obtain ⟨ps, cs, rfl⟩ := slR.form hs
  obtain ⟨pl, cl, rfl⟩ := slR.form hl
  obtain ⟨ph, ch, rfl⟩ := slR.form hh
  obtain ⟨pa, ca, rfl⟩ := slR.form ha
  have hb0 : Below w.heap.size w (w.alloc (.cells #[.slice ph head.length ch, .slice pa ats.length ca] 35)) := ba (Below.refl _ _)
  have c0 : (w.alloc (.cells #[.slice ph head.length ch, .slice pa ats.length ca] 35)).cell? ⟨w.heap.size, 0, none⟩ = some (.slice ph head.length ch) := cell_new w _ _ 0 _ rfl
  have c1 : (w.alloc (.cells #[.slice ph head.length ch, .slice pa ats.length ca] 35)).cell? ⟨w.heap.size, 1, none⟩ = some (.slice pa ats.length ca) := cell_new w _ _ 1 _ rfl
  have hsz : (w.alloc (.cells #[.slice ph head.length ch, .slice pa ats.length ca] 35)).heap.size = w.heap.size + 1 := by simp only [World.alloc, Array.size_push]
  have hs0 := hs.below' hb0
  have hl0 := hl.below' hb0
  have hh0 := hh.below' hb0
  have ha0 := ha.below' hb0
  obtain ⟨w1, hw1⟩ : ∃ w1, w1 = (w.alloc (.cells #[.slice ph head.length ch, .slice pa ats.length ca] 35)) := ⟨_, rfl⟩
  rw [← hw1] at hb0 c0 c1 hs0 hl0 hh0 ha0 hsz
  have HW1 := Lib.hid hw1
  have Hn := Lib.hid hn
  have HA := Lib.hid (fun b (hA : askedB s l ⟨head, ats⟩ = b) => retBB (l6Fine_any _ s fs _ l fl ⟨head, ats⟩ _ fh _ fa w1 hs0 hl0 hh0 ha0 hn) hA)
  clear hw1 hn hsz
  cases hA : askedB s l ⟨head, ats⟩ with
  | false =>
    have Hf := Lib.hid (findL_no hA)
    have HB := Lib.hid (HA.out _ hA)
    clear hA HA
    go_enter Tryz.func20, Tryz.ntmps20
    go_wp2_with (go_at_call 30; rw [← HW1.out]; refine HB.out.mono ?_; rintro e w2 ⟨rfl, hb2⟩; have hg2 := grR.lit' (w := w2) (B := w2.heap.size) (E := 58) (sz := 2) stepR (Nat.le_refl _) rfl)
    go_ret2
    rw [Hf.out]
    exact ⟨_, _, rfl, hg2.sl, ba (bt hb0 hb2)⟩
  | true =>
    have HB := Lib.hid (HA.out _ hA)
    obtain ⟨hn1, hn4, hl5, hterms⟩ := asked_atoms hA
    have HG := Lib.hid (fun w2 (hl2 : meths w2 (.slice pl l.length cl) l fl) (hh2 : ints w2 (.slice ph head.length ch) head fh) (ha2 : atoms w2 (.slice pa ats.length ca) ats fa) => l6Greedy_any _ l fl ⟨head, ats⟩ _ fh _ fa w2 hl2 hh2 ha2 hn4 (by omega) hterms)
    have hn4' : ats.length ≤ 4 := hn4
    by_cases hlt : (greedyN l ats ats.length).length < ats.length
    · have Hf := Lib.hid (findL_lt hA hlt)
      have hlt' : ((greedyN l ats ats.length).length : Int) < (ats.length : Int) := by omega
      generalize hR : greedyN l ats ats.length = R at HG hlt hlt'
      clear hA HA hterms hn1 hn4 hR hlt
      go_enter Tryz.func20, Tryz.ntmps20
      go_wp2_with (first
        | (go_at_call 30; rw [← HW1.out]; refine HB.out.mono ?_; rintro e w2 ⟨rfl, hb2⟩; have e0 := cell_below c0 hb2; have e1 := cell_below c1 hb2)
        | (go_at_call 31; refine (HG.out _ (hl0.below' hb2) (hh0.below' hb2) (ha0.below' hb2)).mono ?_; rintro e w3 ⟨v3, f3, rfl, hst3, hfr3, hb3⟩; obtain ⟨p3, q3, rfl⟩ := slR.form hst3; have z1 := cell_below e1 hb3; have hb23 := bt hb2 hb3; have hg3 := grR.lit' (w := w3) (B := w3.heap.size) (E := 58) (sz := 2) stepR (Nat.le_refl _) rfl))
      go_ret2
      rw [Hf.out]
      exact ⟨_, _, rfl, hg3.sl, ba (bt hb0 hb23)⟩
    · have Hf := Lib.hid (findL_ge hA hlt)
      have hlt' : ¬ ((greedyN l ats ats.length).length : Int) < (ats.length : Int) := by omega
      simp only [show (QueryD.atoms ⟨head, ats⟩) = ats from rfl] at Hf
      generalize hR : greedyN l ats ats.length = R at HG hlt hlt' Hf
      clear hA HA hterms hn1 hn4 hR hlt
      go_enter Tryz.func20, Tryz.ntmps20
      go_wp2_with (first
        | (go_at_call 30; rw [← HW1.out]; refine HB.out.mono ?_; rintro e w2 ⟨rfl, hb2⟩; have e0 := cell_below c0 hb2; have e1 := cell_below c1 hb2)
        | (go_at_call 31; refine (HG.out _ (hl0.below' hb2) (hh0.below' hb2) (ha0.below' hb2)).mono ?_; rintro e w3 ⟨v3, f3, rfl, hst3, hfr3, hb3⟩; obtain ⟨p3, q3, rfl⟩ := slR.form hst3; have z1 := cell_below e1 hb3; have hb23 := bt hb2 hb3))
      go_ret2
      rw [Hf.out]
      have hbf := bt hb0 hb23
      first | exact ⟨_, f3, rfl, hst3, hbf⟩ | exact ⟨_, rfl, ⟨f3, hst3⟩, hbf⟩ | exact ⟨_, rfl, f3, hst3, hbf⟩
set_option maxRecDepth 100000 in
set_option maxHeartbeats 6400000 in
theorem specBlockedAtoms_any (vs : Value) (s : List Int) (fs : List Nat) (vl : Value) (l : List MethD) (fl : List Nat) (q : QueryD) (vh : Value) (fh : List Nat) (va : Value) (fa : List Nat) (w : World) (hs : ints w vs s fs) (hl : meths w vl l fl) (hh : ints w vh q.head fh) (ha : atoms w va q.atoms fa) (hn : (termsL q.atoms).length ≤ 1048576) :
    Calls Tryz.prog 8 #[vs, vl, .agg #[vh, va]] w fun e w' => ∃ v' f', e = .returned v' ∧ ints w' v' (blockedL s l q) f' ∧ Below w.heap.size w w' := by
  obtain ⟨head, ats⟩ := q
  obtain ⟨ps, cs, rfl⟩ := slR.form hs
  obtain ⟨pl, cl, rfl⟩ := slR.form hl
  obtain ⟨ph, ch, rfl⟩ := slR.form hh
  obtain ⟨pa, ca, rfl⟩ := slR.form ha
  have hb0 : Below w.heap.size w (w.alloc (.cells #[.slice ph head.length ch, .slice pa ats.length ca] 35)) := ba (Below.refl _ _)
  have c0 : (w.alloc (.cells #[.slice ph head.length ch, .slice pa ats.length ca] 35)).cell? ⟨w.heap.size, 0, none⟩ = some (.slice ph head.length ch) := cell_new w _ _ 0 _ rfl
  have c1 : (w.alloc (.cells #[.slice ph head.length ch, .slice pa ats.length ca] 35)).cell? ⟨w.heap.size, 1, none⟩ = some (.slice pa ats.length ca) := cell_new w _ _ 1 _ rfl
  have hsz : (w.alloc (.cells #[.slice ph head.length ch, .slice pa ats.length ca] 35)).heap.size = w.heap.size + 1 := by simp only [World.alloc, Array.size_push]
  have hs0 := hs.below' hb0
  have hl0 := hl.below' hb0
  have hh0 := hh.below' hb0
  have ha0 := ha.below' hb0
  obtain ⟨w1, hw1⟩ : ∃ w1, w1 = (w.alloc (.cells #[.slice ph head.length ch, .slice pa ats.length ca] 35)) := ⟨_, rfl⟩
  rw [← hw1] at hb0 c0 c1 hs0 hl0 hh0 ha0 hsz
  have HW1 := Lib.hid hw1
  have Hn := Lib.hid hn
  have hb1 : Below w1.heap.size w1 (w1.alloc (.cells #[] 3)) := ba (Below.refl _ _)
  have hg7 := grR.lit' (w := w1) (B := w1.heap.size) (E := 3) (sz := 1) intR (Nat.le_refl _) hsz
  have HA := Lib.hid (fun b (hA : askedB s l ⟨head, ats⟩ = b) => retBB (l6Fine_any _ s fs _ l fl ⟨head, ats⟩ _ fh _ fa (w1.alloc (.cells #[] 3)) (hs0.below' hb1) (hl0.below' hb1) (hh0.below' hb1) (ha0.below' hb1) hn) hA)
  have c0a := fun o => cell_al c0 o
  have c1a := fun o => cell_al c1 o
  have hzz : (w1.alloc (.cells #[] 3)).heap.size = w.heap.size + 1 + 1 := by simp only [World.alloc, Array.size_push, hsz]
  have Hzz := Lib.hid hzz
  clear hw1 hn hzz
  cases hA : askedB s l ⟨head, ats⟩ with
  | false =>
    have Hf := Lib.hid (blockedL_no hA)
    have HB := Lib.hid (HA.out _ hA)
    have Hsz := Lib.hid hsz
    clear hA HA hsz
    go_enter Tryz.func8, Tryz.ntmps8
    go_wp2_with (go_at_call 30; rw [← HW1.out]; refine HB.out.mono ?_; rintro e w2 ⟨rfl, hb2⟩; have hb12 := bt hb1 hb2; have hg2 := hg7.below' good_int hb2)
    go_ret
    rw [Hf.out]
    exact ⟨_, _, rfl, hg2.sl, bt hb0 hb12⟩
  | true =>
    have HB := Lib.hid (HA.out _ hA)
    obtain ⟨hn1, hn4, hl5, hterms⟩ := asked_atoms hA
    have HG := Lib.hid (fun w2 (hl2 : meths w2 (.slice pl l.length cl) l fl) (hh2 : ints w2 (.slice ph head.length ch) head fh) (ha2 : atoms w2 (.slice pa ats.length ca) ats fa) => l6Greedy_any _ l fl ⟨head, ats⟩ _ fh _ fa w2 hl2 hh2 ha2 hn4 (by omega) hterms)
    have hn4' : ats.length ≤ 4 := hn4
    have Hf := Lib.hid (blockedL_yes hA)
    have hrl : (greedyN l ats ats.length).length ≤ ats.length := greedyN_le _
    simp only [show (QueryD.atoms ⟨head, ats⟩) = ats from rfl] at Hf HG
    generalize hR : greedyN l ats ats.length = x at HG Hf hrl
    have Hsz := Lib.hid hsz
    clear hA HA hterms hn1 hn4 hR hsz
    go_enter Tryz.func8, Tryz.ntmps8
    go_wp2_with (first
      | (go_at_call 30; rw [← HW1.out]; refine HB.out.mono ?_; rintro e w2 ⟨rfl, hb2⟩; have e0 := cell_below (c0a _) hb2; have e1 := cell_below (c1a _) hb2; have hb12 := bt hb1 hb2; have hg2 := hg7.below' good_int hb2)
      | (go_at_call 31; refine (HG.out _ (hl0.below' hb12) (hh0.below' hb12) (ha0.below' hb12)).mono ?_; rintro e w3 ⟨v3, f3, rfl, hst3, hfr3, hb3⟩; obtain ⟨p3, q3, rfl⟩ := slR.form hst3; have hb13 := bt hb12 hb3; have hg3 := hg2.below' good_int hb3))
    have HD0 := Lib.hid (show w.heap.size + 1 ∉ f3 from hfr3.notin (by have := hb2.size; have := Hzz.out; omega))
    clear e0 e1
    go_loopw [7, 9] (fun u i wr => ∃ (k gu cu : Nat) (fu : List Nat), i = .int .i64 k ∧ k ≤ ats.length ∧ u = .slice (some ⟨gu, 0, none⟩) (freeL k x).length cu ∧ grR 3 1 intR w1.heap.size wr (.slice (some ⟨gu, 0, none⟩) (freeL k x).length cu) (freeL k x) fu ∧ steps wr (.slice p3 x.length q3) x f3 ∧ Hid (gu ∉ f3) ∧ Below w1.heap.size w1 wr) (fun _ i _ => ats.length - (intOf i).toNat)
    case atStart => exact ⟨0, _, _, _, rfl, Nat.zero_le _, rfl, hg3, hst3, HD0, hb13⟩
    case round =>
      obtain ⟨k, gu, cu, fu, rfl, hk, rfl, hgu, hst, HDJ, hbel⟩ := hrel
      have d0 := cell_below c0 hbel
      have d1 := cell_below c1 hbel
      have hfl := freeL_length k x
      by_cases hlt : k < ats.length
      · have hkl : (k : Int) < (ats.length : Int) := by omega
        have hIk : I64 (k : Int) := ⟨by omega, by omega⟩
        go_wp2
        obtain ⟨wo, rfl⟩ : ∃ wo : World, wo = wr := ⟨_, rfl⟩
        go_loopw [10, 11] (fun b i wr => ∃ (j : Nat) (bb : Bool), i = .int .i64 j ∧ j ≤ x.length ∧ b = .bool bb ∧ Hid (bb = memB (used (x.take j)) (k : Int)) ∧ wr = wo) (fun _ i _ => x.length - (intOf i).toNat)
        case atStart => exact ⟨0, false, rfl, Nat.zero_le _, rfl, Lib.hid rfl, rfl⟩
        case round =>
          obtain ⟨j, bb, rfl, hj, rfl, Hbb, rfl⟩ := hrel
          by_cases hlt2 : j < x.length
          · obtain ⟨gs, cc, fi, hgs, ⟨hcc, _, ia, im⟩, _, hc, _, _, _⟩ := slR.at hst j hlt2
            subst hgs
            have t0 : wr.cell? ⟨gs, j * 2, none⟩ = some (.int .i64 x[j].atom) := hc 0 _ (by rw [hcc]; rfl)
            have hjl : (j : Int) < (x.length : Int) := by omega
            have hj0 : (0 : Int) ≤ (j : Int) := Int.natCast_nonneg _
            have HN2 := Lib.hid (memB_take hlt2 (k : Int))
            clear hc hcc
            cases bb with
            | true =>
              go_wp2
              go_roundw
              case rel => exact ⟨j + 1, true, by go_num, by omega, rfl, Lib.hid (by rw [HN2.out, ← Hbb.out]; rfl), by first | rfl | trivial⟩
              case measure => simp [intOf]; omega
            | false =>
              by_cases he : x[j].atom = (k : Int)
              · have hee : (x[j].atom == (k : Int)) = true := by simp [he]
                go_wp2
                go_roundw
                case rel => exact ⟨j + 1, true, by go_num, by omega, by first | rfl | simp [he], Lib.hid (by rw [HN2.out, he]; simp), by first | rfl | trivial⟩
                case measure => simp [intOf]; omega
              · have hee : (x[j].atom == (k : Int)) = false := by simp [he]
                go_wp2
                go_roundw
                case rel => exact ⟨j + 1, false, by go_num, by omega, by first | rfl | simp [he], Lib.hid (by rw [HN2.out, ← Hbb.out]; simp [he]), by first | rfl | trivial⟩
                case measure => simp [intOf]; omega
          · have hjl : j = x.length := by omega
            have Hm := Lib.hid (show bb = memB (used x) (k : Int) by rw [Hbb.out, hjl, List.take_length])
            clear hjl
            cases bb with
            | true =>
              have HS := Lib.hid (freeL_no Hm.out.symm)
              go_wp2
              go_roundw
              case rel => exact ⟨k + 1, gu, cu, fu, by go_num, by omega, by rw [HS.out], by rw [HS.out]; exact hgu, hst, HDJ, hbel⟩
              case measure => simp [intOf]; omega
            | false =>
              have HS := Lib.hid (freeL_yes Hm.out.symm)
              have hslt := hst.lt
              go_wp2_with (at_builtin; refine wpList_gr2 slInt good_int rfl _ _ rfl hgu hbel rfl #[.int .i64 (k : Int)] (k : Int) [] ⟨rfl, rfl, hIk⟩ rfl (Fresh.nil _) (by simp) _ rfl rfl (by simp [Value.oneCell']) (by omega) (by unfold maxLen; omega) ?_; intro g5 cap5 w5 f5 hgu5 hb5 hg5 Hat5 Hsub5)
              have hst5 : steps w5 (.slice p3 x.length q3) x f3 := hst.frame (fun i hi => hg5.block i (hslt i hi) (fun e => by simp [Value.ownBlock] at e; rw [← e] at HDJ; exact HDJ.out hi))
              have HD5 := Lib.hid (show g5 ∉ f3 from by
                rcases Hat5.out with h | h
                · simp [Value.ownBlock] at h; rw [← h]; exact HDJ.out
                · intro hi; have := hslt g5 hi; omega)
              go_roundw
              case rel => exact ⟨k + 1, g5, cap5, f5, by go_num, by omega, by rw [HS.out]; simp, by rw [HS.out]; simpa using hgu5, hst5, HD5, hb5⟩
              case measure => simp [intOf]; omega
      · have hkn : k = ats.length := by omega
        have hfin : ints wr (.slice (some ⟨gu, 0, none⟩) (freeL k x).length cu) (freeL ats.length x) fu := by rw [← hkn]; exact hgu.sl
        have hbw := bt hb0 hbel
        clear hkn
        rw [← Hf.out] at hfin
        go_wp2
        go_ret
        first | exact ⟨_, fu, rfl, hfin, hbw⟩ | exact ⟨_, rfl, ⟨fu, hfin⟩, hbw⟩ | exact ⟨_, rfl, fu, hfin, hbw⟩
end Go.Proofs.YtjjkfhjkfoikbaaGreat
