/- greedy, FindOrder and BlockedAtoms of the program. Condition: not more than 2^20 terms. -/
import Derived.Test.YtjjkfhjkfoikbaaGreatGreedI
import Derived.Test.YtjjkfhjkfoikbaaGreatFindS
namespace Go.Proofs.YtjjkfhjkfoikbaaGreat
open Go.RowKit
set_option linter.unusedVariables false
set_option linter.unusedSimpArgs false
set_option maxRecDepth 100000 in
set_option maxHeartbeats 1600000 in
theorem greedy_any (vl : Value) (l : List MethD) (fl : List Nat) (ats : List AtomD) (va : Value) (fa : List Nat) (w : World) (hl : meths w vl l fl) (ha : atoms w va ats fa) (hn1 : 1 ≤ ats.length) (hn4 : ats.length ≤ 4) (hl5 : l.length ≤ 8) (hterms : ∀ a ∈ ats, a.terms.length ≤ 3) :
    Calls Tryz.prog 35 #[vl, va] w fun e w' => ∃ v' f' vd gd ds, e = .returned (.tuple #[v', vd]) ∧ steps w' v' (greedyN l ats ats.length) f' ∧ Fresh w.heap.size f' ∧ Row w' 4 1 vd ats.length (bcells ds) (some gd) ∧ w.heap.size ≤ gd ∧ (∀ a, a < ats.length → ds[a]? = some (memB (used (greedyN l ats ats.length)) (a : Int))) ∧ Below w.heap.size w w' := by
  obtain ⟨pl, cl, rfl⟩ := slR.form hl
  obtain ⟨pa, ca, rfl⟩ := slR.form ha
  have H := Lib.hid (greedyWhere_any _ l fl ats _ fa w hl ha hn1 hn4 hl5 hterms)
  clear hterms hn1 hn4 hl5
  go_enter Tryz.func35, Tryz.ntmps35
  go_wp2_with fail
  refine H.out.mono ?_
  rintro e w1 ⟨v', f', vd, gd, ds, rfl, h1, h2, h3, h4, h5, h6⟩
  go_wp2
  go_ret2
  exact ⟨v', f', vd, gd, ds, rfl, h1, h2, h3, h4, h5, h6⟩
set_option maxRecDepth 100000 in
set_option maxHeartbeats 3200000 in
theorem implFindOrder_any (vs : Value) (s : List Int) (fs : List Nat) (vl : Value) (l : List MethD) (fl : List Nat) (q : QueryD) (vh : Value) (fh : List Nat) (va : Value) (fa : List Nat) (w : World) (hs : ints w vs s fs) (hl : meths w vl l fl) (hh : ints w vh q.head fh) (ha : atoms w va q.atoms fa) (hn : (termsL q.atoms).length ≤ 1048576) :
    Calls Tryz.prog 21 #[vs, vl, .agg #[vh, va]] w fun e w' => ∃ v' f', e = .returned (.tuple #[v', .bool (findL s l q).2]) ∧ steps w' v' (findL s l q).1 f' ∧ Fresh w.heap.size f' ∧ Below w.heap.size w w' := by
  obtain ⟨head, ats⟩ := q
  obtain ⟨ps, cs, rfl⟩ := slR.form hs
  obtain ⟨pl, cl, rfl⟩ := slR.form hl
  obtain ⟨ph, ch, rfl⟩ := slR.form hh
  obtain ⟨pa, ca, rfl⟩ := slR.form ha
  have hb0 : Below w.heap.size w (w.alloc (.cells #[.slice ph head.length ch, .slice pa ats.length ca] 35)) := ba (Below.refl _ _)
  have c0 : (w.alloc (.cells #[.slice ph head.length ch, .slice pa ats.length ca] 35)).cell? ⟨w.heap.size, 0, none⟩ = some (.slice ph head.length ch) := cell_new w _ _ 0 _ rfl
  have c1 : (w.alloc (.cells #[.slice ph head.length ch, .slice pa ats.length ca] 35)).cell? ⟨w.heap.size, 1, none⟩ = some (.slice pa ats.length ca) := cell_new w _ _ 1 _ rfl
  have hs0 := hs.below' hb0
  have hl0 := hl.below' hb0
  have hh0 := hh.below' hb0
  have ha0 := ha.below' hb0
  obtain ⟨w1, hw1⟩ : ∃ w1, w1 = (w.alloc (.cells #[.slice ph head.length ch, .slice pa ats.length ca] 35)) := ⟨_, rfl⟩
  rw [← hw1] at hb0 c0 c1 hs0 hl0 hh0 ha0
  have HW1 := Lib.hid hw1
  have HA := Lib.hid (fun b (hA : askedB s l ⟨head, ats⟩ = b) => retBB (areAsked_any _ s fs _ l fl ⟨head, ats⟩ _ fh _ fa w1 hs0 hl0 hh0 ha0 hn) hA)
  clear hw1 hn
  cases hA : askedB s l ⟨head, ats⟩ with
  | false =>
    have Hf := Lib.hid (findL_no hA)
    have HB := Lib.hid (HA.out _ hA)
    clear hA HA
    go_enter Tryz.func21, Tryz.ntmps21
    go_wp2_with (go_at_call 34; rw [← HW1.out]; refine HB.out.mono ?_; rintro e w2 ⟨rfl, hb2⟩; have e0 := cell_below c0 hb2; have e1 := cell_below c1 hb2)
    go_ret2
    rw [Hf.out]
    exact ⟨_, _, rfl, slR.nilv _ _ _ _, Fresh.nil _, bt hb0 hb2⟩
  | true =>
    have HB := Lib.hid (HA.out _ hA)
    obtain ⟨hn1, hn4, hl5, hterms⟩ := asked_atoms hA
    have hn1' : 1 ≤ ats.length := hn1
    have hn4' : ats.length ≤ 4 := hn4
    have HG := Lib.hid (fun w2 (hl2 : meths w2 (.slice pl l.length cl) l fl) (ha2 : atoms w2 (.slice pa ats.length ca) ats fa) => greedy_any _ l fl ats _ fa w2 hl2 ha2 hn1' hn4' (by omega) hterms)
    by_cases hlt : (greedyN l ats ats.length).length < ats.length
    · have Hf := Lib.hid (findL_lt hA hlt)
      have hlt' : ((greedyN l ats ats.length).length : Int) < (ats.length : Int) := by omega
      generalize hR : greedyN l ats ats.length = R at HG hlt hlt'
      clear hA HA hterms hn1 hn4 hR hlt
      go_enter Tryz.func21, Tryz.ntmps21
      go_wp2_with (first
        | (go_at_call 34; rw [← HW1.out]; refine HB.out.mono ?_; rintro e w2 ⟨rfl, hb2⟩; have e0 := cell_below c0 hb2; have e1 := cell_below c1 hb2)
        | (go_at_call 35; refine (HG.out _ (hl0.below' hb2) (ha0.below' hb2)).mono ?_; rintro e w3 ⟨v3, f3, vd, gd, ds, rfl, hst3, hfr3, _hrow, _hgd, _hds, hb3⟩; clear _hrow _hds _hgd; obtain ⟨p3, q3, rfl⟩ := slR.form hst3; have z1 := cell_below e1 hb3; have hb23 := bt hb2 hb3))
      go_ret2
      rw [Hf.out]
      exact ⟨_, _, rfl, slR.nilv _ _ _ _, Fresh.nil _, bt hb0 hb23⟩
    · have Hf := Lib.hid (findL_ge hA hlt)
      have hlt' : ¬ ((greedyN l ats ats.length).length : Int) < (ats.length : Int) := by omega
      simp only [show (QueryD.atoms ⟨head, ats⟩) = ats from rfl] at Hf
      generalize hR : greedyN l ats ats.length = R at HG hlt hlt' Hf
      clear hA HA hterms hn1 hn4 hR hlt
      go_enter Tryz.func21, Tryz.ntmps21
      go_wp2_with (first
        | (go_at_call 34; rw [← HW1.out]; refine HB.out.mono ?_; rintro e w2 ⟨rfl, hb2⟩; have e0 := cell_below c0 hb2; have e1 := cell_below c1 hb2)
        | (go_at_call 35; refine (HG.out _ (hl0.below' hb2) (ha0.below' hb2)).mono ?_; rintro e w3 ⟨v3, f3, vd, gd, ds, rfl, hst3, hfr3, _hrow, _hgd, _hds, hb3⟩; clear _hrow _hds _hgd; obtain ⟨p3, q3, rfl⟩ := slR.form hst3; have z1 := cell_below e1 hb3; have hb23 := bt hb2 hb3; have hfr := hfr3.mono (Nat.le_trans hb0.size hb2.size)))
      go_ret2
      rw [Hf.out]
      have hbf := bt hb0 hb23
      first | exact ⟨_, f3, rfl, hst3, hfr, hbf⟩ | exact ⟨_, rfl, ⟨f3, hst3, hfr⟩, hbf⟩ | exact ⟨_, rfl, f3, hst3, hfr, hbf⟩
set_option maxRecDepth 100000 in
set_option maxHeartbeats 3200000 in
theorem implBlockedAtoms_any (vs : Value) (s : List Int) (fs : List Nat) (vl : Value) (l : List MethD) (fl : List Nat) (q : QueryD) (vh : Value) (fh : List Nat) (va : Value) (fa : List Nat) (w : World) (hs : ints w vs s fs) (hl : meths w vl l fl) (hh : ints w vh q.head fh) (ha : atoms w va q.atoms fa) (hn : (termsL q.atoms).length ≤ 1048576) :
    Calls Tryz.prog 12 #[vs, vl, .agg #[vh, va]] w fun e w' => ∃ v' f', e = .returned v' ∧ ints w' v' (blockedL s l q) f' ∧ Fresh w.heap.size f' ∧ Below w.heap.size w w' := by
  obtain ⟨head, ats⟩ := q
  obtain ⟨ps, cs, rfl⟩ := slR.form hs
  obtain ⟨pl, cl, rfl⟩ := slR.form hl
  obtain ⟨ph, ch, rfl⟩ := slR.form hh
  obtain ⟨pa, ca, rfl⟩ := slR.form ha
  have hb0 : Below w.heap.size w (w.alloc (.cells #[.slice ph head.length ch, .slice pa ats.length ca] 35)) := ba (Below.refl _ _)
  have c0 : (w.alloc (.cells #[.slice ph head.length ch, .slice pa ats.length ca] 35)).cell? ⟨w.heap.size, 0, none⟩ = some (.slice ph head.length ch) := cell_new w _ _ 0 _ rfl
  have c1 : (w.alloc (.cells #[.slice ph head.length ch, .slice pa ats.length ca] 35)).cell? ⟨w.heap.size, 1, none⟩ = some (.slice pa ats.length ca) := cell_new w _ _ 1 _ rfl
  have hs0 := hs.below' hb0
  have hl0 := hl.below' hb0
  have hh0 := hh.below' hb0
  have ha0 := ha.below' hb0
  obtain ⟨w1, hw1⟩ : ∃ w1, w1 = (w.alloc (.cells #[.slice ph head.length ch, .slice pa ats.length ca] 35)) := ⟨_, rfl⟩
  rw [← hw1] at hb0 c0 c1 hs0 hl0 hh0 ha0
  have HW1 := Lib.hid hw1
  have HA := Lib.hid (fun b (hA : askedB s l ⟨head, ats⟩ = b) => retBB (areAsked_any _ s fs _ l fl ⟨head, ats⟩ _ fh _ fa w1 hs0 hl0 hh0 ha0 hn) hA)
  clear hw1 hn
  cases hA : askedB s l ⟨head, ats⟩ with
  | false =>
    have Hf := Lib.hid (blockedL_no hA)
    have HB := Lib.hid (HA.out _ hA)
    clear hA HA
    go_enter Tryz.func12, Tryz.ntmps12
    go_wp2_with (go_at_call 34; rw [← HW1.out]; refine HB.out.mono ?_; rintro e w2 ⟨rfl, hb2⟩; have e0 := cell_below c0 hb2; have e1 := cell_below c1 hb2)
    go_ret
    rw [Hf.out]
    exact ⟨_, _, rfl, slR.nilv _ _ _ _, Fresh.nil _, bt hb0 hb2⟩
  | true =>
    have HB := Lib.hid (HA.out _ hA)
    obtain ⟨hn1, hn4, hl5, hterms⟩ := asked_atoms hA
    have hn1' : 1 ≤ ats.length := hn1
    have hn4' : ats.length ≤ 4 := hn4
    have HG := Lib.hid (fun w2 (hl2 : meths w2 (.slice pl l.length cl) l fl) (ha2 : atoms w2 (.slice pa ats.length ca) ats fa) => greedy_any _ l fl ats _ fa w2 hl2 ha2 hn1' hn4' (by omega) hterms)
    have Hf := Lib.hid (blockedL_yes hA)
    simp only [show (QueryD.atoms ⟨head, ats⟩) = ats from rfl] at Hf
    generalize hR : greedyN l ats ats.length = x at HG Hf
    clear hA HA hterms hn1 hn4 hR
    go_enter Tryz.func12, Tryz.ntmps12
    go_wp2_with (first
      | (go_at_call 34; rw [← HW1.out]; refine HB.out.mono ?_; rintro e w2 ⟨rfl, hb2⟩; have e0 := fun o => cell_al (cell_below c0 hb2) o; have e1 := fun o => cell_al (cell_below c1 hb2) o; have hg2 := grR.lit' (w := w2) (B := w1.heap.size) (E := 3) (sz := 1) intR hb2.size rfl; have hb2a : Below w1.heap.size w1 (w2.alloc (.cells #[] 3)) := ba hb2)
      | (go_at_call 35; refine (HG.out _ (hl0.below' hb2a) (ha0.below' hb2a)).mono ?_; rintro e w3 ⟨v3, f3, vd, gd, ds, rfl, _h1, _h2, hrow3, hgd3, hds3, hb3⟩; clear _h1 _h2; obtain ⟨p3, q3, rfl⟩ := hrow3.form; have hb23 := bt hb2a hb3; have hg3 := hg2.below' good_int hb3; have Hds := Lib.hid hds3; have HGd := Lib.hid (show w2.heap.size ≠ gd from by have h := hgd3; simp only [World.alloc, Array.size_push] at h; omega); clear hds3 hgd3))
    have hb13 := bt hb0 hb23
    clear e0 e1 hb2a hg2 HB
    go_loopw [7, 27] (fun u i wr => ∃ (k gu cu : Nat) (fu : List Nat), i = .int .i64 k ∧ k ≤ ats.length ∧ u = .slice (some ⟨gu, 0, none⟩) (freeL k x).length cu ∧ grR 3 1 intR w1.heap.size wr (.slice (some ⟨gu, 0, none⟩) (freeL k x).length cu) (freeL k x) fu ∧ Row wr 4 1 (.slice p3 ats.length q3) ats.length (bcells ds) (some gd) ∧ Hid (gu ≠ gd) ∧ Below w1.heap.size w1 wr) (fun _ i _ => ats.length - (intOf i).toNat)
    case atStart => exact ⟨0, _, _, _, rfl, Nat.zero_le _, rfl, hg3, hrow3, HGd, hb23⟩
    case round =>
      obtain ⟨k, gu, cu, fu, rfl, hk, rfl, hgu, hrow, HDJ, hbel⟩ := hrel
      have hfl := freeL_length k x
      by_cases hlt : k < ats.length
      · have hkl : (k : Int) < (ats.length : Int) := by omega
        have hIk : I64 (k : Int) := ⟨by omega, by omega⟩
        have hk0 : (0 : Int) ≤ (k : Int) := Int.natCast_nonneg _
        obtain ⟨gd', hgd, hgd2, hdc, hdz⟩ := hrow.at (by omega)
        cases hgd
        have hdq := hdc k _ (bcells_get (Hds.out k hlt))
        have hglt := hrow.lt gd rfl
        clear hdc hdz hgd2
        cases hm : memB (used x) (k : Int) with
        | true =>
          rw [hm] at hdq
          have HS := Lib.hid (freeL_no hm)
          clear hm
          go_wp2
          go_roundw
          case rel => exact ⟨k + 1, gu, cu, fu, by go_num, by omega, by rw [HS.out], by rw [HS.out]; exact hgu, hrow, HDJ, hbel⟩
          case measure => simp [intOf]; omega
        | false =>
          rw [hm] at hdq
          have HS := Lib.hid (freeL_yes hm)
          clear hm
          go_wp2_with (at_builtin; refine wpList_gr2 slInt good_int rfl _ _ rfl hgu hbel rfl #[.int .i64 (k : Int)] (k : Int) [] ⟨rfl, rfl, hIk⟩ rfl (Fresh.nil _) (by simp) _ rfl rfl (by simp [Value.oneCell']) (by omega) (by unfold maxLen; omega) ?_; intro g5 cap5 w5 f5 hgu5 hb5 hg5 Hat5 Hsub5)
          have hrow5 := hrow.frame (w' := w5) (fun i hi => by cases hi; exact hg5.block _ hglt (fun e => by simp [Value.ownBlock] at e; exact HDJ.out e.symm))
          have HD5 := Lib.hid (show g5 ≠ gd from by
            rcases Hat5.out with h | h
            · simp [Value.ownBlock] at h; rw [← h]; exact HDJ.out
            · omega)
          go_roundw
          case rel => exact ⟨k + 1, g5, cap5, f5, by go_num, by omega, by rw [HS.out]; simp, by rw [HS.out]; simpa using hgu5, hrow5, HD5, hb5⟩
          case measure => simp [intOf]; omega
      · have hkn : k = ats.length := by omega
        have hfin : ints wr (.slice (some ⟨gu, 0, none⟩) (freeL k x).length cu) (freeL ats.length x) fu := by rw [← hkn]; exact hgu.sl
        have hbw := bt hb0 hbel
        have hfr := hgu.fresh.mono hb0.size
        clear hkn
        rw [← Hf.out] at hfin
        go_wp2
        go_ret
        first | exact ⟨_, fu, rfl, hfin, hfr, hbw⟩ | exact ⟨_, rfl, ⟨fu, hfin, hfr⟩, hbw⟩ | exact ⟨_, rfl, fu, hfin, hfr, hbw⟩
end Go.Proofs.YtjjkfhjkfoikbaaGreat
