/- l6Greedy of the reference. Condition: atoms of up to three terms, at most four. -/
import Derived.Test.YtjjkfhjkfoikbaaGreatFirstS
import Derived.Test.YtjjkfhjkfoikbaaGreatGreedL
import Derived.Test.YtjjkfhjkfoikbaaGreatGrow2
import Derived.Test.YtjjkfhjkfoikbaaGreatHStep
import Derived.IntWalk
namespace Go.Proofs.YtjjkfhjkfoikbaaGreat
open Go.RowKit
set_option linter.unusedVariables false
set_option linter.unusedSimpArgs false
theorem grR.lit' {α : Type} {E : TypeId} {sz : Nat} {B : Nat} {w : World} (R : Rd α) (hB : B ≤ w.heap.size) {H : Nat} (hH : w.heap.size = H) : grR E sz R B (w.alloc (.cells #[] E)) (.slice (some ⟨H, 0, none⟩) 0 0) [] [H] := by
  subst hH; exact grR.lit R hB (Nat.le_refl _)
theorem all_flat {α : Type} {R : Rd α} {w : World} {cs : List (List Value)} {ds : List α} {fs : List (List Nat)} (hR : ∀ cs d f, R w cs d f → f = []) (h : All R w cs ds fs) : fs.flatten = [] := by
  induction h with
  | nil => rfl
  | cons h _ ih => rw [List.flatten_cons, ih, hR _ _ _ h]; rfl
theorem grR.flat {α : Type} {E : TypeId} {sz : Nat} {R : Rd α} {B : Nat} {w : World} {g n cap : Nat} {l : List α} {f : List Nat} (hR : ∀ cs d f, R w cs d f → f = []) (h : grR E sz R B w (.slice (some ⟨g, 0, none⟩) n cap) l f) : f = [g] := by
  obtain ⟨rows, fs, ha, _, _, rfl, _⟩ := h
  rw [all_flat hR ha]; rfl
theorem int_flat {w : World} : ∀ cs d f, intR w cs d f → f = [] := fun _ _ _ h => h.2.1
theorem step_flat {w : World} : ∀ cs d f, stepR w cs d f → f = [] := fun _ _ _ h => h.2.1
theorem l6Greedy_ext {a : Option Addr} {n m cap : Nat} (h : n = m) : Value.slice a n cap = Value.slice a m cap := by rw [h]
set_option maxRecDepth 100000 in
set_option maxHeartbeats 6400000 in
theorem l6Greedy_any (vl : Value) (l : List MethD) (fl : List Nat) (q : QueryD) (vh : Value) (fh : List Nat) (va : Value) (fa : List Nat) (w : World) (hl : meths w vl l fl) (hh : ints w vh q.head fh) (ha : atoms w va q.atoms fa) (hn4 : q.atoms.length ≤ 4) (hl5 : l.length ≤ 8) (hterms : ∀ a ∈ q.atoms, a.terms.length ≤ 3) :
    Calls Tryz.prog 31 #[vl, .agg #[vh, va]] w fun e w' => ∃ v' f', e = .returned v' ∧ steps w' v' (greedyN l q.atoms q.atoms.length) f' ∧ Fresh w.heap.size f' ∧ Below w.heap.size w w' := by
  obtain ⟨head, ats⟩ := q
  obtain ⟨pl, cl, rfl⟩ := slR.form hl
  obtain ⟨ph, ch, rfl⟩ := slR.form hh
  obtain ⟨pa, ca, rfl⟩ := slR.form ha
  have hb0 : Below w.heap.size w (w.alloc (.cells #[.slice ph head.length ch, .slice pa ats.length ca] 35)) := ba (Below.refl _ _)
  have c0 : (w.alloc (.cells #[.slice ph head.length ch, .slice pa ats.length ca] 35)).cell? ⟨w.heap.size, 0, none⟩ = some (.slice ph head.length ch) := cell_new w _ _ 0 _ rfl
  have c1 : (w.alloc (.cells #[.slice ph head.length ch, .slice pa ats.length ca] 35)).cell? ⟨w.heap.size, 1, none⟩ = some (.slice pa ats.length ca) := cell_new w _ _ 1 _ rfl
  have hl0 := hl.below' hb0
  have ha0 := ha.below' hb0
  obtain ⟨w1, hw1⟩ : ∃ w1, w1 = (w.alloc (.cells #[.slice ph head.length ch, .slice pa ats.length ca] 35)) := ⟨_, rfl⟩
  rw [← hw1] at hb0 c0 c1 hl0 ha0
  have hsz : w1.heap.size = w.heap.size + 1 := by rw [hw1]; simp only [World.alloc, Array.size_push]
  have hg5 := grR.lit' (w := w1) (B := w1.heap.size) (E := 58) (sz := 2) stepR (Nat.le_refl _) hsz
  have hsA : (w1.alloc (.cells #[] 58)).heap.size = w.heap.size + 1 + 1 := by simp only [World.alloc, Array.size_push, hsz]
  have hg6 := grR.lit' (w := w1.alloc (.cells #[] 58)) (B := w1.heap.size) (E := 3) (sz := 1) intR (by rw [hsA]; omega) hsA
  have hsB : ((w1.alloc (.cells #[] 58)).alloc (.cells #[] 3)).heap.size = w.heap.size + 1 + 1 + 1 := by simp only [World.alloc, Array.size_push, hsz]
  have hg7 := grR.lit' (w := (w1.alloc (.cells #[] 58)).alloc (.cells #[] 3)) (B := w1.heap.size) (E := 3) (sz := 1) intR (by rw [hsB]; omega) hsB
  have hg5' := (hg5.below' good_step (ba (o := .cells #[] 3) (Below.refl _ _))).below' good_step (ba (o := .cells #[] 3) (Below.refl _ _))
  have hg6' : ints _ _ _ _ := ints.al hg6.sl (.cells #[] 3)
  have hb3 : Below w1.heap.size w1 (((w1.alloc (.cells #[] 58)).alloc (.cells #[] 3)).alloc (.cells #[] 3)) := ba (ba (ba (Below.refl _ _)))
  have HW1 := Lib.hid hw1
  have Hterms := Lib.hid hterms
  clear hw1 hg5 hg6 hsA hsB hterms hsz
  go_enter Tryz.func31, Tryz.ntmps31
  go_wp2
  rw [← HW1.out]
  go_loopw [5, 6, 7, 8] (fun vo b u i wr => ∃ (k cb gu cu go co : Nat) (pb : Option Addr) (bo : List Int) (fb fu fo : List Nat) (st : List StepD), i = .int .i64 k ∧ k ≤ ats.length ∧ vo = .slice (some ⟨go, 0, none⟩) st.length co ∧ grR 58 2 stepR w1.heap.size wr (.slice (some ⟨go, 0, none⟩) st.length co) st fo ∧ b = .slice pb bo.length cb ∧ ints wr (.slice pb bo.length cb) bo fb ∧ Hid (SameVars bo (bnd ats st)) ∧ bo.length ≤ 3 * k ∧ u = .slice (some ⟨gu, 0, none⟩) (used st).length cu ∧ grR 3 1 intR w1.heap.size wr (.slice (some ⟨gu, 0, none⟩) (used st).length cu) (used st) fu ∧ Hid (gu ∉ fb ∧ go ∉ fb ∧ gu ≠ go) ∧ Hid (st = greedyN l ats k) ∧ st.length ≤ k ∧ Below w1.heap.size w1 wr) (fun _ _ _ i _ => ats.length - (intOf i).toNat)
  case atStart => exact ⟨0, _, _, _, _, _, _, [], _, _, _, [], rfl, Nat.zero_le _, rfl, hg5', rfl, hg6', Lib.hid (SameVars.refl _), by simp, rfl, hg7, Lib.hid ⟨by simp, by simp, by omega⟩, Lib.hid rfl, by simp, hb3⟩
  case round =>
    obtain ⟨k, cb, gu, cu, go, co, pb, bo, fb, fu, fo, st, rfl, hk, rfl, hgo, rfl, hbo, HSV, hbl, rfl, hgu, HDJ, Hst, hstl, hbel⟩ := hrel
    have d0 := cell_below c0 hbel
    have d1 := cell_below c1 hbel
    have hul : (used st).length ≤ k := by unfold used; simp; exact hstl
    by_cases hlt : k < ats.length
    · have hkl : (k : Int) < (ats.length : Int) := by omega
      go_wp2
      obtain ⟨wo, rfl⟩ : ∃ wo : World, wo = wr := ⟨_, rfl⟩
      go_loopw [5, 6, 7, 9] (fun vo b u i wr => ∃ j : Nat, i = .int .i64 j ∧ j ≤ ats.length ∧ vo = .slice (some ⟨go, 0, none⟩) st.length co ∧ b = .slice pb bo.length cb ∧ u = .slice (some ⟨gu, 0, none⟩) (used st).length cu ∧ Hid (∀ i, i < j → good l ats st i = false) ∧ Below wo.heap.size wo wr) (fun _ _ _ i _ => ats.length - (intOf i).toNat)
      case atStart => exact ⟨0, rfl, Nat.zero_le _, rfl, rfl, rfl, Lib.hid (fun i h0 => by omega), Below.refl _ _⟩
      case round =>
        obtain ⟨j, rfl, hj, rfl, rfl, rfl, HN, hbel2⟩ := hrel
        have hbelw := bt hbel hbel2
        have e0 := cell_below d0 hbel2
        have e1 := cell_below d1 hbel2
        by_cases hlt2 : j < ats.length
        · have hjl : (j : Int) < (ats.length : Int) := by omega
          have hj0 : (0 : Int) ≤ (j : Int) := Int.natCast_nonneg _
          obtain ⟨ga, ccc, ft, hga, ⟨vt, rfl, ita, hvt⟩, _, hca, _, _, _⟩ := slR.at ha0 j hlt2
          subst hga
          obtain ⟨pv, cv, rfl⟩ := slR.form hvt
          have A0 : w1.cell? ⟨ga, j * 2, none⟩ = some (.int .i64 ats[j].rel) := hca 0 _ rfl
          have A1 : w1.cell? ⟨ga, j * 2 + 1, none⟩ = some (.slice pv ats[j].terms.length cv) := hca 1 _ rfl
          have a0 := cell_below A0 hbelw
          have a1 := cell_below A1 hbelw
          have hvtr := hvt.below' hbelw
          have hfu := grR.flat int_flat hgu
          have hfo := grR.flat step_flat hgo
          have Hfu := Lib.hid hfu
          have Hfo := Lib.hid hfo
          clear hfu hfo
          have htl : ats[j].terms.length ≤ 3 := Hterms.out _ (List.getElem_mem hlt2)
          have hIj : I64 (j : Int) := ⟨by omega, by omega⟩
          have hbo2 := hbo.below' hbel2
          have hgu2 := hgu.below' good_int hbel2
          have hgo2 := hgo.below' good_step hbel2
          have hgus : ints wr (.slice (some ⟨gu, 0, none⟩) (used st).length cu) (used st) fu := hgu2.sl
          clear hca
          have HF := Lib.hid (show firstM l ats[j] bo = firstM l (atomAt ats (j : Int)) (bnd ats st) by rw [atomAt_nat hlt2]; exact firstM_same HSV.out)
          have hlo : -1 ≤ firstM l ats[j] bo := firstM_lo l ats[j] bo
          have hhi : firstM l ats[j] bo ≤ 8 := Int.le_trans (firstM_le l ats[j] bo) (by omega)
          obtain ⟨m, hm⟩ : ∃ m, m = firstM l ats[j] bo := ⟨_, rfl⟩
          rw [← hm] at hlo hhi
          have HM := Lib.hid (show m = firstM l (atomAt ats (j : Int)) (bnd ats st) by rw [hm]; exact HF.out)
          have Hm := Lib.hid hm
          clear hm HF
          have hImm : I64 m := ⟨by omega, by omega⟩
          by_cases hm0 : 0 ≤ m
          · cases hu : memB (used st) (j : Int) with
            | true =>
              have HG := Lib.hid (show good l ats st j = false by unfold good; rw [hu]; rfl)
              go_wp2_with (first
                | (go_at_call 46; refine (l6First_any _ l fl ats[j] _ ft _ bo fb _ (hl0.below' hbelw) hvtr hbo2).mono ?_; rintro e w2 ⟨rfl, hb2⟩; rw [← Hm.out]; have hgus3 := hgus.below' hb2)
                | (go_at_call 47; refine (retB (l2Has_any _ (used st) fu _ _ hgus3) hu).mono ?_; rintro e w3 ⟨rfl, rfl⟩))
              go_roundw
              case rel => exact ⟨j + 1, by go_num, by omega, rfl, rfl, rfl, Lib.hid (all_step HN.out HG.out), bt hbel2 hb2⟩
              case measure => simp [intOf]; omega
            | false =>
              have HG := Lib.hid (show good l ats st j = true by unfold good; rw [hu, ← HM.out]; simp [hm0])
              have HP := Lib.hid (show greedyN l ats (k + 1) = st ++ [⟨(j : Int), m⟩] by
                rw [HM.out, Hst.out]; exact greedyN_some (by rw [← Hst.out]; exact pick_some hlt2 HG.out HN.out))
              have HU := Lib.hid (used_snoc st ⟨(j : Int), m⟩)
              have HV := Lib.hid (show SameVars (bindL bo ats[j].terms) (bnd ats (st ++ [⟨(j : Int), m⟩])) by rw [bnd_snoc, atomAt_nat hlt2]; exact HSV.out.bind _)
              go_wp2_with (first
                | (go_at_call 46; refine (l6First_any _ l fl ats[j] _ ft _ bo fb _ (hl0.below' hbelw) hvtr hbo2).mono ?_; rintro e w2 ⟨rfl, hb2⟩; rw [← Hm.out]; have hgus3 := hgus.below' hb2; have hgu3 := hgu2.below' good_int hb2; have hgo3 := hgo2.below' good_step hb2; have hbo3 := hbo2.below' hb2; have hbw2 := bt hbelw hb2)
                | (go_at_call 47; refine (retB (l2Has_any _ (used st) fu _ _ hgus3) hu).mono ?_; rintro e w3 ⟨rfl, rfl⟩)
                | (at_builtin; refine wpList_gr2 slStepS good_step rfl _ _ rfl hgo3 hbw2 rfl #[.int .i64 (j : Int), .int .i64 m] ⟨(j : Int), m⟩ [] ⟨rfl, rfl, hIj, hImm⟩ rfl (Fresh.nil _) (by simp) _ rfl rfl (by simp [Value.oneCell']) (by omega) (by unfold maxLen; omega) ?_; intro g4 cap4 w4 f4 hgo4 hb4 hg4 Hat4 Hsub4
                   have hlu := hgu3.lt good_int gu (by rw [Hfu.out]; simp)
                   have hne4 : gu ≠ g4 := by
                     rcases Hat4.out with h | h
                     · simp [Value.ownBlock] at h; rw [← h]; exact HDJ.out.2.2
                     · omega
                   have hgu4 := hgu3.frame good_int (fun i hi => hg4.block i (hgu3.lt good_int i hi) (fun e => by rw [Hfu.out] at hi; simp [Value.ownBlock] at e hi; exact HDJ.out.2.2 (by rw [← hi, e])))
                   have hbo4 : ints w4 (.slice pb bo.length cb) bo fb := hbo3.frame (fun i hi => hg4.block i (hbo3.lt i hi) (fun e => by simp [Value.ownBlock] at e; rw [← e] at HDJ; exact HDJ.out.2.1 hi))
                   have Hne4 := Lib.hid hne4
                   clear hne4 hlu hgo3 hgu3 hbo3 Hsub4 Hat4 hg4)
                | (at_builtin; refine wpList_gr2 slInt good_int rfl _ _ rfl hgu4 hb4 rfl #[.int .i64 (j : Int)] (j : Int) [] ⟨rfl, rfl, hIj⟩ rfl (Fresh.nil _) (by simp) _ rfl rfl (by simp [Value.oneCell']) (by omega) (by unfold maxLen; omega) ?_; intro g5 cap5 w5 f5 hgu5 hb5 hg5 Hat5 Hsub5
                   have hf4 := grR.flat step_flat hgo4
                   have hl4 := hgo4.lt good_step g4 (by rw [hf4]; simp)
                   have hne5 : g5 ≠ g4 := by
                     rcases Hat5.out with h | h
                     · simp [Value.ownBlock] at h; rw [← h]; exact Hne4.out
                     · omega
                   have hgo5 := hgo4.frame good_step (fun i hi => hg5.block i (hgo4.lt good_step i hi) (fun e => by rw [hf4] at hi; simp [Value.ownBlock] at e hi; exact Hne4.out (by rw [← hi, e])))
                   have hbo5 : ints w5 (.slice pb bo.length cb) bo fb := hbo4.frame (fun i hi => hg5.block i (hbo4.lt i hi) (fun e => by simp [Value.ownBlock] at e; rw [← e] at HDJ; exact HDJ.out.1 hi))
                   have Hne5 := Lib.hid hne5
                   have y0 := cell_below c0 hb5
                   have y1 := cell_below c1 hb5
                   have y2 := cell_below A0 hb5
                   have y3 := cell_below A1 hb5
                   have hvt5 := hvt.below' hb5
                   clear hne5 hf4 hl4 hgo4 hgu4 hbo4 Hsub5 Hat5 hg5)
                | (go_at_call 48; refine (l6Bind_any _ bo fb ats[j] _ ft _ hbo5 hvt5 (by omega) (by omega)).mono ?_; rintro e w6 ⟨v6, f6, rfl, hu6, hfr6, hb6⟩; obtain ⟨p6, q6, rfl⟩ := slR.form hu6; have hgo6 := hgo5.below' good_step hb6; have hgu6 := hgu5.below' good_int hb6; have hb16 := bt hb5 hb6))
              have hl6 := bindL_length ats[j].terms bo
              have HD6 := Lib.hid (show g5 ∉ f6 ∧ g4 ∉ f6 ∧ g5 ≠ g4 from ⟨hfr6.notin (hgu5.lt good_int g5 (by rw [grR.flat int_flat hgu5]; simp)), hfr6.notin (hgo5.lt good_step g4 (by rw [grR.flat step_flat hgo5]; simp)), Hne5.out⟩)
              go_wp2
              go_roundw
              case rel => exact ⟨k + 1, q6, g5, cap5, g4, cap4, p6, bindL bo ats[j].terms, f6, f5, f4, st ++ [⟨(j : Int), m⟩], by go_num, by omega, by simp, by simpa using hgo6, rfl, hu6, HV, by omega, by rw [HU.out]; simp, by rw [HU.out]; simpa using hgu6, HD6, Lib.hid HP.out.symm, by simp; omega, hb16⟩
              case measure => simp [intOf]; omega
          · have HG := Lib.hid (show good l ats st j = false by unfold good; rw [← HM.out]; simp [hm0])
            go_wp2_with (go_at_call 46; refine (l6First_any _ l fl ats[j] _ ft _ bo fb _ (hl0.below' hbelw) hvtr hbo2).mono ?_; rintro e w2 ⟨rfl, hb2⟩; rw [← Hm.out])
            go_roundw
            case rel => exact ⟨j + 1, by go_num, by omega, rfl, rfl, rfl, Lib.hid (all_step HN.out HG.out), bt hbel2 hb2⟩
            case measure => simp [intOf]; omega
        · have hjn : j = ats.length := by omega
          have HP := Lib.hid (show st = greedyN l ats (k + 1) by
            rw [Hst.out]; exact (greedyN_none (by rw [← Hst.out]; exact pick_none (by rw [← hjn]; exact HN.out))).symm)
          clear hjn
          have hbo2 := hbo.below' hbel2
          have hgu2 := hgu.below' good_int hbel2
          have hgo2 := hgo.below' good_step hbel2
          go_wp2
          go_roundw
          case rel => exact ⟨k + 1, cb, gu, cu, go, co, pb, bo, fb, fu, fo, st, by go_num, by omega, rfl, hgo2, rfl, hbo2, HSV, by omega, rfl, hgu2, HDJ, HP, by omega, hbelw⟩
          case measure => simp [intOf]; omega
    · have hkn : k = ats.length := by omega
      have hfin : steps wr (.slice (some ⟨go, 0, none⟩) st.length co) (greedyN l ats ats.length) fo := by
        have : greedyN l ats ats.length = st := by rw [← hkn]; exact Hst.out.symm
        rw [this]; exact hgo.sl
      have hfr := hgo.fresh.mono hb0.size
      have hbw := bt hb0 hbel
      clear hkn
      go_wp2
      go_ret
      first | exact ⟨_, fo, rfl, hfin, hfr, hbw⟩ | exact ⟨_, rfl, ⟨fo, hfin, hfr⟩, hbw⟩ | exact ⟨_, rfl, fo, hfin, hfr, hbw⟩
end Go.Proofs.YtjjkfhjkfoikbaaGreat
