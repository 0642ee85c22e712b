/- l6Search of the reference. Condition: atoms of up to three terms, at most four; at most eight methods. -/
import Derived.Test.YtpdmdfkcaabnaaaGreatGreedS
import Derived.Test.YtpdmdfkcaabnaaaGreatCheapL
import Derived.Test.YtpdmdfkcaabnaaaGreatCost
import Derived.Test.YtpdmdfkcaabnaaaGreatCopy
import Derived.Deep.RegionHeld3
import Derived.IntWalk
namespace Go.Proofs.YtpdmdfkcaabnaaaGreat
open Go.RowKit
set_option linter.unusedVariables false
set_option linter.unusedSimpArgs false
theorem steps_cells {w : World} {rows : List (List Value)} {l : List StepD} {fs : List (List Nat)} (h : All stepR w rows l fs) : ∀ u ∈ rows.flatten, u.oneCell' = true := by
  induction h with
  | nil => simp
  | cons h _ ih =>
    obtain ⟨rfl, _, _, _⟩ := h
    intro u hu
    rw [List.flatten_cons, List.mem_append] at hu
    rcases hu with h1 | h1
    · simp at h1
      rcases h1 with rfl | rfl <;> rfl
    · exact ih u h1
theorem steps_wd {w w' : World} {rows : List (List Value)} {l : List StepD} {fs : List (List Nat)} (h : All stepR w rows l fs) : All stepR w' rows l fs := by
  induction h with
  | nil => exact .nil
  | cons h _ ih => exact .cons h ih
/-- A copy of a list of steps, made by append onto a new empty literal. -/
theorem wpList_copy_steps {w : World} {ops : Array Oper} {rest : List Oper} {o : Oper} {a : Act} {Q : Exit → Act → World → Prop}
    (hgd : o.guard = none) (s x : Operand) (ho : o.op = .call { callee := .builtin .append, args := #[s, x], argTypes := #[29, 29] })
    (H : Nat) (hH : w.heap.size = H) (hs : a.eval s = .slice (some ⟨H, 0, none⟩) 0 0) (y : Value) (l : List StepD) (f : List Nat) (hx : a.eval x = y) (hy : steps w y l f) (hn : l.length ≤ 1048576)
    (h : ∀ v' w' f', grR 65 2 stepR w.heap.size w' v' l f' → Below w.heap.size w w' → wpList Tryz.prog ops Q rest (a.put o.dst v') w') :
    wpList Tryz.prog ops Q (o :: rest) a (w.alloc (.cells #[] 65)) := by
  subst hH
  obtain ⟨rows, fs, ob, hall, hlen, hrow, rfl⟩ := hy.below' (ba (o := .cells #[] 65) (Below.refl _ _))
  have hlit : (w.alloc (.cells #[] 65)).ownsRow w.heap.size 65 2 (.slice (some ⟨w.heap.size, 0, none⟩) 0 0) 0 [] := World.ownsRow_lit _ _ _ (Nat.le_refl _) (by simp) (by simp)
  refine wpList_append_row slStepS hgd s x ho w.heap.size _ 0 [] hs hlit y l.length rows.flatten ob hx hrow (steps_cells hall) (by omega) (by unfold maxLen; omega) (by simp) ?_
  intro v' w' h2 h3 h5
  rw [Nat.zero_add, List.nil_append] at h2
  have hlt := own_lt h2
  refine h v' w' v'.ownBlock.toList ⟨rows, fs, steps_wd hall, hlen, h2, ?_, ?_, ?_⟩ ?_
  · rw [all_flat step_flat hall, List.append_nil]
  · cases v'.ownBlock <;> simp
  · intro g hg
    cases hv : v'.ownBlock with
    | none => rw [hv] at hg; simp at hg
    | some k => rw [hv] at hg; simp at hg; subst hg; exact (hlt g hv).1
  · exact below_of_grown (grownBy_trans (World.grownBy_alloc _ _ _) h3) (Nat.le_refl _) fun k hk => by simp [Value.ownBlock] at hk; omega
/-- The steps of a search, as it goes along. -/
theorem used_take {st : List StepD} {q : Nat} (hq : q < st.length) (k : Int) : memB (used (st.take (q + 1))) k = (memB (used (st.take q)) k || (st[q].atom == k)) := by
  unfold used memB
  rw [List.take_succ_eq_append_getElem hq, List.map_append]
  rw [Bool.eq_iff_iff, List.contains_iff_mem, Bool.or_eq_true, List.contains_iff_mem, List.mem_append, beq_iff_eq]
  rw [List.map_cons, List.map_nil, List.mem_singleton, eq_comm (a := k)]
/-- What a search ends in. -/
def SrcE (l : List StepD) (w : World) (e : Ending) (w' : World) : Prop := ∃ v' f', e = .returned v' ∧ steps w' v' l f' ∧ Below w.heap.size w w'
theorem SrcE.mk {l : List StepD} {w : World} {e : Ending} {w' : World} (v' : Value) (f' : List Nat) (he : e = .returned v') (h : steps w' v' l f') (hb : Below w.heap.size w w') : SrcE l w e w' := ⟨v', f', he, h, hb⟩
theorem canAt_of {l : List MethD} {ats : List AtomD} {st : List StepD} {bo : List Int} {i m : Nat} (hi : i < ats.length) (hm : m < l.length) (hu : memB (used st) (i : Int) = false) (hs : SameVars bo (bnd ats st)) : canAt l ats st i m = canCallB l[m] ats[i] bo := by
  unfold canAt
  rw [hu, methAt_nat hm, atomAt_nat hi, canCallB_same hs]
  rfl
set_option maxRecDepth 100000 in
set_option maxHeartbeats 6400000 in
theorem l6Search_any (l : List MethD) (head : List Int) (ats : List AtomD) (hn4 : ats.length ≤ 4) (hl5 : l.length ≤ 8) (hterms : Hid (∀ a ∈ ats, a.terms.length ≤ 3)) :
    ∀ (n : Nat) (st best : List StepD) (bo : List Int) (vl vh va vs vb vx : Value) (fl fh fa fs fb fx : List Nat) (w : World), st.length + n = ats.length → meths w vl l fl → ints w vh head fh → atoms w va ats fa → steps w vs st fs → ints w vb bo fb → steps w vx best fx → Hid (SameVars bo (bnd ats st)) → bo.length ≤ 3 * st.length → best.length ≤ ats.length →
    Calls Tryz.prog 24 #[vl, .agg #[vh, va], vs, vb, vx] w (SrcE (srch l ats n st best) w) := by
  intro n
  induction n with
  | zero =>
    intro st best bo vl vh va vs vb vx fl fh fa fs fb fx w hn hl hh ha hst hb hx HSV hbl hbest
    obtain ⟨pl, cl, rfl⟩ := slR.form hl
    obtain ⟨ph, ch, rfl⟩ := slR.form hh
    obtain ⟨pa, ca, rfl⟩ := slR.form ha
    obtain ⟨ps, cs, rfl⟩ := slR.form hst
    obtain ⟨pb, cb, rfl⟩ := slR.form hb
    obtain ⟨px, cx, rfl⟩ := slR.form hx
    have hb0 : Below w.heap.size w (w.alloc (.cells #[.slice ph head.length ch, .slice pa ats.length ca] 37)) := ba (Below.refl _ _)
    have c0 : (w.alloc (.cells #[.slice ph head.length ch, .slice pa ats.length ca] 37)).cell? ⟨w.heap.size, 0, none⟩ = some (.slice ph head.length ch) := cell_new w _ _ 0 _ rfl
    have c1 : (w.alloc (.cells #[.slice ph head.length ch, .slice pa ats.length ca] 37)).cell? ⟨w.heap.size, 1, none⟩ = some (.slice pa ats.length ca) := cell_new w _ _ 1 _ rfl
    have hl0 := hl.below' hb0
    have hh0 := hh.below' hb0
    have ha0 := ha.below' hb0
    have hst0 := hst.below' hb0
    have hbo0 := hb.below' hb0
    have hx0 := hx.below' hb0
    have hstl : st.length ≤ 4 := by omega
    clear hl hh ha hst hb hx
    have he : ((st.length : Int) == (ats.length : Int)) = true := by simp; omega
    have hstm : st.length ≤ 1048576 := by omega
    have hbem : best.length ≤ 1048576 := by omega
    clear hn
    by_cases hz : best.length = 0
    · have hbz : ((best.length : Int) == 0) = true := by simp [hz]
      have HB := Lib.hid (show srch l ats 0 st best = st by rw [srch_zero]; unfold better bestB; rw [decide_eq_true hz]; rfl)
      clear hz
      go_enter Tryz.func24, Tryz.ntmps24
      go_wp2_with (at_builtin; refine wpList_copy_steps rfl _ _ rfl _ (by first | rfl | simp only [World.alloc, Array.size_push]) rfl _ st _ rfl hst0 (by omega) ?_; intro v5 w5 f5 hg5 hb5)
      go_ret
      exact SrcE.mk v5 f5 rfl (by rw [HB.out]; exact hg5.sl) (bt hb0 hb5)
    · have hbz : ((best.length : Int) == 0) = false := by simpa using hz
      cases hlt : decide (sumC l st < sumC l best) with
      | true =>
        have hltt : sumCost l (st.map (·.meth)) < sumCost l (best.map (·.meth)) := of_decide_eq_true hlt
        have HB := Lib.hid (show srch l ats 0 st best = st by rw [srch_zero]; unfold better bestB; rw [hlt]; simp)
        generalize hA : sumCost l (st.map (·.meth)) = A at hltt
        generalize hBB : sumCost l (best.map (·.meth)) = B at hltt
        have q1 := fun w h1 h2 => (specOrderCost_any (.slice pl l.length cl) l fl (.slice ps st.length cs) st fs w h1 h2 hstm)
        have q2 := fun w h1 h2 => (specOrderCost_any (.slice pl l.length cl) l fl (.slice px best.length cx) best fx w h1 h2 hbem)
        rw [hA] at q1
        rw [hBB] at q2
        clear hlt hA hBB hz
        go_enter Tryz.func24, Tryz.ntmps24
        go_wp2_with (first
          | (go_at_call 25; with_reducible refine (q1 _ hl0 hst0).mono ?_; rintro e w' ⟨rfl, rfl⟩)
          | (go_at_call 25; with_reducible refine (q2 _ hl0 hx0).mono ?_; rintro e w' ⟨rfl, rfl⟩)
          | (at_builtin; refine wpList_copy_steps rfl _ _ rfl _ (by first | rfl | simp only [World.alloc, Array.size_push]) rfl _ st _ rfl hst0 (by omega) ?_; intro v5 w5 f5 hg5 hb5))
        go_ret
        exact SrcE.mk v5 f5 rfl (by rw [HB.out]; exact hg5.sl) (bt hb0 hb5)
      | false =>
        have hltt : ¬ sumCost l (st.map (·.meth)) < sumCost l (best.map (·.meth)) := of_decide_eq_false hlt
        have HB := Lib.hid (show srch l ats 0 st best = best by rw [srch_zero]; unfold better bestB; rw [hlt, decide_eq_false hz]; rfl)
        generalize hA : sumCost l (st.map (·.meth)) = A at hltt
        generalize hBB : sumCost l (best.map (·.meth)) = B at hltt
        have q1 := fun w h1 h2 => (specOrderCost_any (.slice pl l.length cl) l fl (.slice ps st.length cs) st fs w h1 h2 hstm)
        have q2 := fun w h1 h2 => (specOrderCost_any (.slice pl l.length cl) l fl (.slice px best.length cx) best fx w h1 h2 hbem)
        rw [hA] at q1
        rw [hBB] at q2
        clear hlt hA hBB hz
        go_enter Tryz.func24, Tryz.ntmps24
        go_wp2_with (first
          | (go_at_call 25; with_reducible refine (q1 _ hl0 hst0).mono ?_; rintro e w' ⟨rfl, rfl⟩)
          | (go_at_call 25; with_reducible refine (q2 _ hl0 hx0).mono ?_; rintro e w' ⟨rfl, rfl⟩))
        go_ret
        exact SrcE.mk _ fx rfl (by rw [HB.out]; exact hx0) hb0
  | succ n ih =>
    intro st best bo vl vh va vs vb vx fl fh fa fs fb fx w hn hl hh ha hst hb hx HSV hbl hbest
    obtain ⟨pl, cl, rfl⟩ := slR.form hl
    obtain ⟨ph, ch, rfl⟩ := slR.form hh
    obtain ⟨pa, ca, rfl⟩ := slR.form ha
    obtain ⟨ps, cs, rfl⟩ := slR.form hst
    obtain ⟨pb, cb, rfl⟩ := slR.form hb
    obtain ⟨px, cx, rfl⟩ := slR.form hx
    have hb0 : Below w.heap.size w (w.alloc (.cells #[.slice ph head.length ch, .slice pa ats.length ca] 37)) := ba (Below.refl _ _)
    have c0 : (w.alloc (.cells #[.slice ph head.length ch, .slice pa ats.length ca] 37)).cell? ⟨w.heap.size, 0, none⟩ = some (.slice ph head.length ch) := cell_new w _ _ 0 _ rfl
    have c1 : (w.alloc (.cells #[.slice ph head.length ch, .slice pa ats.length ca] 37)).cell? ⟨w.heap.size, 1, none⟩ = some (.slice pa ats.length ca) := cell_new w _ _ 1 _ rfl
    have hl0 := hl.below' hb0
    have hh0 := hh.below' hb0
    have ha0 := ha.below' hb0
    have hst0 := hst.below' hb0
    have hbo0 := hb.below' hb0
    have hx0 := hx.below' hb0
    have hstl : st.length ≤ 4 := by omega
    clear hl hh ha hst hb hx
    have he : ((st.length : Int) == (ats.length : Int)) = false := by simp; omega
    have hsn : st.length + (n + 1) ≤ ats.length := by omega
    have HN := Lib.hid hn
    clear hn
    obtain ⟨w1, hw1⟩ : ∃ w1, w1 = (w.alloc (.cells #[.slice ph head.length ch, .slice pa ats.length ca] 37)) := ⟨_, rfl⟩
    rw [← hw1] at hb0 c0 c1 hl0 hh0 ha0 hst0 hbo0 hx0
    have HW1 := Lib.hid hw1
    clear hw1
    go_enter Tryz.func24, Tryz.ntmps24
    go_wp2
    rw [← HW1.out]
    go_loopw [4, 11] (fun vx i wr => ∃ (k cq : Nat) (pq : Option Addr) (bs : List StepD) (fq : List Nat), i = .int .i64 (k : Int) ∧ k ≤ ats.length ∧ vx = .slice pq bs.length cq ∧ steps wr (.slice pq bs.length cq) bs fq ∧ Hid (bs = srchI l ats n st k best) ∧ bs.length ≤ ats.length ∧ Below w1.heap.size w1 wr) (fun _ i _ => ats.length - (intOf i).toNat)
    case atStart => exact ⟨0, cx, px, best, fx, rfl, Nat.zero_le _, rfl, hx0, Lib.hid rfl, hbest, Below.refl _ _⟩
    case round =>
      clear hx0
      obtain ⟨k, cq, pq, bs, fq, rfl, hk, rfl, hbs, HBS, hbsl, hbel⟩ := hrel
      have d1 := cell_below c1 hbel
      by_cases hlt : k < ats.length
      · have hkl : (k : Int) < (ats.length : Int) := by omega
        have hk0 : (0 : Int) ≤ (k : Int) := Int.natCast_nonneg _
        go_wp2
        obtain ⟨wo, ewo⟩ : ∃ wo : World, wo = wr := ⟨_, rfl⟩
        subst ewo
        have hsto := hst0.below' hbel
        go_loop [12, 13] (fun u j => ∃ q : Nat, j = .int .i64 (q : Int) ∧ q ≤ st.length ∧ u = .bool (memB (used (st.take q)) (k : Int))) (fun _ j => st.length - (intOf j).toNat)
        case atStart => exact ⟨0, rfl, Nat.zero_le _, rfl⟩
        case round =>
          obtain ⟨q, rfl, hq, rfl⟩ := hrel
          by_cases hqs : q < st.length
          · have hqsi : (q : Int) < (st.length : Int) := by omega
            have hq0 : (0 : Int) ≤ (q : Int) := Int.natCast_nonneg _
            obtain ⟨gs, c, fi, rfl, ⟨rfl, fe, i1, i2⟩, _, hc, _, _, _⟩ := slR.at hsto q hqs
            have hc0 : wo.cell? ⟨gs, q * 2, none⟩ = some (.int .i64 st[q].atom) := hc 0 _ rfl
            clear hc
            have HU := Lib.hid (used_take hqs (k : Int))
            cases hu : memB (used (st.take q)) (k : Int) with
            | true =>
              go_wp2
              go_round
              case rel => exact ⟨q + 1, by go_num, by omega, by rw [HU.out, hu]; rfl⟩
              case measure => simp [intOf]; omega
            | false =>
              go_wp2
              go_round
              case rel => exact ⟨q + 1, by go_num, by omega, by rw [HU.out, hu]; rfl⟩
              case measure => simp [intOf]; omega
          · have hqe : q = st.length := by omega
            have hqsi : ¬ (q : Int) < (st.length : Int) := by omega
            have HQ := Lib.hid (show memB (used (st.take q)) (k : Int) = memB (used st) (k : Int) by rw [hqe, List.take_length])
            rw [HQ.out]
            obtain ⟨u, hu⟩ : ∃ u, memB (used st) (k : Int) = u := ⟨_, rfl⟩
            rw [hu]
            clear hqe HQ
            go_wp2
            go_loopw [4, 14] (fun vx m wr => ∃ (j cq : Nat) (pq : Option Addr) (bs2 : List StepD) (fq : List Nat), m = .int .i64 (j : Int) ∧ j ≤ l.length ∧ vx = .slice pq bs2.length cq ∧ steps wr (.slice pq bs2.length cq) bs2 fq ∧ Hid (bs2 = srchM l ats n st k j bs) ∧ bs2.length ≤ ats.length ∧ Below wo.heap.size wo wr) (fun _ m _ => l.length - (intOf m).toNat)
            case atStart => exact ⟨0, cq, pq, bs, fq, rfl, Nat.zero_le _, rfl, hbs, Lib.hid rfl, hbsl, Below.refl _ _⟩
            case round =>
              clear hbs
              obtain ⟨j, cq2, pq2, bs2, fq2, rfl, hj, rfl, hbs2, HBS2, hbsl2, hbel2⟩ := hrel
              have hbelw := bt hbel hbel2
              by_cases hjl : j < l.length
              · have hjli : (j : Int) < (l.length : Int) := by omega
                have hj0 : (0 : Int) ≤ (j : Int) := Int.natCast_nonneg _
                cases u with
                | true =>
                  have HE := Lib.hid (show bs2 = srchI l ats n st (k + 1) best by rw [srchI_succ, srchM_used hu, ← HBS.out, HBS2.out, srchM_used hu])
                  go_wp2
                  go_roundw
                  case rel => exact ⟨k + 1, cq2, pq2, bs2, fq2, by go_num, by omega, rfl, hbs2, HE, hbsl2, hbelw⟩
                  case measure => simp [intOf]; omega
                | false =>
                  obtain ⟨gm, vi, fi2, rfl, m0, m1, m2, m3, m4, hvi⟩ := (hl0.below' hbelw).get j hjl
                  obtain ⟨pi, ci, rfl⟩ := slR.form hvi
                  obtain ⟨ga, ccc, ft, hga, ⟨vt, rfl, ita, hvt⟩, _, hca, _, _, _⟩ := slR.at (ha0.below' hbelw) k hlt
                  subst hga
                  obtain ⟨pv, cv, rfl⟩ := slR.form hvt
                  have a0 : wr.cell? ⟨ga, k * 2, none⟩ = some (.int .i64 ats[k].rel) := hca 0 _ rfl
                  have a1 : wr.cell? ⟨ga, k * 2 + 1, none⟩ = some (.slice pv ats[k].terms.length cv) := hca 1 _ rfl
                  have A0 := a0
                  have A1 := a1
                  clear hca
                  have e0 := cell_below c0 hbelw
                  have e1 := cell_below c1 hbelw
                  have hbor := hbo0.below' hbelw
                  have hiL : ∀ x : Lat wr, ints x.wd (.slice pi l[j].inputs.length ci) l[j].inputs fi2 := fun x => hvi.below' x.ok
                  have htL : ∀ x : Lat wr, ints x.wd (.slice pv ats[k].terms.length cv) ats[k].terms ft := fun x => hvt.below' x.ok
                  have hbL : ∀ x : Lat wr, ints x.wd (.slice pb bo.length cb) bo fb := fun x => hbor.below' x.ok
                  have LA0 : ∀ x : Lat wr, x.wd.cell? ⟨ga, k * 2, none⟩ = some (.int .i64 ats[k].rel) := fun x => x.cell a0
                  have LA1 : ∀ x : Lat wr, x.wd.cell? ⟨ga, k * 2 + 1, none⟩ = some (.slice pv ats[k].terms.length cv) := fun x => x.cell a1
                  have LE1 : ∀ x : Lat wr, x.wd.cell? ⟨w.heap.size, 1, none⟩ = some (.slice (some ⟨ga, 0, none⟩) ats.length ca) := fun x => x.cell e1
                  have LM0 : ∀ x : Lat wr, x.wd.cell? ⟨gm, j * 5, none⟩ = some (.int .i64 l[j].rel) := fun x => x.cell m0
                  have LM1 : ∀ x : Lat wr, x.wd.cell? ⟨gm, j * 5 + 1, none⟩ = some (.slice pi l[j].inputs.length ci) := fun x => x.cell m1
                  have LM2 : ∀ x : Lat wr, x.wd.cell? ⟨gm, j * 5 + 2, none⟩ = some (.int .i64 l[j].limit) := fun x => x.cell m2
                  have LM3 : ∀ x : Lat wr, x.wd.cell? ⟨gm, j * 5 + 3, none⟩ = some (.int .i64 l[j].cost) := fun x => x.cell m3
                  have LM4 : ∀ x : Lat wr, x.wd.cell? ⟨gm, j * 5 + 4, none⟩ = some (.int .i64 l[j].quota) := fun x => x.cell m4
                  have HC := Lib.hid (canAt_of hlt hjl hu HSV.out)
                  clear m0 m1 m2 m3 m4
                  cases h1 : canCallB l[j] ats[k] bo with
                  | false =>
                    have HM := Lib.hid (show bs2 = srchM l ats n st k (j + 1) bs by rw [HBS2.out]; exact (srchM_no (by rw [HC.out, h1])).symm)
                    go_wp2_with fail
                    refine wp_region_lat wr (by kernel_rfl) (by kernel_rfl) ?_
                    repeat (go_big_quiet_step ((first | (go_at_call 37; exact Lat.of (retBB (specCanCall_any l[j] ats[k] _ _ fi2 ft _ bo fb _ (hiL _) (htL _) (hbL _)) h1)))))
                    refine wpQuiet_nil ?_
                    intro _ hw'
                    obtain ⟨x1, hw''⟩ := hw'
                    subst hw''
                    have hbf := bt hbel2 x1.ok
                    have hbs3 := hbs2.below' x1.ok
                    generalize x1.wd = wz at hbf hbs3 ⊢
                    clear hiL htL hbL LA0 LA1 LE1 LM0 LM1 LM2 LM3 LM4
                    go_wp2
                    go_roundw
                    case rel => exact ⟨j + 1, cq2, pq2, bs2, fq2, by go_num, by omega, rfl, hbs3, HM, hbsl2, hbf⟩
                    case measure => simp [intOf]; omega
                  | true =>
                    have HM := Lib.hid (show srch l ats n (st ++ [⟨(k : Int), (j : Int)⟩]) bs2 = srchM l ats n st k (j + 1) bs by rw [srchM_yes (by rw [HC.out, h1]), HBS2.out])
                    have HV := Lib.hid (show SameVars (bindL bo ats[k].terms) (bnd ats (st ++ [⟨(k : Int), (j : Int)⟩])) by rw [bnd_snoc, atomAt_nat hlt]; exact HSV.out.bind _)
                    have htl : ats[k].terms.length ≤ 3 := hterms.out _ (List.getElem_mem hlt)
                    have hIk : I64 (k : Int) := ⟨by omega, by omega⟩
                    have hIj : I64 (j : Int) := ⟨by omega, by omega⟩
                    go_wp2_with fail
                    refine wp_region_lat wr (by kernel_rfl) (by kernel_rfl) ?_
                    repeat (go_big_quiet_step ((first | (go_at_call 37; exact Lat.of (retBB (specCanCall_any l[j] ats[k] _ _ fi2 ft _ bo fb _ (hiL _) (htL _) (hbL _)) h1)))))
                    refine wpQuiet_nil ?_
                    intro _ hw'
                    obtain ⟨x1, hw''⟩ := hw'
                    subst hw''
                    have hbz := x1.ok
                    have hbf := bt hbelw x1.ok
                    have hbf2 := bt hbel2 x1.ok
                    have hstz := hst0.below' hbf
                    generalize x1.wd = wz at hbz hbf hbf2 hstz ⊢
                    clear hiL htL hbL LA0 LA1 LE1 LM0 LM1 LM2 LM3 LM4
                    go_wp2_with (first
                      | (at_builtin; refine wpList_copy_steps rfl _ _ rfl _ (by first | rfl | simp only [World.alloc, Array.size_push]) rfl _ st _ rfl hstz (by omega) ?_; intro v5 w5 f5 hg5 hb5)
                      | (at_builtin; refine wpList_gr2 slStepS good_step rfl _ _ rfl hg5 hb5 rfl #[.int .i64 (k : Int), .int .i64 (j : Int)] ⟨(k : Int), (j : Int)⟩ [] ⟨rfl, rfl, hIk, hIj⟩ rfl (Fresh.nil _) (by simp) _ rfl rfl (by simp [Value.oneCell']) (by omega) (by unfold maxLen; omega) ?_; intro g6 cap6 w6 f6 hg6 hb6 hgr6 Hat6 Hsub6))
                    have hb16 := bt hbf hb6
                    have hbo6 := bt hbf2 hb6
                    have hbz6 := bt hbz hb6
                    have y0 := cell_below c0 hb16
                    have y1 := cell_below c1 hb16
                    have z0 := cell_below A0 hbz6
                    have z1 := cell_below A1 hbz6
                    have hbs6 := hbs2.below' hbz6
                    have hvt6 := hvt.below' hbz6
                    have hlen6 : (st ++ [(⟨(k : Int), (j : Int)⟩ : StepD)]).length + n = ats.length := by have := HN.out; simp; omega
                    have hbl6 := bindL_length ats[k].terms bo
                    have hbl7 : (bindL bo ats[k].terms).length ≤ 3 * (st ++ [(⟨(k : Int), (j : Int)⟩ : StepD)]).length := by simp; omega
                    have HL8 := srch_len l ats n (st ++ [⟨(k : Int), (j : Int)⟩]) bs2 (by omega) hbsl2
                    have hst6 : steps w6 (.slice (some ⟨g6, 0, none⟩) (st ++ [(⟨(k : Int), (j : Int)⟩ : StepD)]).length cap6) (st ++ [⟨(k : Int), (j : Int)⟩]) f6 := by rw [show (st ++ [(⟨(k : Int), (j : Int)⟩ : StepD)]).length = st.length + 1 by simp]; exact hg6.sl
                    generalize hX : st ++ [(⟨(k : Int), (j : Int)⟩ : StepD)] = sx at hlen6 hbl7 HL8 hst6 HM HV
                    have hsxl : sx.length = st.length + 1 := by rw [← hX]; simp
                    clear hX hg6 hgr6 Hat6 Hsub6
                    rw [hsxl] at hst6
                    generalize hBX : bindL bo ats[k].terms = bx at hbl6 hbl7 HV
                    have hB6 := fun (w' : World) (hb : Below w6.heap.size w6 w') => l6Bind_any (.slice pb bo.length cb) bo fb ats[k] (.slice pv ats[k].terms.length cv) ft w' (hbo0.below' (bt hb16 hb)) (hvt6.below' hb) (by omega) (by omega)
                    rw [hBX] at hB6
                    have hS6 := fun (w' : World) (vb' : Value) (fb' : List Nat) (hb' : ints w' vb' bx fb') (hb : Below w6.heap.size w6 w') => ih sx bs2 bx (.slice (some ⟨gm, 0, none⟩) l.length cl) (.slice ph head.length ch) (.slice (some ⟨ga, 0, none⟩) ats.length ca) (.slice (some ⟨g6, 0, none⟩) (st.length + 1) cap6) vb' (.slice pq2 bs2.length cq2) fl fh fa f6 fb' fq2 w' hlen6 (hl0.below' (bt hb16 hb)) (hh0.below' (bt hb16 hb)) (ha0.below' (bt hb16 hb)) (hst6.below' hb) hb' (hbs6.below' hb) HV hbl7 hbsl2
                    clear hBX
                    go_region_held3 (fun w' => w'.cell? ⟨w.heap.size, 0, none⟩ = some (.slice ph head.length ch) ∧ w'.cell? ⟨w.heap.size, 1, none⟩ = some (.slice (some ⟨ga, 0, none⟩) ats.length ca) ∧ w'.cell? ⟨ga, k * 2, none⟩ = some (.int .i64 ats[k].rel) ∧ w'.cell? ⟨ga, k * 2 + 1, none⟩ = some (.slice pv ats[k].terms.length cv)) (first | exact ⟨y0, y1, z0, z1⟩ | exact ⟨y70, y71, z70, z71⟩ | exact ⟨y80, y81, z80, z81⟩)
                      (first
                        | (go_at_call 38
                           refine (hB6 _ (by (repeat (first | exact Below.refl _ _ | refine ba ?_ | refine bdr ?_ | refine bdn ?_)); done)).mono ?_
                           rintro e w7 ⟨v7, f7, rfl, hu7, hfr7, hb7⟩
                           obtain ⟨p7, q7, rfl⟩ := slR.form hu7
                           have D7 : Below w6.heap.size w6 w7 := bt (by (repeat (first | exact Below.refl _ _ | refine ba ?_ | refine bdr ?_ | refine bdn ?_)); done) hb7
                           have y70 := cell_below y0 D7
                           have y71 := cell_below y1 D7
                           have z70 := cell_below z0 D7
                           have z71 := cell_below z1 D7)
                        | (go_at_call 24
                           refine (hS6 _ _ _ (hu7.below' (by (repeat (first | exact Below.refl _ _ | refine ba ?_ | refine bdr ?_ | refine bdn ?_)); done)) (by (repeat (first | exact D7 | exact Below.refl _ _ | refine ba ?_ | refine bdr ?_ | refine bdn ?_)); done)).mono ?_
                           rintro e w8 ⟨v8, f8, rfl, hs8, hb8⟩
                           obtain ⟨p8, q8, rfl⟩ := slR.form hs8
                           have D8 : Below w6.heap.size w6 w8 := bt (by (repeat (first | exact D7 | exact Below.refl _ _ | refine ba ?_ | refine bdr ?_ | refine bdn ?_)); done) hb8
                           have y80 := cell_below y0 D8
                           have y81 := cell_below y1 D8
                           have z80 := cell_below z0 D8
                           have z81 := cell_below z1 D8))
                    all_goals (try go_wp2_with fail)
                    all_goals go_roundw
                    all_goals (first
                      | (case rel => exact ⟨j + 1, q8, p8, srch l ats n sx bs2, f8, by go_num, by omega, rfl, hs8, HM, HL8, bt hbo6 D8⟩)
                      | (case measure => simp [intOf]; omega))
              · have hjli : ¬ (j : Int) < (l.length : Int) := by omega
                have hje : j = l.length := by omega
                have HE := Lib.hid (show bs2 = srchI l ats n st (k + 1) best by rw [srchI_succ, ← HBS.out, HBS2.out, hje])
                clear hje
                go_wp2
                go_roundw
                case rel => exact ⟨k + 1, cq2, pq2, bs2, fq2, by go_num, by omega, rfl, hbs2, HE, hbsl2, hbelw⟩
                case measure => simp [intOf]; omega
      · have hke : k = ats.length := by omega
        have hkl : ¬ (k : Int) < (ats.length : Int) := by omega
        have HF := Lib.hid (show bs = srch l ats (n + 1) st best by rw [srch_succ, ← hke]; exact HBS.out)
        have hbw := bt hb0 hbel
        clear hke
        go_wp2
        go_ret
        exact SrcE.mk _ fq rfl (by rw [← HF.out]; exact hbs) hbw
end Go.Proofs.YtpdmdfkcaabnaaaGreat
