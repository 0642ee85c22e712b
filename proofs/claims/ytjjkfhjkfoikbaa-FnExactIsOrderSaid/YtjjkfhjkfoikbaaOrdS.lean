/- IsOrder of the reference. Condition: not more than 2^20 terms. -/
import Derived.Test.YtjjkfhjkfoikbaaAsked
import Derived.Test.YtjjkfhjkfoikbaaCompare
import Derived.Deep.RegionHeld3
import Derived.IntWalk
namespace Go.Proofs.Ytjjkfhjkfoikbaa
open Go.RowKit
set_option linter.unusedVariables false
set_option linter.unusedSimpArgs false
set_option maxRecDepth 100000 in
set_option maxHeartbeats 6400000 in
theorem specIsOrder_any (vs : Value) (s : List Int) (fs : List Nat) (vl : Value) (l : List MethD) (fl : List Nat) (q : QueryD) (vh : Value) (fh : List Nat) (va : Value) (fa : List Nat) (vst : Value) (st : List StepD) (fst : List Nat) (w : World) (hs : ints w vs s fs) (hl : meths w vl l fl) (hh : ints w vh q.head fh) (ha : atoms w va q.atoms fa) (hst : steps w vst st fst) (hn : (termsL q.atoms).length ≤ 1048576) :
    Calls Try.prog 67 #[vs, vl, .agg #[vh, va], vst] w fun e w' => e = .returned (.bool (orderB s l q st)) ∧ Below w.heap.size w w' := by
  obtain ⟨head, ats⟩ := q
  obtain ⟨ps, cs, rfl⟩ := slR.form hs
  obtain ⟨pl, cl, rfl⟩ := slR.form hl
  obtain ⟨ph, ch, rfl⟩ := slR.form hh
  obtain ⟨pa, ca, rfl⟩ := slR.form ha
  obtain ⟨pt, ct, rfl⟩ := slR.form hst
  have hlst := slR.le_max hst
  have hb0 : Below w.heap.size w (w.alloc (.cells #[.slice ph head.length ch, .slice pa ats.length ca] 66)) := ba (Below.refl _ _)
  have c0 : (w.alloc (.cells #[.slice ph head.length ch, .slice pa ats.length ca] 66)).cell? ⟨w.heap.size, 0, none⟩ = some (.slice ph head.length ch) := cell_new w _ _ 0 _ rfl
  have c1 : (w.alloc (.cells #[.slice ph head.length ch, .slice pa ats.length ca] 66)).cell? ⟨w.heap.size, 1, none⟩ = some (.slice pa ats.length ca) := cell_new w _ _ 1 _ rfl
  have hs0 := hs.below' hb0
  have hl0 := hl.below' hb0
  have hh0 := hh.below' hb0
  have ha0 := ha.below' hb0
  have hst0 := hst.below' hb0
  obtain ⟨w1, hw1⟩ : ∃ w1, w1 = (w.alloc (.cells #[.slice ph head.length ch, .slice pa ats.length ca] 66)) := ⟨_, rfl⟩
  rw [← hw1] at hb0 c0 c1 hs0 hl0 hh0 ha0 hst0
  have HW1 := Lib.hid hw1
  have hal := slR.le_max ha
  have hll := slR.le_max hl
  have HA := Lib.hid (fun b (hA : askedB s l ⟨head, ats⟩ = b) => retBB (l6Fine_any _ s fs _ l fl ⟨head, ats⟩ _ fh _ fa w1 hs0 hl0 hh0 ha0 hn) hA)
  clear hw1 hn
  cases hA : askedB s l ⟨head, ats⟩ with
  | false =>
    have Hf := Lib.hid (orderB_no1 (st := st) hA)
    have HB := Lib.hid (HA.out _ hA)
    clear hA HA
    go_enter Try.func67, Try.ntmps67
    go_wp2_with (go_at_call 110; rw [← HW1.out]; refine HB.out.mono ?_; rintro e w2 ⟨rfl, hb2⟩)
    go_ret
    exact ⟨ret_bool (by rw [Hf.out]), bt hb0 hb2⟩
  | true =>
    have HB := Lib.hid (HA.out _ hA)
    obtain ⟨hn1, hn4, hl5, hterms⟩ := asked_atoms hA
    have Hterms := Lib.hid hterms
    have hn1' : 1 ≤ ats.length := hn1
    have hn4' : ats.length ≤ 4 := hn4
    by_cases hlen : st.length = ats.length
    · have HE := Lib.hid (fun k hk h => orderB_end (st := st) (k := k) hA hlen hk h)
      have HBad := Lib.hid (fun k (hk : k < st.length) h => orderB_bad (s := s) (l := l) (q := ⟨head, ats⟩) hk h)
      have hne : ((st.length : Int) != (ats.length : Int)) = false := by simp [hlen]
      have hne2 : (st.length : Int) ≤ (ats.length : Int) := by omega
      have hst4 : st.length ≤ 4 := by omega
      generalize hR : orderB s l ⟨head, ats⟩ st = R at HE HBad ⊢
      have hwa : IntKind.i64.wrap ((ats.length : Int) - 1) = (ats.length : Int) - 1 := IntWalk.i64_in _ (by omega)
      have hwl : IntKind.i64.wrap ((l.length : Int) - 1) = (l.length : Int) - 1 := IntWalk.i64_in _ (by omega)
      have hlen3 : (st.length : Int) = (ats.length : Int) := by omega
      have Hlen := Lib.hid hlen
      have Hwa := Lib.hid hwa
      have Hwl := Lib.hid hwl
      clear hA HA hterms hn1 hn4 hlen hR hwa hwl hlen3
      go_enter Try.func67, Try.ntmps67
      go_wp2_with (go_at_call 110; rw [← HW1.out]; refine HB.out.mono ?_; rintro e w2 ⟨rfl, hb2⟩; have e0 := cell_below c0 hb2; have e1 := cell_below c1 hb2; have e0a := fun o => cell_al e0 o; have e1a := fun o => cell_al e1 o)
      have hsz3 : (w2.alloc (.cells #[] 3)).heap.size = w2.heap.size + 1 := by simp only [World.alloc, Array.size_push]
      have hg9 := (grR.lit (w := w2) (B := w1.heap.size) (E := 3) (sz := 1) intR hb2.size (Nat.le_refl _)).sl
      have hg10 := grR.lit (w := w2.alloc (.cells #[] 3)) (B := w1.heap.size) (E := 3) (sz := 1) intR (by rw [hsz3]; have := hb2.size; omega) (Nat.le_refl _)
      rw [hsz3] at hg10
      have hb3 : Below w1.heap.size w1 ((w2.alloc (.cells #[] 3)).alloc (.cells #[] 3)) := ba (ba hb2)
      have hg9' : ints ((w2.alloc (.cells #[] 3)).alloc (.cells #[] 3)) (.slice (some ⟨w2.heap.size, 0, none⟩) 0 0) [] [w2.heap.size] := ints.al hg9 _
      clear hsz3 hg9 e0a e1a
      go_loopw [9, 10, 11] (fun b u i wr => ∃ (k cb gu cu : Nat) (pb : Option Addr) (bo uo : List Int) (fb fu : List Nat), i = .int .i64 k ∧ k ≤ st.length ∧ b = .slice pb bo.length cb ∧ ints wr (.slice pb bo.length cb) bo fb ∧ Hid (SameVars bo (boundAt ats st k)) ∧ bo.length ≤ 3 * k ∧ u = .slice (some ⟨gu, 0, none⟩) uo.length cu ∧ grR 3 1 intR w1.heap.size wr (.slice (some ⟨gu, 0, none⟩) uo.length cu) uo fu ∧ Hid (uo = usedAt st k) ∧ Hid (∀ j, j < k → ordBad l ats st j = false) ∧ Hid (gu ∉ fb) ∧ Below w1.heap.size w1 wr) (fun _ _ i _ => st.length - (intOf i).toNat)
      case atStart => exact ⟨0, _, _, _, _, [], [], _, _, rfl, Nat.zero_le _, rfl, hg9', Lib.hid (SameVars.refl _), by simp, rfl, hg10, Lib.hid rfl, Lib.hid (fun j h0 => by omega), Lib.hid (by simp), hb3⟩
      case round =>
        obtain ⟨k, cb, gu, cu, pb, bo, uo, fb, fu, rfl, hk, rfl, hbo, HSV, hbl, rfl, hgu, Huo, HN, Hdj, hbel⟩ := hrel
        have hbw := bt hb0 hbel
        have hul : uo.length ≤ k := by rw [Huo.out]; exact usedAt_length _ _
        have d0 := cell_below c0 hbel
        have d1 := cell_below c1 hbel
        by_cases hlt : k < st.length
        · obtain ⟨gs, cc, fi, hgs, ⟨hcc, _, ia, im⟩, _, hc, _, _, _⟩ := slR.at hst0 k hlt
          subst hgs
          generalize hsk : st[k] = x at hcc ia im
          obtain ⟨a, m⟩ := x
          have s0 : w1.cell? ⟨gs, k * 2, none⟩ = some (.int .i64 a) := hc 0 _ (by rw [hcc]; rfl)
          have s1 : w1.cell? ⟨gs, k * 2 + 1, none⟩ = some (.int .i64 m) := hc 1 _ (by rw [hcc]; rfl)
          have Hsk := Lib.hid hsk
          have hkl : (k : Int) < (st.length : Int) := by omega
          have hk0 : (0 : Int) ≤ (k : Int) := Int.natCast_nonneg _
          clear hc hcc hsk
          have t0 := cell_below s0 hbel
          have t1 := cell_below s1 hbel
          have huL : ∀ x : Lat wr, ints x.wd (.slice (some ⟨gu, 0, none⟩) uo.length cu) uo fu := fun x => ints.below' hgu.sl x.ok
          have hbL : ∀ x : Lat wr, ints x.wd (.slice pb bo.length cb) bo fb := fun x => hbo.below' x.ok
          have hwa := Hwa.out
          have hwl := Hwl.out
          cases h1 : inR a 0 ((ats.length : Int) - 1) with
          | false =>
            have Hg := Lib.hid (HBad.out k hlt (ordBad_1 (l := l) hlt (by rw [Hsk.out]; exact h1)))
            go_wp2_with fail
            have L0 : ∀ x : Lat wr, x.wd.cell? ⟨gs, k * 2, none⟩ = some (.int .i64 a) := fun x => x.cell t0
            have L1 : ∀ x : Lat wr, x.wd.cell? ⟨gs, k * 2 + 1, none⟩ = some (.int .i64 m) := fun x => x.cell t1
            have L2 : ∀ x : Lat wr, x.wd.cell? ⟨w.heap.size, 0, none⟩ = some (.slice ph head.length ch) := fun x => x.cell d0
            have L3 : ∀ x : Lat wr, x.wd.cell? ⟨w.heap.size, 1, none⟩ = some (.slice pa ats.length ca) := fun x => x.cell d1
            refine wp_region_lat wr (by kernel_rfl) (by kernel_rfl) ?_
            repeat (go_big_quiet_step ((first | (go_at_call 111; first | exact Lat.eq (retB (f111_any _ _ _ _) h1) | exact Lat.eq (retB (f111_any _ _ _ _) h3)))))
            refine wpQuiet_nil ?_
            intro _ hw'
            obtain ⟨x1, hw''⟩ := hw'
            subst hw''
            clear L0 L1 L2 L3
            have hbf := bt hbw x1.ok
            go_wp2
            go_ret
            exact ⟨ret_bool (by rw [Hg.out]), hbf⟩
          | true =>
            obtain ⟨aq, rfl, haq⟩ := in_nat h1
            cases h2 : memB uo (aq : Int) with
            | true =>
              have Hg := Lib.hid (HBad.out k hlt (ordBad_2 (l := l) (ats := ats) hlt (by rw [Hsk.out, ← Huo.out]; exact h2)))
              go_wp2_with fail
              have L0 : ∀ x : Lat wr, x.wd.cell? ⟨gs, k * 2, none⟩ = some (.int .i64 (aq : Int)) := fun x => x.cell t0
              have L1 : ∀ x : Lat wr, x.wd.cell? ⟨gs, k * 2 + 1, none⟩ = some (.int .i64 m) := fun x => x.cell t1
              have L2 : ∀ x : Lat wr, x.wd.cell? ⟨w.heap.size, 0, none⟩ = some (.slice ph head.length ch) := fun x => x.cell d0
              have L3 : ∀ x : Lat wr, x.wd.cell? ⟨w.heap.size, 1, none⟩ = some (.slice pa ats.length ca) := fun x => x.cell d1
              refine wp_region_lat wr (by kernel_rfl) (by kernel_rfl) ?_
              repeat (go_big_quiet_step ((first | (go_at_call 111; first | exact Lat.eq (retB (f111_any _ _ _ _) h1) | exact Lat.eq (retB (f111_any _ _ _ _) h3)) | (go_at_call 112; exact Lat.eq (retB (l2Has_any _ uo fu _ _ (huL _)) h2)))))
              refine wpQuiet_nil ?_
              intro _ hw'
              obtain ⟨x1, hw''⟩ := hw'
              subst hw''
              clear L0 L1 L2 L3
              have hbf := bt hbw x1.ok
              go_wp2
              go_ret
              exact ⟨ret_bool (by rw [Hg.out]), hbf⟩
            | false =>
              cases h3 : inR m 0 ((l.length : Int) - 1) with
              | false =>
                have Hg := Lib.hid (HBad.out k hlt (ordBad_3 (ats := ats) hlt (by rw [Hsk.out]; exact h3)))
                go_wp2_with fail
                have L0 : ∀ x : Lat wr, x.wd.cell? ⟨gs, k * 2, none⟩ = some (.int .i64 (aq : Int)) := fun x => x.cell t0
                have L1 : ∀ x : Lat wr, x.wd.cell? ⟨gs, k * 2 + 1, none⟩ = some (.int .i64 m) := fun x => x.cell t1
                have L2 : ∀ x : Lat wr, x.wd.cell? ⟨w.heap.size, 0, none⟩ = some (.slice ph head.length ch) := fun x => x.cell d0
                have L3 : ∀ x : Lat wr, x.wd.cell? ⟨w.heap.size, 1, none⟩ = some (.slice pa ats.length ca) := fun x => x.cell d1
                refine wp_region_lat wr (by kernel_rfl) (by kernel_rfl) ?_
                repeat (go_big_quiet_step ((first | (go_at_call 111; first | exact Lat.eq (retB (f111_any _ _ _ _) h1) | exact Lat.eq (retB (f111_any _ _ _ _) h3)) | (go_at_call 112; exact Lat.eq (retB (l2Has_any _ uo fu _ _ (huL _)) h2)))))
                refine wpQuiet_nil ?_
                intro _ hw'
                obtain ⟨x1, hw''⟩ := hw'
                subst hw''
                clear L0 L1 L2 L3
                have hbf := bt hbw x1.ok
                go_wp2
                go_ret
                exact ⟨ret_bool (by rw [Hg.out]), hbf⟩
              | true =>
                obtain ⟨mq, rfl, hmq⟩ := in_nat h3
                have H4 := Lib.hid (ordBad_4 (l := l) (ats := ats) hlt (show st[k].atom = (aq : Int) by rw [Hsk.out]) (show st[k].meth = (mq : Int) by rw [Hsk.out]) haq hmq h1 (by rw [← Huo.out]; exact h2) h3)
                obtain ⟨gm, vi, fi2, rfl, m0, m1, m2, m3, m4, hvi⟩ := hl0.get mq hmq
                obtain ⟨pi, ci, rfl⟩ := slR.form hvi
                obtain ⟨ga, ccc, ft, hga, ⟨vt, rfl, ita, hvt⟩, _, hca, _, _, _⟩ := slR.at ha0 aq haq
                subst hga
                obtain ⟨pv, cv, rfl⟩ := slR.form hvt
                have a0 : w1.cell? ⟨ga, aq * 2, none⟩ = some (.int .i64 ats[aq].rel) := hca 0 _ rfl
                have a1 : w1.cell? ⟨ga, aq * 2 + 1, none⟩ = some (.slice pv ats[aq].terms.length cv) := hca 1 _ rfl
                have hiL : ∀ x : Lat wr, ints x.wd (.slice pi l[mq].inputs.length ci) l[mq].inputs fi2 := fun x => (hvi.below' hbel).below' x.ok
                have htL : ∀ x : Lat wr, ints x.wd (.slice pv ats[aq].terms.length cv) ats[aq].terms ft := fun x => (hvt.below' hbel).below' x.ok
                have ha00 : (0 : Int) ≤ (aq : Int) := Int.natCast_nonneg _
                have ha01 : (aq : Int) < (ats.length : Int) := by omega
                have hm00 : (0 : Int) ≤ (mq : Int) := Int.natCast_nonneg _
                have hm01 : (mq : Int) < (l.length : Int) := by omega
                have htl : ats[aq].terms.length ≤ 3 := Hterms.out _ (List.getElem_mem haq)
                clear hca
                cases h4 : canCallB l[mq] ats[aq] bo with
                | false =>
                  have Hg := Lib.hid (HBad.out k hlt (by rw [H4.out, ← canCallB_same HSV.out, h4]; rfl))
                  go_wp2_with fail
                  have L0 : ∀ x : Lat wr, x.wd.cell? ⟨gs, k * 2, none⟩ = some (.int .i64 (aq : Int)) := fun x => x.cell t0
                  have L1 : ∀ x : Lat wr, x.wd.cell? ⟨gs, k * 2 + 1, none⟩ = some (.int .i64 (mq : Int)) := fun x => x.cell t1
                  have L2 : ∀ x : Lat wr, x.wd.cell? ⟨w.heap.size, 0, none⟩ = some (.slice ph head.length ch) := fun x => x.cell d0
                  have L3 : ∀ x : Lat wr, x.wd.cell? ⟨w.heap.size, 1, none⟩ = some (.slice (some ⟨ga, 0, none⟩) ats.length ca) := fun x => x.cell d1
                  have L4 : ∀ x : Lat wr, x.wd.cell? ⟨gm, mq * 5, none⟩ = some (.int .i64 l[mq].rel) := fun x => x.cell (cell_below m0 hbel)
                  have L5 : ∀ x : Lat wr, x.wd.cell? ⟨gm, mq * 5 + 1, none⟩ = some (.slice pi l[mq].inputs.length ci) := fun x => x.cell (cell_below m1 hbel)
                  have L6 : ∀ x : Lat wr, x.wd.cell? ⟨gm, mq * 5 + 2, none⟩ = some (.int .i64 l[mq].limit) := fun x => x.cell (cell_below m2 hbel)
                  have L7 : ∀ x : Lat wr, x.wd.cell? ⟨gm, mq * 5 + 3, none⟩ = some (.int .i64 l[mq].cost) := fun x => x.cell (cell_below m3 hbel)
                  have L8 : ∀ x : Lat wr, x.wd.cell? ⟨gm, mq * 5 + 4, none⟩ = some (.int .i64 l[mq].quota) := fun x => x.cell (cell_below m4 hbel)
                  have L9 : ∀ x : Lat wr, x.wd.cell? ⟨ga, aq * 2, none⟩ = some (.int .i64 ats[aq].rel) := fun x => x.cell (cell_below a0 hbel)
                  have L10 : ∀ x : Lat wr, x.wd.cell? ⟨ga, aq * 2 + 1, none⟩ = some (.slice pv ats[aq].terms.length cv) := fun x => x.cell (cell_below a1 hbel)
                  refine wp_region_lat wr (by kernel_rfl) (by kernel_rfl) ?_
                  repeat (go_big_quiet_step ((first | (go_at_call 111; first | exact Lat.eq (retB (f111_any _ _ _ _) h1) | exact Lat.eq (retB (f111_any _ _ _ _) h3)) | (go_at_call 112; exact Lat.eq (retB (l2Has_any _ uo fu _ _ (huL _)) h2)) | (go_at_call 113; exact Lat.of (retBB (specCanCall_any l[mq] ats[aq] _ _ fi2 ft _ bo fb _ (hiL _) (htL _) (hbL _)) h4)))))
                  refine wpQuiet_nil ?_
                  intro _ hw'
                  obtain ⟨x1, hw''⟩ := hw'
                  subst hw''
                  clear L0 L1 L2 L3 L4 L5 L6 L7 L8 L9 L10
                  have hbf := bt hbw x1.ok
                  go_wp2
                  go_ret
                  exact ⟨ret_bool (by rw [Hg.out]), hbf⟩
                | true =>
                  have HN2 := Lib.hid (anyN_step HN.out (show ordBad l ats st k = false by rw [H4.out, ← canCallB_same HSV.out, h4]; rfl))
                  have HU2 := Lib.hid (show uo ++ [(aq : Int)] = usedAt st (k + 1) by rw [usedAt_succ hlt, Hsk.out, Huo.out])
                  have HS2 := Lib.hid (show SameVars (bindL bo ats[aq].terms) (boundAt ats st (k + 1)) by rw [boundAt_succ hlt, Hsk.out, atomAt_nat haq]; exact HSV.out.bind _)
                  go_wp2_with fail
                  have L0 : ∀ x : Lat wr, x.wd.cell? ⟨gs, k * 2, none⟩ = some (.int .i64 (aq : Int)) := fun x => x.cell t0
                  have L1 : ∀ x : Lat wr, x.wd.cell? ⟨gs, k * 2 + 1, none⟩ = some (.int .i64 (mq : Int)) := fun x => x.cell t1
                  have L2 : ∀ x : Lat wr, x.wd.cell? ⟨w.heap.size, 0, none⟩ = some (.slice ph head.length ch) := fun x => x.cell d0
                  have L3 : ∀ x : Lat wr, x.wd.cell? ⟨w.heap.size, 1, none⟩ = some (.slice (some ⟨ga, 0, none⟩) ats.length ca) := fun x => x.cell d1
                  have L4 : ∀ x : Lat wr, x.wd.cell? ⟨gm, mq * 5, none⟩ = some (.int .i64 l[mq].rel) := fun x => x.cell (cell_below m0 hbel)
                  have L5 : ∀ x : Lat wr, x.wd.cell? ⟨gm, mq * 5 + 1, none⟩ = some (.slice pi l[mq].inputs.length ci) := fun x => x.cell (cell_below m1 hbel)
                  have L6 : ∀ x : Lat wr, x.wd.cell? ⟨gm, mq * 5 + 2, none⟩ = some (.int .i64 l[mq].limit) := fun x => x.cell (cell_below m2 hbel)
                  have L7 : ∀ x : Lat wr, x.wd.cell? ⟨gm, mq * 5 + 3, none⟩ = some (.int .i64 l[mq].cost) := fun x => x.cell (cell_below m3 hbel)
                  have L8 : ∀ x : Lat wr, x.wd.cell? ⟨gm, mq * 5 + 4, none⟩ = some (.int .i64 l[mq].quota) := fun x => x.cell (cell_below m4 hbel)
                  have L9 : ∀ x : Lat wr, x.wd.cell? ⟨ga, aq * 2, none⟩ = some (.int .i64 ats[aq].rel) := fun x => x.cell (cell_below a0 hbel)
                  have L10 : ∀ x : Lat wr, x.wd.cell? ⟨ga, aq * 2 + 1, none⟩ = some (.slice pv ats[aq].terms.length cv) := fun x => x.cell (cell_below a1 hbel)
                  refine wp_region_lat wr (by kernel_rfl) (by kernel_rfl) ?_
                  repeat (go_big_quiet_step ((first | (go_at_call 111; first | exact Lat.eq (retB (f111_any _ _ _ _) h1) | exact Lat.eq (retB (f111_any _ _ _ _) h3)) | (go_at_call 112; exact Lat.eq (retB (l2Has_any _ uo fu _ _ (huL _)) h2)) | (go_at_call 113; exact Lat.of (retBB (specCanCall_any l[mq] ats[aq] _ _ fi2 ft _ bo fb _ (hiL _) (htL _) (hbL _)) h4)))))
                  refine wpQuiet_nil ?_
                  intro _ hw'
                  obtain ⟨x1, hw''⟩ := hw'
                  subst hw''
                  clear L0 L1 L2 L3 L4 L5 L6 L7 L8 L9 L10
                  have hgu1 := hgu.below' good_int x1.ok
                  have hbo1 := hbo.below' x1.ok
                  have hb1 := bt hbel x1.ok
                  obtain ⟨W1, hW1⟩ : ∃ W1, W1 = x1.wd := ⟨_, rfl⟩
                  rw [← hW1] at hgu1 hbo1 hb1 ⊢
                  clear hW1 x1 huL hbL hiL htL d0 d1 t0 t1 h1 h2 h3 h4
                  have d0 := cell_below c0 hb1
                  have d1 := cell_below c1 hb1
                  have t0 := cell_below s0 hb1
                  have t1 := cell_below s1 hb1
                  go_wp2_with (at_builtin; refine wpList_gr slInt good_int rfl _ _ rfl hgu1 hb1 rfl #[.int .i64 (aq : Int)] (aq : Int) [] ⟨rfl, rfl, ia⟩ rfl (Fresh.nil _) (by simp) rfl (by simp [Value.oneCell']) (by omega) (by unfold maxLen; omega) ?_; intro g3 cap3 w4 f3 hgr3 hb4 hg3)
                  have hbo4 : ints w4 (.slice pb bo.length cb) bo fb := hbo1.frame fun j hj => hg3.block j (hbo1.lt j hj) (fun e => Hdj.out (by simp [Value.ownBlock] at e; rw [← e]; exact hj))
                  have y1 := cell_below c1 hb4
                  have y2 := cell_below s0 hb4
                  have y3 := cell_below a0 hb4
                  have y4 := cell_below a1 hb4
                  go_region_held3 (fun w' => w'.cell? ⟨w.heap.size, 1, none⟩ = some (.slice (some ⟨ga, 0, none⟩) ats.length ca) ∧ w'.cell? ⟨gs, k * 2, none⟩ = some (.int .i64 (aq : Int)) ∧ w'.cell? ⟨ga, aq * 2, none⟩ = some (.int .i64 ats[aq].rel) ∧ w'.cell? ⟨ga, aq * 2 + 1, none⟩ = some (.slice pv ats[aq].terms.length cv)) (first | exact ⟨y1, y2, y3, y4⟩ | exact ⟨z1, z2, z3, z4⟩)
                    (first
                      | (go_at_call 114
                         refine (l6Bind_any _ bo fb ats[aq] _ ft _ (hbo4.below' ?_) (hvt.below' ?_) (by omega) (by omega)).mono ?_
                         · (repeat (first | exact Below.refl _ _ | refine bdr ?_))
                         · (repeat (first | exact hb4 | refine bdr ?_))
                         rintro e w5 ⟨v5, f5, rfl, hu5, hfr5, hb5⟩
                         have D45 : Below w4.heap.size w4 w5 := bt (by (repeat (first | exact Below.refl _ _ | refine bdr ?_))) hb5
                         have D5 := bt hb4 D45
                         obtain ⟨p5, q5, rfl⟩ := slR.form hu5
                         have z1 := cell_below c1 D5
                         have z2 := cell_below s0 D5
                         have z3 := cell_below a0 D5
                         have z4 := cell_below a1 D5))
                  have hgr5 := hgr3.below' good_int D45
                  have HDJ2 := Lib.hid (show g3 ∉ f5 from hfr5.notin (hgr3.lt good_int g3 (by obtain ⟨_, _, _, _, _, hfe, _⟩ := hgr3; rw [hfe]; simp [Value.ownBlock])))
                  have hl5' := bindL_length ats[aq].terms bo
                  go_wp2
                  go_roundw
                  case rel => exact ⟨k + 1, q5, g3, cap3, p5, bindL bo ats[aq].terms, uo ++ [(aq : Int)], f5, f3, by go_num, by omega, rfl, hu5, HS2, by omega, by simp, by simpa using hgr5, HU2, HN2, HDJ2, D5⟩
                  case measure => simp [intOf]; omega
        · have hkl : k = st.length := by omega
          have Hg := Lib.hid (HE.out k hkl HN.out)
          clear hkl
          go_wp2
          go_ret
          exact ⟨ret_bool (by rw [Hg.out]), hbw⟩
    · have Hf := Lib.hid (orderB_no2 (s := s) (l := l) (q := ⟨head, ats⟩) (st := st) hlen)
      have hne : ((st.length : Int) != (ats.length : Int)) = true := by simp; omega
      have hne2 : ¬ ((st.length : Int) = (ats.length : Int)) := by omega
      clear hA HA hterms hn1 hn4 hlen
      go_enter Try.func67, Try.ntmps67
      go_wp2_with (go_at_call 110; rw [← HW1.out]; refine HB.out.mono ?_; rintro e w2 ⟨rfl, hb2⟩; have e0 := cell_below c0 hb2; have e1 := cell_below c1 hb2)
      go_ret
      exact ⟨ret_bool (by rw [Hf.out]), bt hb0 hb2⟩
end Go.Proofs.Ytjjkfhjkfoikbaa
