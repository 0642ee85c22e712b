/- IsOrder of the program. Condition: not more than 2^20 terms. -/
import Derived.Test.YtjjkfhjkfoikbaaAsked
import Derived.Test.YtjjkfhjkfoikbaaCompare
import Derived.Deep.RegionHeld3
import Derived.IntWalk
namespace Go.Proofs.Ytjjkfhjkfoikbaa
open Go.RowKit
set_option linter.unusedVariables false
set_option linter.unusedSimpArgs false
theorem own_frame {w w' : World} {B : Nat} {E : TypeId} {sz : Nat} {v : Value} {n : Nat} {xs : List Value} (h : w.ownsRow B E sz v n xs) (hf : ∀ g, v.ownBlock = some g → w'.heap[g]? = w.heap[g]?) : w'.ownsRow B E sz v n xs := by
  refine ⟨h.1, ?_⟩
  rcases h.2 with h0 | ⟨g, cap, cur, rfl, hb, hh, r⟩
  · exact .inl h0
  · exact .inr ⟨g, cap, cur, rfl, hb, (hf g rfl).trans hh, r⟩
theorem own_below {w w' : World} {B : Nat} {E : TypeId} {sz : Nat} {v : Value} {n : Nat} {xs : List Value} (h : w.ownsRow B E sz v n xs) (hb : Below w.heap.size w w') : w'.ownsRow B E sz v n xs := own_frame h fun g hg => hb.block g (own_lt h g hg).2
theorem infoBool : (Try.prog.info? 4).map (fun i => (i.zero, i.size, i.bytes)) = some (some (.bool false), 1, 1) := by kernel_rfl
theorem slBool : SlT Try.prog 141 4 (.bool false) 1 1 := slT_of Try.underlying141 infoBool rfl (by decide)
/-- A row of tests. -/
def bcells (ds : List Bool) : List Value := ds.map Value.bool
theorem bcells_set (ds : List Bool) (i : Nat) (b : Bool) : (bcells ds).set i (.bool b) = bcells (ds.set i b) := by unfold bcells; rw [List.map_set]
theorem bcells_get {ds : List Bool} {i : Nat} {b : Bool} (h : ds[i]? = some b) : (bcells ds)[i]? = some (.bool b) := by unfold bcells; simp [h]
theorem made_bools (w : World) (n : Nat) (hn : n ≤ 1000) : Row (w.alloc (.cells (madeCells #[Value.bool false] n) 4)) 4 1 (.slice (some ⟨w.heap.size, 0, none⟩) n n) n (bcells (List.replicate n false)) (some w.heap.size) := by
  have h := Row.made (E := 4) (sz := 1) w (madeCells (Value.cells (.bool false)) (n * 1)) n (by unfold maxLen; omega) (by rw [size_madeCells])
  have e : (madeCells (Value.cells (.bool false)) (n * 1)).toList = bcells (List.replicate n false) := by
    have h2 := madeCells_rows (.bool false) 1 n rfl (by decide)
    have h3 : (Value.cells (.bool false)).toList = [Value.bool false] := rfl
    rw [h2, h3]
    unfold bcells
    simp [List.flatten_replicate_singleton]
  rw [e, Nat.mul_one] at h
  exact h
theorem memB_snoc (l : List Int) (x y : Int) : memB (l ++ [x]) y = (memB l y || decide (y = x)) := by
  rw [Bool.eq_iff_iff]; simp [memB_iff]
theorem mem_set_bool {ds : List Bool} {n aq : Nat} {u : List Int} (h : ∀ a, a < n → ds[a]? = some (memB u (a : Int))) (hq : aq < n) : ∀ a, a < n → (ds.set aq true)[a]? = some (memB (u ++ [(aq : Int)]) (a : Int)) := by
  intro a ha
  rw [memB_snoc, List.getElem?_set]
  by_cases e : aq = a
  · subst e
    have := h aq hq
    have hl : aq < ds.length := (List.getElem?_eq_some_iff.1 this).1
    simp [hl]
  · rw [if_neg e, h a ha]
    have : decide ((a : Int) = (aq : Int)) = false := decide_eq_false (by omega)
    rw [this, Bool.or_false]
set_option maxRecDepth 100000 in
set_option maxHeartbeats 6400000 in
theorem implIsOrder_any (vs : Value) (s : List Int) (fs : List Nat) (vl : Value) (l : List MethD) (fl : List Nat) (q : QueryD) (vh : Value) (fh : List Nat) (va : Value) (fa : List Nat) (vst : Value) (st : List StepD) (fst : List Nat) (w : World) (hs : ints w vs s fs) (hl : meths w vl l fl) (hh : ints w vh q.head fh) (ha : atoms w va q.atoms fa) (hst : steps w vst st fst) (hn : (termsL q.atoms).length ≤ 1048576) :
    Calls Try.prog 69 #[vs, vl, .agg #[vh, va], vst] w fun e w' => e = .returned (.bool (orderB s l q st)) ∧ Below w.heap.size w w' := by
  obtain ⟨head, ats⟩ := q
  obtain ⟨ps, cs, rfl⟩ := slR.form hs
  obtain ⟨pl, cl, rfl⟩ := slR.form hl
  obtain ⟨ph, ch, rfl⟩ := slR.form hh
  obtain ⟨pa, ca, rfl⟩ := slR.form ha
  obtain ⟨pt, ct, rfl⟩ := slR.form hst
  have hlst := slR.le_max hst
  have hb0 : Below w.heap.size w (w.alloc (.cells #[.slice ph head.length ch, .slice pa ats.length ca] 66)) := ba (Below.refl _ _)
  have c0 : (w.alloc (.cells #[.slice ph head.length ch, .slice pa ats.length ca] 66)).cell? ⟨w.heap.size, 0, none⟩ = some (.slice ph head.length ch) := cell_new w _ _ 0 _ rfl
  have c1 : (w.alloc (.cells #[.slice ph head.length ch, .slice pa ats.length ca] 66)).cell? ⟨w.heap.size, 1, none⟩ = some (.slice pa ats.length ca) := cell_new w _ _ 1 _ rfl
  have hs0 := hs.below' hb0
  have hl0 := hl.below' hb0
  have hh0 := hh.below' hb0
  have ha0 := ha.below' hb0
  have hst0 := hst.below' hb0
  obtain ⟨w1, hw1⟩ : ∃ w1, w1 = (w.alloc (.cells #[.slice ph head.length ch, .slice pa ats.length ca] 66)) := ⟨_, rfl⟩
  rw [← hw1] at hb0 c0 c1 hs0 hl0 hh0 ha0 hst0
  have HW1 := Lib.hid hw1
  have hal := slR.le_max ha
  have hll := slR.le_max hl
  have HA := Lib.hid (fun b (hA : askedB s l ⟨head, ats⟩ = b) => retBB (areAsked_any _ s fs _ l fl ⟨head, ats⟩ _ fh _ fa w1 hs0 hl0 hh0 ha0 hn) hA)
  clear hw1 hn
  cases hA : askedB s l ⟨head, ats⟩ with
  | false =>
    have Hf := Lib.hid (orderB_no1 (st := st) hA)
    have HB := Lib.hid (HA.out _ hA)
    clear hA HA
    go_enter Try.func69, Try.ntmps69
    go_wp2_with (go_at_call 116; rw [← HW1.out]; refine HB.out.mono ?_; rintro e w2 ⟨rfl, hb2⟩)
    go_ret
    exact ⟨ret_bool (by rw [Hf.out]), bt hb0 hb2⟩
  | true =>
    have HB := Lib.hid (HA.out _ hA)
    obtain ⟨hn1, hn4, hl5, hterms⟩ := asked_atoms hA
    have Hterms := Lib.hid hterms
    have hn1' : 1 ≤ ats.length := hn1
    have hn4' : ats.length ≤ 4 := hn4
    by_cases hlen : st.length = ats.length
    · have HE := Lib.hid (fun k hk h => orderB_end (st := st) (k := k) hA hlen hk h)
      have HBad := Lib.hid (fun k (hk : k < st.length) h => orderB_bad (s := s) (l := l) (q := ⟨head, ats⟩) hk h)
      have hne : ((st.length : Int) != (ats.length : Int)) = false := by simp [hlen]
      have hne2 : (st.length : Int) ≤ (ats.length : Int) := by omega
      have hst4 : st.length ≤ 4 := by omega
      generalize hR : orderB s l ⟨head, ats⟩ st = R at HE HBad ⊢
      have hwa : IntKind.i64.wrap ((ats.length : Int) - 1) = (ats.length : Int) - 1 := IntWalk.i64_in _ (by omega)
      have hwl : IntKind.i64.wrap ((l.length : Int) - 1) = (l.length : Int) - 1 := IntWalk.i64_in _ (by omega)
      have Hlen := Lib.hid hlen
      have Hwa := Lib.hid hwa
      have Hwl := Lib.hid hwl
      have Hbt := Lib.hid (boundAt_length (l := ats) hterms st)
      have hmk := make_row slBool ats.length (by omega) (by omega)
      clear hA HA hterms hn1 hn4 hlen hR hwa hwl
      go_enter Try.func69, Try.ntmps69
      go_wp2_with (go_at_call 116; rw [← HW1.out]; refine HB.out.mono ?_; rintro e w2 ⟨rfl, hb2⟩; have e0 := cell_below c0 hb2; have e1 := cell_below c1 hb2; have e0a := fun o => cell_al e0 o; have e1a := fun o => cell_al e1 o)
      have hrow0 := made_bools w2 ats.length (by omega)
      have hsz3 : (w2.alloc (.cells (madeCells #[Value.bool false] ats.length) 4)).heap.size = w2.heap.size + 1 := by simp only [World.alloc, Array.size_push]
      have hown0 : ((w2.alloc (.cells (madeCells #[Value.bool false] ats.length) 4)).alloc (.cells #[] 3)).ownsRow w1.heap.size 3 1 (.slice (some ⟨(w2.alloc (.cells (madeCells #[Value.bool false] ats.length) 4)).heap.size, 0, none⟩) 0 0) 0 [] := World.ownsRow_lit _ _ _ (by rw [hsz3]; have := hb2.size; omega) (by simp) (by simp)
      rw [hsz3] at hown0
      have hb3 : Below w1.heap.size w1 ((w2.alloc (.cells (madeCells #[Value.bool false] ats.length) 4)).alloc (.cells #[] 3)) := ba (ba hb2)
      have hrow1 := hrow0.below' (ba (o := .cells #[] 3) (Below.refl _ _))
      have hsz2 := hb2.size
      clear hsz3 hrow0 e0a e1a hmk
      go_loopw [10, 12, 33] (fun b s12 i wr => ∃ (k cb : Nat) (pb : Option Addr) (bo : List Int) (ds : List Bool), i = .int .i64 k ∧ k ≤ st.length ∧ b = .slice pb bo.length cb ∧ wr.ownsRow w1.heap.size 3 1 (.slice pb bo.length cb) bo.length (icells bo) ∧ Hid (∀ x ∈ bo, I64 x) ∧ Hid (bo = boundAt ats st k) ∧ Hid (Row wr 4 1 (.slice (some ⟨w2.heap.size, 0, none⟩) ats.length ats.length) ats.length (bcells ds) (some w2.heap.size)) ∧ Hid (∀ a, a < ats.length → ds[a]? = some (memB (usedAt st k) (a : Int))) ∧ Hid ((Value.slice pb bo.length cb).ownBlock ≠ some w2.heap.size) ∧ Hid (∀ j, j < k → ordBad l ats st j = false) ∧ Below w1.heap.size w1 wr) (fun _ _ i _ => st.length - (intOf i).toNat)
      case atStart => exact ⟨0, _, _, [], List.replicate ats.length false, rfl, Nat.zero_le _, rfl, hown0, Lib.hid (by simp), Lib.hid rfl, Lib.hid hrow1, Lib.hid (fun a ha => by rw [List.getElem?_replicate, if_pos ha]; rfl), Lib.hid (by simp [Value.ownBlock]), Lib.hid (fun j h0 => by omega), hb3⟩
      case round =>
        obtain ⟨k, cb, pb, bo, ds, rfl, hk, rfl, hown, HI, Hbo, Hrow, HD, Hdj, HN, hbel⟩ := hrel
        have hbw := bt hb0 hbel
        have hbl : bo.length ≤ 3 * k := by rw [Hbo.out]; exact Hbt.out k
        by_cases hlt : k < st.length
        · obtain ⟨gs, cc, fi, hgs, ⟨hcc, _, ia, im⟩, _, hc, _, _, _⟩ := slR.at hst0 k hlt
          subst hgs
          generalize hsk : st[k] = x at hcc ia im
          obtain ⟨a, m⟩ := x
          have s0 : w1.cell? ⟨gs, k * 2, none⟩ = some (.int .i64 a) := hc 0 _ (by rw [hcc]; rfl)
          have s1 : w1.cell? ⟨gs, k * 2 + 1, none⟩ = some (.int .i64 m) := hc 1 _ (by rw [hcc]; rfl)
          have Hsk := Lib.hid hsk
          have hkl : (k : Int) < (st.length : Int) := by omega
          have hk0 : (0 : Int) ≤ (k : Int) := Int.natCast_nonneg _
          clear hc hcc hsk
          have t0 := cell_below s0 hbel
          have t1 := cell_below s1 hbel
          have hwa := Hwa.out
          have hwl := Hwl.out
          cases h1 : inR a 0 ((ats.length : Int) - 1) with
          | false =>
            have Hg := Lib.hid (HBad.out k hlt (ordBad_1 (l := l) hlt (by rw [Hsk.out]; exact h1)))
            go_wp2_with fail
            have L0 : ∀ x : Lat (wr.alloc (.cells #[.int .i64 a, .int .i64 m] 135)), x.wd.cell? ⟨wr.heap.size, 0, none⟩ = some (.int .i64 a) := fun x => x.cell (cell_new _ _ _ 0 _ rfl)
            have L1 : ∀ x : Lat (wr.alloc (.cells #[.int .i64 a, .int .i64 m] 135)), x.wd.cell? ⟨wr.heap.size, 1, none⟩ = some (.int .i64 m) := fun x => x.cell (cell_new _ _ _ 1 _ rfl)
            have L2 : ∀ x : Lat (wr.alloc (.cells #[.int .i64 a, .int .i64 m] 135)), x.wd.cell? ⟨w.heap.size, 0, none⟩ = some (.slice ph head.length ch) := fun x => x.cell (cell_al (cell_below c0 hbel) _)
            have L3 : ∀ x : Lat (wr.alloc (.cells #[.int .i64 a, .int .i64 m] 135)), x.wd.cell? ⟨w.heap.size, 1, none⟩ = some (.slice pa ats.length ca) := fun x => x.cell (cell_al (cell_below c1 hbel) _)
            refine wp_region_lat (wr.alloc (.cells #[.int .i64 a, .int .i64 m] 135)) (by kernel_rfl) (by kernel_rfl) ?_
            repeat (go_big_quiet_step ((first | (go_at_call 117; first | exact Lat.eq (retB (f117_any _ _ _ _) h1) | exact Lat.eq (retB (f117_any _ _ _ _) h3)))))
            refine wpQuiet_nil ?_
            intro _ hw'
            obtain ⟨x1, hw''⟩ := hw'
            subst hw''
            clear L0 L1 L2 L3
            have hbf := bt (ba hbw) x1.ok
            go_wp2
            go_ret
            exact ⟨ret_bool (by rw [Hg.out]), hbf⟩
          | true =>
            obtain ⟨aq, rfl, haq⟩ := in_nat h1
            have ha00 : (0 : Int) ≤ (aq : Int) := Int.natCast_nonneg _
            have ha01 : (aq : Int) < (ats.length : Int) := by omega
            obtain ⟨gd, hgd, hgd2, hdc, hdz⟩ := Hrow.out.at (by omega)
            cases hgd
            have hdq := hdc aq _ (bcells_get (HD.out aq haq))
            clear hdc hdz hgd2
            cases h2 : memB (usedAt st k) (aq : Int) with
            | true =>
              have Hg := Lib.hid (HBad.out k hlt (ordBad_2 (l := l) (ats := ats) hlt (by rw [Hsk.out]; exact h2)))
              rw [h2] at hdq
              go_wp2_with fail
              have L0 : ∀ x : Lat (wr.alloc (.cells #[.int .i64 (aq : Int), .int .i64 m] 135)), x.wd.cell? ⟨wr.heap.size, 0, none⟩ = some (.int .i64 (aq : Int)) := fun x => x.cell (cell_new _ _ _ 0 _ rfl)
              have L1 : ∀ x : Lat (wr.alloc (.cells #[.int .i64 (aq : Int), .int .i64 m] 135)), x.wd.cell? ⟨wr.heap.size, 1, none⟩ = some (.int .i64 m) := fun x => x.cell (cell_new _ _ _ 1 _ rfl)
              have L2 : ∀ x : Lat (wr.alloc (.cells #[.int .i64 (aq : Int), .int .i64 m] 135)), x.wd.cell? ⟨w.heap.size, 0, none⟩ = some (.slice ph head.length ch) := fun x => x.cell (cell_al (cell_below c0 hbel) _)
              have L3 : ∀ x : Lat (wr.alloc (.cells #[.int .i64 (aq : Int), .int .i64 m] 135)), x.wd.cell? ⟨w.heap.size, 1, none⟩ = some (.slice pa ats.length ca) := fun x => x.cell (cell_al (cell_below c1 hbel) _)
              have L4 : ∀ x : Lat (wr.alloc (.cells #[.int .i64 (aq : Int), .int .i64 m] 135)), x.wd.cell? ⟨w2.heap.size, aq, none⟩ = some (.bool true) := fun x => x.cell (cell_al hdq _)
              refine wp_region_lat (wr.alloc (.cells #[.int .i64 (aq : Int), .int .i64 m] 135)) (by kernel_rfl) (by kernel_rfl) ?_
              repeat (go_big_quiet_step ((first | (go_at_call 117; first | exact Lat.eq (retB (f117_any _ _ _ _) h1) | exact Lat.eq (retB (f117_any _ _ _ _) h3)))))
              refine wpQuiet_nil ?_
              intro _ hw'
              obtain ⟨x1, hw''⟩ := hw'
              subst hw''
              clear L0 L1 L2 L3 L4
              have hbf := bt (ba hbw) x1.ok
              go_wp2
              go_ret
              exact ⟨ret_bool (by rw [Hg.out]), hbf⟩
            | false =>
              rw [h2] at hdq
              cases h3 : inR m 0 ((l.length : Int) - 1) with
              | false =>
                have Hg := Lib.hid (HBad.out k hlt (ordBad_3 (ats := ats) hlt (by rw [Hsk.out]; exact h3)))
                go_wp2_with fail
                have L0 : ∀ x : Lat (wr.alloc (.cells #[.int .i64 (aq : Int), .int .i64 m] 135)), x.wd.cell? ⟨wr.heap.size, 0, none⟩ = some (.int .i64 (aq : Int)) := fun x => x.cell (cell_new _ _ _ 0 _ rfl)
                have L1 : ∀ x : Lat (wr.alloc (.cells #[.int .i64 (aq : Int), .int .i64 m] 135)), x.wd.cell? ⟨wr.heap.size, 1, none⟩ = some (.int .i64 m) := fun x => x.cell (cell_new _ _ _ 1 _ rfl)
                have L2 : ∀ x : Lat (wr.alloc (.cells #[.int .i64 (aq : Int), .int .i64 m] 135)), x.wd.cell? ⟨w.heap.size, 0, none⟩ = some (.slice ph head.length ch) := fun x => x.cell (cell_al (cell_below c0 hbel) _)
                have L3 : ∀ x : Lat (wr.alloc (.cells #[.int .i64 (aq : Int), .int .i64 m] 135)), x.wd.cell? ⟨w.heap.size, 1, none⟩ = some (.slice pa ats.length ca) := fun x => x.cell (cell_al (cell_below c1 hbel) _)
                have L4 : ∀ x : Lat (wr.alloc (.cells #[.int .i64 (aq : Int), .int .i64 m] 135)), x.wd.cell? ⟨w2.heap.size, aq, none⟩ = some (.bool false) := fun x => x.cell (cell_al hdq _)
                refine wp_region_lat (wr.alloc (.cells #[.int .i64 (aq : Int), .int .i64 m] 135)) (by kernel_rfl) (by kernel_rfl) ?_
                repeat (go_big_quiet_step ((first | (go_at_call 117; first | exact Lat.eq (retB (f117_any _ _ _ _) h1) | exact Lat.eq (retB (f117_any _ _ _ _) h3)))))
                refine wpQuiet_nil ?_
                intro _ hw'
                obtain ⟨x1, hw''⟩ := hw'
                subst hw''
                clear L0 L1 L2 L3 L4
                have hbf := bt (ba hbw) x1.ok
                go_wp2
                go_ret
                exact ⟨ret_bool (by rw [Hg.out]), hbf⟩
              | true =>
                obtain ⟨mq, rfl, hmq⟩ := in_nat h3
                have H4 := Lib.hid (ordBad_4 (l := l) (ats := ats) hlt (show st[k].atom = (aq : Int) by rw [Hsk.out]) (show st[k].meth = (mq : Int) by rw [Hsk.out]) haq hmq h1 h2 h3)
                obtain ⟨gm, vi, fi2, rfl, m0, m1, m2, m3, m4, hvi⟩ := hl0.get mq hmq
                obtain ⟨pi, ci, rfl⟩ := slR.form hvi
                obtain ⟨ga, ccc, ft, hga, ⟨vt, rfl, ita, hvt⟩, _, hca, _, _, _⟩ := slR.at ha0 aq haq
                subst hga
                obtain ⟨pv, cv, rfl⟩ := slR.form hvt
                have a0 : w1.cell? ⟨ga, aq * 2, none⟩ = some (.int .i64 ats[aq].rel) := hca 0 _ rfl
                have a1 : w1.cell? ⟨ga, aq * 2 + 1, none⟩ = some (.slice pv ats[aq].terms.length cv) := hca 1 _ rfl
                have hm00 : (0 : Int) ≤ (mq : Int) := Int.natCast_nonneg _
                have hm01 : (mq : Int) < (l.length : Int) := by omega
                have htl : ats[aq].terms.length ≤ 3 := Hterms.out _ (List.getElem_mem haq)
                have hbi : ints wr (.slice pb bo.length cb) bo (Value.slice pb bo.length cb).ownBlock.toList := ints_of_row (own_row hown) HI.out
                clear hca
                have hiL : ∀ x : Lat (wr.alloc (.cells #[.int .i64 (aq : Int), .int .i64 (mq : Int)] 135)), ints x.wd (.slice pi l[mq].inputs.length ci) l[mq].inputs fi2 := fun x => (hvi.below' (ba hbel)).below' x.ok
                have htL : ∀ x : Lat (wr.alloc (.cells #[.int .i64 (aq : Int), .int .i64 (mq : Int)] 135)), ints x.wd (.slice pv ats[aq].terms.length cv) ats[aq].terms ft := fun x => (hvt.below' (ba hbel)).below' x.ok
                have hbL : ∀ x : Lat (wr.alloc (.cells #[.int .i64 (aq : Int), .int .i64 (mq : Int)] 135)), ints x.wd (.slice pb bo.length cb) bo (Value.slice pb bo.length cb).ownBlock.toList := fun x => (hbi.al _).below' x.ok
                cases h4 : canCallB l[mq] ats[aq] bo with
                | false =>
                  have Hg := Lib.hid (HBad.out k hlt (by rw [H4.out, ← Hbo.out, h4]; rfl))
                  go_wp2_with fail
                  have L0 : ∀ x : Lat (wr.alloc (.cells #[.int .i64 (aq : Int), .int .i64 (mq : Int)] 135)), x.wd.cell? ⟨wr.heap.size, 0, none⟩ = some (.int .i64 (aq : Int)) := fun x => x.cell (cell_new _ _ _ 0 _ rfl)
                  have L1 : ∀ x : Lat (wr.alloc (.cells #[.int .i64 (aq : Int), .int .i64 (mq : Int)] 135)), x.wd.cell? ⟨wr.heap.size, 1, none⟩ = some (.int .i64 (mq : Int)) := fun x => x.cell (cell_new _ _ _ 1 _ rfl)
                  have L2 : ∀ x : Lat (wr.alloc (.cells #[.int .i64 (aq : Int), .int .i64 (mq : Int)] 135)), x.wd.cell? ⟨w.heap.size, 0, none⟩ = some (.slice ph head.length ch) := fun x => x.cell (cell_al (cell_below c0 hbel) _)
                  have L3 : ∀ x : Lat (wr.alloc (.cells #[.int .i64 (aq : Int), .int .i64 (mq : Int)] 135)), x.wd.cell? ⟨w.heap.size, 1, none⟩ = some (.slice (some ⟨ga, 0, none⟩) ats.length ca) := fun x => x.cell (cell_al (cell_below c1 hbel) _)
                  have L4 : ∀ x : Lat (wr.alloc (.cells #[.int .i64 (aq : Int), .int .i64 (mq : Int)] 135)), x.wd.cell? ⟨w2.heap.size, aq, none⟩ = some (.bool false) := fun x => x.cell (cell_al hdq _)
                  have L5 : ∀ x : Lat (wr.alloc (.cells #[.int .i64 (aq : Int), .int .i64 (mq : Int)] 135)), x.wd.cell? ⟨gm, mq * 5, none⟩ = some (.int .i64 l[mq].rel) := fun x => x.cell (cell_al (cell_below m0 hbel) _)
                  have L6 : ∀ x : Lat (wr.alloc (.cells #[.int .i64 (aq : Int), .int .i64 (mq : Int)] 135)), x.wd.cell? ⟨gm, mq * 5 + 1, none⟩ = some (.slice pi l[mq].inputs.length ci) := fun x => x.cell (cell_al (cell_below m1 hbel) _)
                  have L7 : ∀ x : Lat (wr.alloc (.cells #[.int .i64 (aq : Int), .int .i64 (mq : Int)] 135)), x.wd.cell? ⟨gm, mq * 5 + 2, none⟩ = some (.int .i64 l[mq].limit) := fun x => x.cell (cell_al (cell_below m2 hbel) _)
                  have L8 : ∀ x : Lat (wr.alloc (.cells #[.int .i64 (aq : Int), .int .i64 (mq : Int)] 135)), x.wd.cell? ⟨gm, mq * 5 + 3, none⟩ = some (.int .i64 l[mq].cost) := fun x => x.cell (cell_al (cell_below m3 hbel) _)
                  have L9 : ∀ x : Lat (wr.alloc (.cells #[.int .i64 (aq : Int), .int .i64 (mq : Int)] 135)), x.wd.cell? ⟨gm, mq * 5 + 4, none⟩ = some (.int .i64 l[mq].quota) := fun x => x.cell (cell_al (cell_below m4 hbel) _)
                  have L10 : ∀ x : Lat (wr.alloc (.cells #[.int .i64 (aq : Int), .int .i64 (mq : Int)] 135)), x.wd.cell? ⟨ga, aq * 2, none⟩ = some (.int .i64 ats[aq].rel) := fun x => x.cell (cell_al (cell_below a0 hbel) _)
                  have L11 : ∀ x : Lat (wr.alloc (.cells #[.int .i64 (aq : Int), .int .i64 (mq : Int)] 135)), x.wd.cell? ⟨ga, aq * 2 + 1, none⟩ = some (.slice pv ats[aq].terms.length cv) := fun x => x.cell (cell_al (cell_below a1 hbel) _)
                  refine wp_region_lat (wr.alloc (.cells #[.int .i64 (aq : Int), .int .i64 (mq : Int)] 135)) (by kernel_rfl) (by kernel_rfl) ?_
                  repeat (go_big_quiet_step ((first | (go_at_call 117; first | exact Lat.eq (retB (f117_any _ _ _ _) h1) | exact Lat.eq (retB (f117_any _ _ _ _) h3)) | (go_at_call 118; exact Lat.of (retBB (implCanCall_any l[mq] ats[aq] _ _ fi2 ft _ bo _ _ (hiL _) (htL _) (hbL _)) h4)))))
                  refine wpQuiet_nil ?_
                  intro _ hw'
                  obtain ⟨x1, hw''⟩ := hw'
                  subst hw''
                  clear L0 L1 L2 L3 L4 L5 L6 L7 L8 L9 L10 L11
                  have hbf := bt (ba hbw) x1.ok
                  go_wp2
                  go_ret
                  exact ⟨ret_bool (by rw [Hg.out]), hbf⟩
                | true =>
                  have HN2 := Lib.hid (anyN_step HN.out (show ordBad l ats st k = false by rw [H4.out, ← Hbo.out, h4]; rfl))
                  have HU2 := Lib.hid (show usedAt st (k + 1) = usedAt st k ++ [(aq : Int)] by rw [usedAt_succ hlt, Hsk.out])
                  have HB2 := Lib.hid (show bo ++ ats[aq].terms = boundAt ats st (k + 1) by rw [boundAt_succ hlt, Hsk.out, atomAt_nat haq, Hbo.out])
                  go_wp2_with fail
                  have L0 : ∀ x : Lat (wr.alloc (.cells #[.int .i64 (aq : Int), .int .i64 (mq : Int)] 135)), x.wd.cell? ⟨wr.heap.size, 0, none⟩ = some (.int .i64 (aq : Int)) := fun x => x.cell (cell_new _ _ _ 0 _ rfl)
                  have L1 : ∀ x : Lat (wr.alloc (.cells #[.int .i64 (aq : Int), .int .i64 (mq : Int)] 135)), x.wd.cell? ⟨wr.heap.size, 1, none⟩ = some (.int .i64 (mq : Int)) := fun x => x.cell (cell_new _ _ _ 1 _ rfl)
                  have L2 : ∀ x : Lat (wr.alloc (.cells #[.int .i64 (aq : Int), .int .i64 (mq : Int)] 135)), x.wd.cell? ⟨w.heap.size, 0, none⟩ = some (.slice ph head.length ch) := fun x => x.cell (cell_al (cell_below c0 hbel) _)
                  have L3 : ∀ x : Lat (wr.alloc (.cells #[.int .i64 (aq : Int), .int .i64 (mq : Int)] 135)), x.wd.cell? ⟨w.heap.size, 1, none⟩ = some (.slice (some ⟨ga, 0, none⟩) ats.length ca) := fun x => x.cell (cell_al (cell_below c1 hbel) _)
                  have L4 : ∀ x : Lat (wr.alloc (.cells #[.int .i64 (aq : Int), .int .i64 (mq : Int)] 135)), x.wd.cell? ⟨w2.heap.size, aq, none⟩ = some (.bool false) := fun x => x.cell (cell_al hdq _)
                  have L5 : ∀ x : Lat (wr.alloc (.cells #[.int .i64 (aq : Int), .int .i64 (mq : Int)] 135)), x.wd.cell? ⟨gm, mq * 5, none⟩ = some (.int .i64 l[mq].rel) := fun x => x.cell (cell_al (cell_below m0 hbel) _)
                  have L6 : ∀ x : Lat (wr.alloc (.cells #[.int .i64 (aq : Int), .int .i64 (mq : Int)] 135)), x.wd.cell? ⟨gm, mq * 5 + 1, none⟩ = some (.slice pi l[mq].inputs.length ci) := fun x => x.cell (cell_al (cell_below m1 hbel) _)
                  have L7 : ∀ x : Lat (wr.alloc (.cells #[.int .i64 (aq : Int), .int .i64 (mq : Int)] 135)), x.wd.cell? ⟨gm, mq * 5 + 2, none⟩ = some (.int .i64 l[mq].limit) := fun x => x.cell (cell_al (cell_below m2 hbel) _)
                  have L8 : ∀ x : Lat (wr.alloc (.cells #[.int .i64 (aq : Int), .int .i64 (mq : Int)] 135)), x.wd.cell? ⟨gm, mq * 5 + 3, none⟩ = some (.int .i64 l[mq].cost) := fun x => x.cell (cell_al (cell_below m3 hbel) _)
                  have L9 : ∀ x : Lat (wr.alloc (.cells #[.int .i64 (aq : Int), .int .i64 (mq : Int)] 135)), x.wd.cell? ⟨gm, mq * 5 + 4, none⟩ = some (.int .i64 l[mq].quota) := fun x => x.cell (cell_al (cell_below m4 hbel) _)
                  have L10 : ∀ x : Lat (wr.alloc (.cells #[.int .i64 (aq : Int), .int .i64 (mq : Int)] 135)), x.wd.cell? ⟨ga, aq * 2, none⟩ = some (.int .i64 ats[aq].rel) := fun x => x.cell (cell_al (cell_below a0 hbel) _)
                  have L11 : ∀ x : Lat (wr.alloc (.cells #[.int .i64 (aq : Int), .int .i64 (mq : Int)] 135)), x.wd.cell? ⟨ga, aq * 2 + 1, none⟩ = some (.slice pv ats[aq].terms.length cv) := fun x => x.cell (cell_al (cell_below a1 hbel) _)
                  refine wp_region_lat (wr.alloc (.cells #[.int .i64 (aq : Int), .int .i64 (mq : Int)] 135)) (by kernel_rfl) (by kernel_rfl) ?_
                  repeat (go_big_quiet_step ((first | (go_at_call 117; first | exact Lat.eq (retB (f117_any _ _ _ _) h1) | exact Lat.eq (retB (f117_any _ _ _ _) h3)) | (go_at_call 118; exact Lat.of (retBB (implCanCall_any l[mq] ats[aq] _ _ fi2 ft _ bo _ _ (hiL _) (htL _) (hbL _)) h4)))))
                  refine wpQuiet_nil ?_
                  intro _ hw'
                  obtain ⟨x1, hw''⟩ := hw'
                  subst hw''
                  clear L0 L1 L2 L3 L4 L5 L6 L7 L8 L9 L10 L11
                  have hbx := bt (ba (o := .cells #[.int .i64 (aq : Int), .int .i64 (mq : Int)] 135) (Below.refl wr.heap.size wr)) x1.ok
                  have hb1 := bt hbel hbx
                  have hown1 := own_below hown hbx
                  have hrow2 := Hrow.out.below' hbx
                  have r0 := x1.cell (cell_new wr 135 #[.int .i64 (aq : Int), .int .i64 (mq : Int)] 0 _ rfl)
                  have r1 := x1.cell (cell_new wr 135 #[.int .i64 (aq : Int), .int .i64 (mq : Int)] 1 _ rfl)
                  obtain ⟨W1, hW1⟩ : ∃ W1, W1 = x1.wd := ⟨_, rfl⟩
                  rw [← hW1] at hbx hown1 hrow2 hb1 r0 r1 ⊢
                  clear hW1 x1 hiL htL hbL h1 h2 h3 h4 t0 t1 hdq
                  obtain ⟨gd, hgd, hgd2, hdc, hdz⟩ := hrow2.at (by omega)
                  cases hgd
                  have hdq := hdc aq _ (bcells_get (HD.out aq haq))
                  have hdf := hdz aq
                  clear hdc hdz hgd2
                  have hgw := Hrow.out.lt w2.heap.size rfl
                  have hne1 : ¬ (w2.heap.size = wr.heap.size) := by omega
                  have hbS : Below w1.heap.size w1 (W1.setCell ⟨w2.heap.size, aq, none⟩ (.bool true)) := bs hb1 hsz2
                  have q1 := cell_below c1 hbS
                  have q2 := cell_below a0 hbS
                  have q3 := cell_below a1 hbS
                  have q4 : (W1.setCell ⟨w2.heap.size, aq, none⟩ (.bool true)).cell? ⟨wr.heap.size, 0, none⟩ = some (.int .i64 (aq : Int)) := (World.cell?_setCell_other _ _ _ _ (by simp <;> omega)).trans r0
                  have hownS : (W1.setCell ⟨w2.heap.size, aq, none⟩ (.bool true)).ownsRow w1.heap.size 3 1 (.slice pb bo.length cb) bo.length (icells bo) := own_frame hown1 fun g hg => Below.heap_setCell _ _ _ _ (fun e => Hdj.out (hg.trans (congrArg some e)))
                  have hrowS := hrow2.set aq (.bool true)
                  rw [bcells_set] at hrowS
                  obtain ⟨ob, hrt, _, hIt⟩ := row_of_ints (hvt.below' hbS)
                  have d1 := cell_below c1 hb1
                  go_wp2_with (at_builtin; refine wpList_append_row slInt rfl _ _ rfl w1.heap.size (.slice pb bo.length cb) bo.length (icells bo) rfl hownS (.slice pv ats[aq].terms.length cv) ats[aq].terms.length (icells ats[aq].terms) ob rfl hrt (fun u hu => (by simp only [icells, List.mem_map] at hu; obtain ⟨_, _, rfl⟩ := hu; rfl)) (by omega) (by unfold maxLen; omega) hbS.size ?_; intro v6 w6 hown6 hgr6 hat6)
                  obtain ⟨p6, q6, rfl⟩ := (own_row hown6).form
                  have hown7 : w6.ownsRow w1.heap.size 3 1 (.slice p6 (bo ++ ats[aq].terms).length q6) (bo ++ ats[aq].terms).length (icells (bo ++ ats[aq].terms)) := by
                    have e1 : (bo ++ ats[aq].terms).length = bo.length + ats[aq].terms.length := List.length_append
                    have e2 : icells (bo ++ ats[aq].terms) = icells bo ++ icells ats[aq].terms := by simp [icells]
                    rw [e1, e2]; exact hown6
                  have HI7 := Lib.hid (show ∀ x ∈ bo ++ ats[aq].terms, I64 x from fun x hx => (List.mem_append.1 hx).elim (HI.out x) (hIt x))
                  have hszS : (W1.setCell ⟨w2.heap.size, aq, none⟩ (.bool true)).heap.size = W1.heap.size := by simp [World.setCell]
                  have hgw2 : w2.heap.size < W1.heap.size := hrow2.lt w2.heap.size rfl
                  have Hrow7 := Lib.hid (hrowS.frame (w' := w6) fun g hg => by
                    cases hg
                    exact hgr6.block _ (by rw [hszS]; exact hgw2) (fun e => Hdj.out e.symm))
                  have Hdj7 := Lib.hid (show (Value.slice p6 (bo ++ ats[aq].terms).length q6).ownBlock ≠ some w2.heap.size from fun e => by
                    have e' : (Value.slice p6 (bo.length + ats[aq].terms.length) q6).ownBlock = some w2.heap.size := by
                      cases p6 <;> exact e
                    rcases hat6 with h | h
                    · rw [h] at e'; exact Hdj.out e'
                    · rw [h, hszS] at e'; simp at e'; omega)
                  have HD7 := Lib.hid (show ∀ a, a < ats.length → (ds.set aq true)[a]? = some (memB (usedAt st (k + 1)) (a : Int)) by rw [HU2.out]; exact mem_set_bool HD.out haq)
                  have hb6 : Below w1.heap.size w1 w6 := hbS.trans (below_of_grown hgr6 hbS.size fun j hj => (own_lt hownS j hj).1)
                  go_roundw
                  case rel => exact ⟨k + 1, q6, p6, bo ++ ats[aq].terms, ds.set aq true, by go_num, by omega, by simp, hown7, HI7, HB2, Hrow7, HD7, Hdj7, HN2, hb6⟩
                  case measure => simp [intOf]; omega
        · have hkl : k = st.length := by omega
          have Hg := Lib.hid (HE.out k hkl HN.out)
          clear hkl
          go_wp2
          go_ret
          exact ⟨ret_bool (by rw [Hg.out]), hbw⟩
    · have Hf := Lib.hid (orderB_no2 (s := s) (l := l) (q := ⟨head, ats⟩) (st := st) hlen)
      have hne : ((st.length : Int) != (ats.length : Int)) = true := by simp; omega
      have hne2 : ¬ ((st.length : Int) = (ats.length : Int)) := by omega
      clear hA HA hterms hn1 hn4 hlen
      go_enter Try.func69, Try.ntmps69
      go_wp2_with (go_at_call 116; rw [← HW1.out]; refine HB.out.mono ?_; rintro e w2 ⟨rfl, hb2⟩; have e0 := cell_below c0 hb2; have e1 := cell_below c1 hb2)
      go_ret
      exact ⟨ret_bool (by rw [Hf.out]), bt hb0 hb2⟩
end Go.Proofs.Ytjjkfhjkfoikbaa
