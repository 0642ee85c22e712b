/- Several of my texts as one: BlkB, ChpB, VarsB, CheapI. -/
import Derived.Test.YtpdmdfkcaabnaaaGreatGreedL
import Derived.Test.YtpdmdfkcaabnaaaGreatHMeth
import Derived.Test.YtpdmdfkcaabnaaaGreatHStep
import Derived.Test.YtpdmdfkcaabnaaaGreatCheapL
import Derived.Test.YtpdmdfkcaabnaaaGreatVarsL
import Derived.Test.YtpdmdfkcaabnaaaGreatHQuery
import Derived.Test.YtpdmdfkcaabnaaaGreatExtI
import Derived.Test.YtpdmdfkcaabnaaaGreatAsked
import Derived.Laws.ResultCell
/- The bound of the blocked atoms. No condition. -/
namespace Go.Proofs.YtpdmdfkcaabnaaaGreat
set_option linter.unusedVariables false
set_option linter.unusedSimpArgs false
theorem cntMethodS_sum (l : List MethD) : (l.map cntMethod).sum ≤ 5 * bulkMethodS l := by
  unfold bulkMethodS
  induction l with
  | nil => simp
  | cons x t ih => simp only [List.map_cons, List.sum_cons, List.length_cons] at ih ⊢; unfold cntMethod bulkMethod at *; omega
theorem cntMethodS_bulk {l : List MethD} (h : bulkMethodS l ≤ 1048576) : (l.map cntMethod).sum ≤ 5242880 := by have := cntMethodS_sum l; omega
theorem blockedL_length (s : List Int) (l : List MethD) (q : QueryD) : (blockedL s l q).length ≤ 4 := by
  unfold blockedL
  cases h : askedB s l q with
  | true => exact Nat.le_trans (freeL_length _ _) (asked_atoms h).2.1
  | false => simp
theorem findL_length (s : List Int) (l : List MethD) (q : QueryD) : (findL s l q).1.length ≤ 4 := by
  unfold findL
  cases h : askedB s l q with
  | true =>
    rw [if_pos rfl]
    split
    · simp
    · exact Nat.le_trans (greedyN_le _) (asked_atoms h).2.1
  | false => simp
theorem cntStepS_sum (l : List StepD) : (l.map cntStep).sum = 2 * l.length := by
  induction l with
  | nil => rfl
  | cons x t ih => rw [List.map_cons, List.sum_cons, List.length_cons, ih]; unfold cntStep; omega
theorem findL_cnt (s : List Int) (l : List MethD) (q : QueryD) : ((findL s l q).1.map cntStep).sum ≤ 1048576 := by
  rw [cntStepS_sum]; have := findL_length s l q; omega
end Go.Proofs.YtpdmdfkcaabnaaaGreat
/- The bound of the cheapest order. No condition. -/
namespace Go.Proofs.YtpdmdfkcaabnaaaGreat
set_option linter.unusedVariables false
set_option linter.unusedSimpArgs false
theorem cheapL_length (s : List Int) (l : List MethD) (q : QueryD) : (cheapL s l q).1.length ≤ 4 := by
  cases h : askedB s l q with
  | true => rw [cheapL_yes h]; exact Nat.le_trans (cheapX_len l q.atoms) (asked_atoms h).2.1
  | false => rw [cheapL_no h]; simp
theorem cheapL_cnt (s : List Int) (l : List MethD) (q : QueryD) : ((cheapL s l q).1.map cntStep).sum ≤ 1048576 := by
  rw [cntStepS_sum]; have := cheapL_length s l q; omega
end Go.Proofs.YtpdmdfkcaabnaaaGreat
/- What the bulk of a query says of its terms. No condition. -/
namespace Go.Proofs.YtpdmdfkcaabnaaaGreat
set_option linter.unusedVariables false
theorem termsL_length (l : List AtomD) : (termsL l).length = (l.map fun x => bulkAtom x).sum := by
  unfold termsL
  induction l with
  | nil => rfl
  | cons x t ih => simp only [List.flatMap_cons, List.length_append, ih, List.map_cons, List.sum_cons]; rfl
theorem termsL_bulk {q : QueryD} (h : bulkQuery q ≤ 1048576) : (termsL q.atoms).length ≤ 1048576 := by
  rw [termsL_length]; unfold bulkQuery bulkAtomS at h; omega
theorem cnt_bulk {q : QueryD} (h : bulkQuery q ≤ 1048576) : (q.atoms.map cntAtom).sum ≤ 2097152 := by
  have h1 : ∀ l : List AtomD, (l.map cntAtom).sum = l.length + (l.map fun x => bulkAtom x).sum := by
    intro l
    induction l with
    | nil => rfl
    | cons x t ih => simp only [List.map_cons, List.sum_cons, ih, List.length_cons]; unfold cntAtom bulkAtom; omega
  rw [h1]; unfold bulkQuery bulkAtomS at h; omega
end Go.Proofs.YtpdmdfkcaabnaaaGreat
/- CheapestOrder of the reference and of the program. Condition: not more than 2^20 terms. -/
namespace Go.Proofs.YtpdmdfkcaabnaaaGreat
open Go.RowKit
set_option linter.unusedVariables false
set_option linter.unusedSimpArgs false
theorem run_neq_nil {P : Program} (w : World) (t e : TypeId) (a : Option Addr) (l c : Nat) (h : P.underlying t = some (.slice e)) : (binOp .neq t (.slice a l c) (.slice none 0 0)).run P w = .ok (.bool (!a.isNone)) w := by
  simp only [binOp]
  simp [Op.equal, Op.maxDepth, Lib.run_equalIn_slice_nil w 9999 t e a l c 0 0 h]
/-- What CheapestOrder ends in. -/
def ChpE (x : List StepD × Int × Bool) (w : World) (e : Ending) (w' : World) : Prop := ∃ v' f', e = .returned (.tuple #[v', .int .i64 x.2.1, .bool x.2.2]) ∧ steps w' v' x.1 f' ∧ Fresh w.heap.size f' ∧ Below w.heap.size w w'
theorem ChpE.mk {x : List StepD × Int × Bool} {w : World} {e : Ending} {w' : World} (v' : Value) (f' : List Nat) (he : e = .returned (.tuple #[v', .int .i64 x.2.1, .bool x.2.2])) (h1 : steps w' v' x.1 f') (h2 : Fresh w.heap.size f') (h3 : Below w.heap.size w w') : ChpE x w e w' := ⟨v', f', he, h1, h2, h3⟩
def ChsE (x : List StepD × Int × Bool) (w : World) (e : Ending) (w' : World) : Prop := ∃ v' f', e = .returned (.tuple #[v', .int .i64 x.2.1, .bool x.2.2]) ∧ steps w' v' x.1 f' ∧ Below w.heap.size w w'
theorem ChsE.mk {x : List StepD × Int × Bool} {w : World} {e : Ending} {w' : World} (v' : Value) (f' : List Nat) (he : e = .returned (.tuple #[v', .int .i64 x.2.1, .bool x.2.2])) (h1 : steps w' v' x.1 f') (h3 : Below w.heap.size w w') : ChsE x w e w' := ⟨v', f', he, h1, h3⟩
set_option maxRecDepth 100000 in
set_option maxHeartbeats 3200000 in
theorem specCheapestOrder_any (vs : Value) (s : List Int) (fs : List Nat) (vl : Value) (l : List MethD) (fl : List Nat) (q : QueryD) (vh : Value) (fh : List Nat) (va : Value) (fa : List Nat) (w : World) (hs : ints w vs s fs) (hl : meths w vl l fl) (hh : ints w vh q.head fh) (ha : atoms w va q.atoms fa) (hn : (termsL q.atoms).length ≤ 1048576) :
    Calls Tryz.prog 6 #[vs, vl, .agg #[vh, va]] w (ChsE (cheapL s l q) w) := by
  obtain ⟨head, ats⟩ := q
  obtain ⟨ps, cs, rfl⟩ := slR.form hs
  obtain ⟨pl, cl, rfl⟩ := slR.form hl
  obtain ⟨ph, ch, rfl⟩ := slR.form hh
  obtain ⟨pa, ca, rfl⟩ := slR.form ha
  have hb0 : Below w.heap.size w (w.alloc (.cells #[.slice ph head.length ch, .slice pa ats.length ca] 37)) := ba (Below.refl _ _)
  have c0 : (w.alloc (.cells #[.slice ph head.length ch, .slice pa ats.length ca] 37)).cell? ⟨w.heap.size, 0, none⟩ = some (.slice ph head.length ch) := cell_new w _ _ 0 _ rfl
  have c1 : (w.alloc (.cells #[.slice ph head.length ch, .slice pa ats.length ca] 37)).cell? ⟨w.heap.size, 1, none⟩ = some (.slice pa ats.length ca) := cell_new w _ _ 1 _ rfl
  have hs0 := hs.below' hb0
  have hl0 := hl.below' hb0
  have hh0 := hh.below' hb0
  have ha0 := ha.below' hb0
  obtain ⟨w1, hw1⟩ : ∃ w1, w1 = (w.alloc (.cells #[.slice ph head.length ch, .slice pa ats.length ca] 37)) := ⟨_, rfl⟩
  rw [← hw1] at hb0 c0 c1 hs0 hl0 hh0 ha0
  have HW1 := Lib.hid hw1
  have HA := Lib.hid (fun b (hA : askedB s l ⟨head, ats⟩ = b) => retBB (l6Fine_any _ s fs _ l fl ⟨head, ats⟩ _ fh _ fa w1 hs0 hl0 hh0 ha0 hn) hA)
  clear hw1 hn
  cases hA : askedB s l ⟨head, ats⟩ with
  | false =>
    have Hf := Lib.hid (cheapL_no hA)
    have HB := Lib.hid (HA.out _ hA)
    clear hA HA
    go_enter Tryz.func6, Tryz.ntmps6
    go_wp2_with (go_at_call 23; rw [← HW1.out]; refine HB.out.mono ?_; rintro e w2 ⟨rfl, hb2⟩; have e0 := cell_below c0 hb2; have e1 := cell_below c1 hb2; have e0a := fun o => cell_al e0 o; have e1a := fun o => cell_al e1 o)
    go_ret3
    rw [Hf.out]
    exact ChsE.mk _ _ rfl (grR.lit' (w := w2) (B := w2.heap.size) (E := 65) (sz := 2) (H := w2.heap.size) stepR (Nat.le_refl _) rfl).sl (ba (bt hb0 hb2))
  | true =>
    have HB := Lib.hid (HA.out _ hA)
    obtain ⟨hn1, hn4, hl5, hterms⟩ := asked_atoms hA
    have hn1' : 1 ≤ ats.length := hn1
    have hn4' : ats.length ≤ 4 := hn4
    have Hf := Lib.hid (cheapL_yes hA)
    have Ht := Lib.hid (show ∀ a ∈ ats, a.terms.length ≤ 3 from hterms)
    have hxl : (cheapX l ats).length ≤ 4 := Nat.le_trans (cheapX_len l ats) hn4'
    have hX : srch l ats ats.length [] [] = cheapX l ats := rfl
    simp only [show (QueryD.atoms ⟨head, ats⟩) = ats from rfl] at Hf
    have HS := Lib.hid (fun (w2 : World) (vs' vb' vx' : Value) (f1 f2 f3 : List Nat) (hb : Below w1.heap.size w1 w2) (h1 : steps w2 vs' [] f1) (h2 : ints w2 vb' [] f2) (h3 : steps w2 vx' [] f3) => by
      have h := l6Search_any l head ats hn4' (by omega) Ht ats.length [] [] [] (.slice pl l.length cl) (.slice ph head.length ch) (.slice pa ats.length ca) vs' vb' vx' fl fh fa f1 f2 f3 w2 (by simp) (hl0.below' hb) (hh0.below' hb) (ha0.below' hb) h1 h2 h3 (Lib.hid (SameVars.refl _)) (by simp) (by simp)
      rw [hX] at h
      exact h)
    generalize hR : cheapX l ats = x at HS Hf hxl
    have hO := fun (w2 : World) (v : Value) (f : List Nat) (h1 : meths w2 (.slice pl l.length cl) l fl) (h2 : steps w2 v x f) => specOrderCost_any (.slice pl l.length cl) l fl v x f w2 h1 h2 (by omega)
    have hsm : sumCost l (x.map (·.meth)) = sumC l x := rfl
    rw [hsm] at hO
    generalize sumC l x = C at hO Hf
    clear hA HA hterms hn1 hn4 hR hX hsm Ht
    go_enter Tryz.func6, Tryz.ntmps6
    go_wp2_with (first
      | (go_at_call 23; rw [← HW1.out]; refine HB.out.mono ?_; rintro e w2 ⟨rfl, hb2⟩; have e0 := cell_below c0 hb2; have e1 := cell_below c1 hb2; have e0a := fun o => cell_al e0 o; have e1a := fun o => cell_al e1 o)
      | (go_at_call 24; refine (HS.out _ _ _ _ [w2.heap.size] [w2.heap.size + 1] [w2.heap.size + 1 + 1] (by repeat (first | exact hb2 | refine ba ?_)) ((grR.lit' (w := w2) (B := w2.heap.size) (E := 65) (sz := 2) (H := w2.heap.size) stepR (Nat.le_refl _) rfl).below' good_step (ba (ba (Below.refl _ _)))).sl ((grR.lit' (w := w2.alloc (.cells #[] 65)) (B := w2.heap.size) (E := 3) (sz := 1) (H := w2.heap.size + 1) intR (by simp only [World.alloc, Array.size_push]; omega) (by simp only [World.alloc, Array.size_push])).below' good_int (ba (Below.refl _ _))).sl (grR.lit' (w := (w2.alloc (.cells #[] 65)).alloc (.cells #[] 3)) (B := w2.heap.size) (E := 65) (sz := 2) (H := w2.heap.size + 1 + 1) stepR (by simp only [World.alloc, Array.size_push]; omega) (by simp only [World.alloc, Array.size_push])).sl).mono ?_; rintro e w3 ⟨v3, f3, rfl, hst3, hb3⟩; obtain ⟨p3, q3, rfl⟩ := slR.form hst3; have hb13 : Below w1.heap.size w1 w3 := bt (by repeat (first | exact hb2 | refine ba ?_)) hb3)
      | (go_at_call 25; refine (hO _ _ f3 (hl0.below' hb13) hst3).mono ?_; rintro e w4 ⟨rfl, rfl⟩))
    go_ret3
    rw [Hf.out]
    exact ChsE.mk (.slice p3 x.length q3) f3 (congrArg (fun b => Ending.returned (.tuple #[.slice p3 x.length q3, .int .i64 C, .bool b])) (show decide (0 < x.length) = decide ((0 : Int) < (x.length : Int)) by simp)) hst3 (bt hb0 hb13)
set_option maxRecDepth 100000 in
set_option maxHeartbeats 6400000 in
theorem implCheapestOrder_any (vs : Value) (s : List Int) (fs : List Nat) (vl : Value) (l : List MethD) (fl : List Nat) (q : QueryD) (vh : Value) (fh : List Nat) (va : Value) (fa : List Nat) (w : World) (hs : ints w vs s fs) (hl : meths w vl l fl) (hh : ints w vh q.head fh) (ha : atoms w va q.atoms fa) (hn : (termsL q.atoms).length ≤ 1048576) :
    Calls Tryz.prog 10 #[vs, vl, .agg #[vh, va]] w (ChpE (cheapL s l q) w) := by
  have hslt := hs.lt
  have hllt := hl.lt
  have halt := ha.lt
  obtain ⟨head, ats⟩ := q
  obtain ⟨ps, cs, rfl⟩ := slR.form hs
  obtain ⟨pl, cl, rfl⟩ := slR.form hl
  obtain ⟨ph, ch, rfl⟩ := slR.form hh
  obtain ⟨pa, ca, rfl⟩ := slR.form ha
  have hb0 : Below w.heap.size w (w.alloc (.cells #[.slice ph head.length ch, .slice pa ats.length ca] 37)) := ba (Below.refl _ _)
  have c0 : (w.alloc (.cells #[.slice ph head.length ch, .slice pa ats.length ca] 37)).cell? ⟨w.heap.size, 0, none⟩ = some (.slice ph head.length ch) := cell_new w _ _ 0 _ rfl
  have c1 : (w.alloc (.cells #[.slice ph head.length ch, .slice pa ats.length ca] 37)).cell? ⟨w.heap.size, 1, none⟩ = some (.slice pa ats.length ca) := cell_new w _ _ 1 _ rfl
  have hs0 := hs.below' hb0
  have hl0 := hl.below' hb0
  have hh0 := hh.below' hb0
  have ha0 := ha.below' hb0
  obtain ⟨w1, hw1⟩ : ∃ w1, w1 = (w.alloc (.cells #[.slice ph head.length ch, .slice pa ats.length ca] 37)) := ⟨_, rfl⟩
  rw [← hw1] at hb0 c0 c1 hs0 hl0 hh0 ha0
  have HW1 := Lib.hid hw1
  have HA := Lib.hid (fun b (hA : askedB s l ⟨head, ats⟩ = b) => retBB (areAsked_any _ s fs _ l fl ⟨head, ats⟩ _ fh _ fa w1 hs0 hl0 hh0 ha0 hn) hA)
  clear hw1 hn
  cases hA : askedB s l ⟨head, ats⟩ with
  | false =>
    have Hf := Lib.hid (cheapL_no hA)
    have HB := Lib.hid (HA.out _ hA)
    clear hA HA
    go_enter Tryz.func10, Tryz.ntmps10
    go_wp2_with (go_at_call 28; rw [← HW1.out]; refine HB.out.mono ?_; rintro e w2 ⟨rfl, hb2⟩; have e0 := cell_below c0 hb2; have e1 := cell_below c1 hb2; have e0a := fun o => cell_al e0 o; have e1a := fun o => cell_al e1 o)
    go_ret3
    rw [Hf.out]
    exact ChpE.mk _ _ rfl (slR.nilv _ _ _ _) (Fresh.nil _) (bt hb0 hb2)
  | true =>
    have HB := Lib.hid (HA.out _ hA)
    obtain ⟨hn1, hn4, hl5, hterms⟩ := asked_atoms hA
    have hn1' : 1 ≤ ats.length := hn1
    have hn4' : ats.length ≤ 4 := hn4
    have Hf := Lib.hid (cheapL_yes hA)
    have Ht := Lib.hid (show ∀ a ∈ ats, a.terms.length ≤ 3 from hterms)
    have Hc := Lib.hid (asked_cost hA)
    have hX : srch l ats ats.length [] [] = cheapX l ats := rfl
    simp only [show (QueryD.atoms ⟨head, ats⟩) = ats from rfl] at Hf
    have hmk := make_row slBool ats.length (by omega) (by omega)
    have hwsz := hb0.size
    clear hA HA hterms hn1 hn4
    go_enter Tryz.func10, Tryz.ntmps10
    go_upto_region 3 with (go_at_call 28; rw [← HW1.out]; refine HB.out.mono ?_; rintro e w2 ⟨rfl, hb2⟩; have e0 := cell_below c0 hb2; have e1 := cell_below c1 hb2; have e0a := fun o => cell_al e0 o; have e1a := fun o => cell_al e1 o)
    have hl2 := hl0.below' hb2
    have ha2 := ha0.below' hb2
    have hz2 : w.heap.size ≤ w2.heap.size := Nat.le_trans hwsz hb2.size
    have F2 := Five.new w2 60 (.slice pl l.length cl) (.slice pa ats.length ca) (.slice none 0 0) (.slice none 0 0) (.int .i64 0)
    have R2 := made_bools (w2.alloc (.cells #[.slice pl l.length cl, .slice pa ats.length ca, .slice none 0 0, .slice none 0 0, .int .i64 0] 60)) ats.length (by omega)
    have hz3 : (w2.alloc (.cells #[.slice pl l.length cl, .slice pa ats.length ca, .slice none 0 0, .slice none 0 0, .int .i64 0] 60)).heap.size = w2.heap.size + 1 := by simp only [World.alloc, Array.size_push]
    rw [hz3] at R2
    have F3 := F2.below (ba (o := .cells (madeCells #[Value.bool false] ats.length) 4) (Below.refl _ _))
    have HF : FinE l ats w2.heap.size w2.heap.size (w2.heap.size + 1) (.slice pl l.length cl) (.slice pa ats.length ca) [] [] [] [] ((w2.alloc (.cells #[.slice pl l.length cl, .slice pa ats.length ca, .slice none 0 0, .slice none 0 0, .int .i64 0] 60)).alloc (.cells (madeCells #[Value.bool false] ats.length) 4)) :=
      ⟨none, none, 0, 0, List.replicate ats.length false, F3, grR.nilv _, slR.nilv _ _ _ _, rfl, R2, fun a ha => by rw [List.getElem?_replicate, if_pos ha]; rfl, by simp, by simp, by simp, by simp, by simp, by omega, Nat.le_refl _, by omega, Fresh.nil _⟩
    have hbb : Below w2.heap.size w2 ((w2.alloc (.cells #[.slice pl l.length cl, .slice pa ats.length ca, .slice none 0 0, .slice none 0 0, .int .i64 0] 60)).alloc (.cells (madeCells #[Value.bool false] ats.length) 4)) := ba (ba (Below.refl _ _))
    have HE := Lib.hid (extend_any l ats w2.heap.size w2.heap.size (w2.heap.size + 1) hn1' hn4' (by omega) Ht Hc ats.length [] [] (.slice pl l.length cl) (.slice pa ats.length ca) (.slice none 0 0) fl fa [] [] [] _ (by simp) (hl2.below' hbb) (ha2.below' hbb) (slR.nilv _ _ _ _) HF (fun j hj => by have := hllt j hj; omega) (fun j hj => by have := halt j hj; omega) (by simp) (by simp) (by simp))
    rw [hX, sumC_nil] at HE
    generalize hR : cheapX l ats = x at HE Hf
    clear hX hR HF F3 R2 F2
    go_wp2_with (go_at_call 29; refine HE.out.mono ?_; rintro e w5 ⟨rfl, fst5, fb5, HF5, _, _, hb5⟩; obtain ⟨ps5, pb5, cs5, cb5, ds5, F5, _, S5, hnil5, _, _, _, _, _, _, _, _, _, _, hfr5⟩ := (id HF5); obtain ⟨⟨d0, d1, d2, d3, d4⟩, _⟩ := (id F5); have hneq := fun (w : World) => (run_neq_nil (P := Tryz.prog) w 29 65 pb5 x.length cb5 Tryz.underlying29).trans (by rw [hnil5]))
    have hb25 := (hbb.mono (Nat.le_refl _)).trans hb5
    go_wp2_with fail
    go_quiet (fail)
    (try go_wp2_with fail)
    go_ret3
    rw [Hf.out]
    exact ChpE.mk (.slice pb5 x.length cb5) fb5 (by
      show Ending.returned (.tuple #[.slice pb5 x.length cb5, .int .i64 (sumC l x), .bool _]) = Ending.returned (.tuple #[.slice pb5 x.length cb5, .int .i64 (sumC l x), .bool (decide ((0 : Int) < (x.length : Int)))])
      cases x <;> simp) (S5.below' (bdn (Below.refl _ _))) (hfr5.mono hz2) (bt hb0 (bt hb2 (bdn hb25)))
end Go.Proofs.YtpdmdfkcaabnaaaGreat
