/- MatchesOf, of the reference and of the program. Condition: sizes up to 2^20. -/
import Derived.Test.YtjjkfhjkfoikbaaDel
import Derived.Test.YtjjkfhjkfoikbaaAreFacts
import Derived.Test.YtjjkfhjkfoikbaaIsAccess
import Derived.Deep.RegionHeld3
namespace Go.Proofs.Ytjjkfhjkfoikbaa
open Go.RowKit
set_option linter.unusedVariables false
set_option linter.unusedSimpArgs false
theorem matchesL_no1 {s : List Int} {l : List MethD} {fa : List FactD} {a : AccD} (h : accB s l a = false) : matchesL s l fa a = [] := by unfold matchesL; rw [h]; rfl
theorem matchesL_no2 {s : List Int} {l : List MethD} {fa : List FactD} {a : AccD} (h : factsB s fa = false) : matchesL s l fa a = [] := by unfold matchesL; rw [h]; simp
theorem matchesL_yes {s : List Int} {l : List MethD} {fa : List FactD} {vals : List Int} {q : Nat} (hq : q < l.length) (h : accB s l ⟨q, vals⟩ = true) (h2 : factsB s fa = true) : matchesL s l fa ⟨q, vals⟩ = fa.filter (fitB l[q] vals) := by
  unfold matchesL; rw [h, h2, methAt_nat hq]; rfl

set_option maxRecDepth 100000 in
set_option maxHeartbeats 3200000 in
theorem specMatchesOf_any (vs : Value) (s : List Int) (fs : List Nat) (vl : Value) (l : List MethD) (fl : List Nat) (vf : Value) (fa : List FactD) (ff : List Nat) (x : AccD) (vx : Value) (fx : List Nat) (w : World) (hs : ints w vs s fs) (hl : meths w vl l fl) (hf : facts w vf fa ff) (hx : ints w vx x.vals fx) (hn : fa.length ≤ 1048576) (hln : ∀ y ∈ fa, y.vals.length ≤ 1048576) :
    Calls Try.prog 60 #[vs, vl, vf, .agg #[.int .i64 x.meth, vx]] w fun e w' => ∃ v' f', e = .returned v' ∧ facts w' v' (matchesL s l fa x) f' ∧ Fresh w.heap.size f' ∧ Below w.heap.size w w' := by
  obtain ⟨m, vals⟩ := x
  obtain ⟨ps, cs, rfl⟩ := slR.form hs
  obtain ⟨pl, cl, rfl⟩ := slR.form hl
  obtain ⟨pf, cf, rfl⟩ := slR.form hf
  obtain ⟨px, cx, rfl⟩ := slR.form hx
  have hla := slR.le_max hl
  have Hln := Lib.hid hln
  have hb0 : Below w.heap.size w (w.alloc (.cells #[.int .i64 m, .slice px vals.length cx] 87)) := ba (Below.refl _ _)
  have hs0 := hs.below' hb0
  have hl0 := hl.below' hb0
  have hf0 := hf.below' hb0
  have hx0 := hx.below' hb0
  have c0 : (w.alloc (.cells #[.int .i64 m, .slice px vals.length cx] 87)).cell? ⟨w.heap.size, 0, none⟩ = some (.int .i64 m) := cell_new w _ _ 0 _ rfl
  have c1 : (w.alloc (.cells #[.int .i64 m, .slice px vals.length cx] 87)).cell? ⟨w.heap.size, 1, none⟩ = some (.slice px vals.length cx) := cell_new w _ _ 1 _ rfl
  clear hln
  cases hA : accB s l ⟨m, vals⟩ with
  | false =>
    have Hf := Lib.hid (matchesL_no1 (fa := fa) hA)
    have HIA := Lib.hid (show Calls Try.prog 98 #[.slice ps s.length cs, .slice pl l.length cl, .agg #[.int .i64 m, .slice px vals.length cx]] (w.alloc (.cells #[.int .i64 m, .slice px vals.length cx] 87)) (fun e w' => e = .returned (.bool false) ∧ Below (w.alloc (.cells #[.int .i64 m, .slice px vals.length cx] 87)).heap.size (w.alloc (.cells #[.int .i64 m, .slice px vals.length cx] 87)) w') from retBB (specIsAccess_any _ s fs _ l fl ⟨m, vals⟩ _ fx _ hs0 hl0 hx0) hA)
    go_enter Try.func60, Try.ntmps60
    go_wp2_with (first
      | (go_at_call 98; refine HIA.out.mono ?_; rintro e w2 ⟨rfl, hb2⟩; have e0 := cell_below c0 hb2; have e1 := cell_below c1 hb2))
    have hbw := bt hb0 hb2
    have hg0 := grR.lit (w := w2) (B := w.heap.size) (E := 38) (sz := 2) factR hbw.size (Nat.le_refl _)
    go_ret
    exact ⟨.slice (some ⟨w2.heap.size, 0, none⟩) 0 0, _, rfl, by rw [Hf.out]; exact hg0.sl, hg0.fresh, ba hbw⟩
  | true =>
    have HIA := Lib.hid (show Calls Try.prog 98 #[.slice ps s.length cs, .slice pl l.length cl, .agg #[.int .i64 m, .slice px vals.length cx]] (w.alloc (.cells #[.int .i64 m, .slice px vals.length cx] 87)) (fun e w' => e = .returned (.bool true) ∧ Below (w.alloc (.cells #[.int .i64 m, .slice px vals.length cx] 87)).heap.size (w.alloc (.cells #[.int .i64 m, .slice px vals.length cx] 87)) w') from retBB (specIsAccess_any _ s fs _ l fl ⟨m, vals⟩ _ fx _ hs0 hl0 hx0) hA)
    cases hF : factsB s fa with
    | false =>
      have Hf := Lib.hid (matchesL_no2 (l := l) (a := ⟨m, vals⟩) hF)
      go_enter Try.func60, Try.ntmps60
      go_wp2_with (first
        | (go_at_call 98; refine HIA.out.mono ?_; rintro e w2 ⟨rfl, hb2⟩; have e0 := cell_below c0 hb2; have e1 := cell_below c1 hb2)
        | (go_at_call 99; refine (retBB (specAreFacts_any _ s fs _ fa ff _ (hs0.below' hb2) (hf0.below' hb2)) hF).mono ?_; rintro e w3 ⟨rfl, hb3⟩; have hb23 := bt hb2 hb3; have e2 := cell_below c0 hb23; have e3 := cell_below c1 hb23))
      have hbw := bt hb0 hb23
      have hg0 := grR.lit (w := w3) (B := w.heap.size) (E := 38) (sz := 2) factR hbw.size (Nat.le_refl _)
      go_ret
      exact ⟨.slice (some ⟨w3.heap.size, 0, none⟩) 0 0, _, rfl, by rw [Hf.out]; exact hg0.sl, hg0.fresh, ba hbw⟩
    | true =>
      obtain ⟨q, hm, hq, hzz1, hzz2, hfit⟩ := fit_of hA
      clear hzz1 hzz2
      have hm' : m = (q : Int) := hm
      subst hm'
      have Hf := Lib.hid (matchesL_yes hq hA hF)
      have hH : ∀ y ∈ fa, Fit l[q] vals y := fun y hy => hfit y (factB_of_facts hF y hy)
      have HH := Lib.hid hH
      have hk0 : (0 : Int) ≤ (q : Int) := Int.natCast_nonneg _
      have hk1 : (q : Int) < (l.length : Int) := by omega
      obtain ⟨g, vi, fi, rfl, m0, m1, m2, m3, m4, hvi⟩ := hl0.get q hq
      obtain ⟨pi, ci, rfl⟩ := slR.form hvi
      have HF := Lib.hid hF
      have hIA2 := HIA.out
      clear hfit hH hm hA hF HIA
      have HIA := Lib.hid hIA2
      clear hIA2
      go_enter Try.func60, Try.ntmps60
      go_wp2_with (first
        | (go_at_call 98; refine HIA.out.mono ?_; rintro e w2 ⟨rfl, hb2⟩; have e0 := cell_below c0 hb2; have e1 := cell_below c1 hb2)
        | (go_at_call 99; refine (retBB (specAreFacts_any _ s fs _ fa ff _ (hs0.below' hb2) (hf0.below' hb2)) HF.out).mono ?_; rintro e w3 ⟨rfl, hb3⟩; have hb23 := bt hb2 hb3; have e2 := cell_below c0 hb23; have e3 := cell_below c1 hb23))
      have hb03 := bt hb0 hb23
      have uc0 : w3.cell? ⟨w.heap.size, 0, none⟩ = some (.int .i64 (q : Int)) := cell_below c0 hb23
      have uc1 : w3.cell? ⟨w.heap.size, 1, none⟩ = some (.slice px vals.length cx) := cell_below c1 hb23
      have um0 : w3.cell? ⟨g, q * 5, none⟩ = some (.int .i64 l[q].rel) := cell_below m0 hb23
      have um1 : w3.cell? ⟨g, q * 5 + 1, none⟩ = some (.slice pi l[q].inputs.length ci) := cell_below m1 hb23
      have um2 : w3.cell? ⟨g, q * 5 + 2, none⟩ = some (.int .i64 l[q].limit) := cell_below m2 hb23
      have um3 : w3.cell? ⟨g, q * 5 + 3, none⟩ = some (.int .i64 l[q].cost) := cell_below m3 hb23
      have um4 : w3.cell? ⟨g, q * 5 + 4, none⟩ = some (.int .i64 l[q].quota) := cell_below m4 hb23
      go_region_held3 (fun w' => w'.cell? ⟨w.heap.size, 0, none⟩ = some (.int .i64 (q : Int)) ∧ w'.cell? ⟨w.heap.size, 1, none⟩ = some (.slice px vals.length cx) ∧ w'.cell? ⟨g, q * 5, none⟩ = some (.int .i64 l[q].rel) ∧ w'.cell? ⟨g, q * 5 + 1, none⟩ = some (.slice pi l[q].inputs.length ci) ∧ w'.cell? ⟨g, q * 5 + 2, none⟩ = some (.int .i64 l[q].limit) ∧ w'.cell? ⟨g, q * 5 + 3, none⟩ = some (.int .i64 l[q].cost) ∧ w'.cell? ⟨g, q * 5 + 4, none⟩ = some (.int .i64 l[q].quota)) (first | exact ⟨uc0, uc1, um0, um1, um2, um3, um4⟩ | exact ⟨zc0, zc1, zm0, zm1, zm2, zm3, zm4⟩)
        (first
          | (go_at_call 100
             refine (l5Matches_any l[q] vals _ _ fi fx _ fa ff _ (hvi.below' ?_) (hx0.below' ?_) (hf0.below' ?_) HH.out hn Hln.out).mono ?_
             · (repeat (first | exact hb23 | refine bdr ?_))
             · (repeat (first | exact hb23 | refine bdr ?_))
             · (repeat (first | exact hb23 | refine bdr ?_))
             rintro e w4 ⟨v4, f4, rfl, hu4, hfr4, hb4⟩
             have D34 : Below w3.heap.size w3 w4 := bt (by (repeat (first | exact Below.refl _ _ | refine bdr ?_))) hb4
             have D4 := bt hb23 D34
             have zc0 : w4.cell? ⟨w.heap.size, 0, none⟩ = some (.int .i64 (q : Int)) := cell_below c0 D4
             have zc1 : w4.cell? ⟨w.heap.size, 1, none⟩ = some (.slice px vals.length cx) := cell_below c1 D4
             have zm0 : w4.cell? ⟨g, q * 5, none⟩ = some (.int .i64 l[q].rel) := cell_below m0 D4
             have zm1 : w4.cell? ⟨g, q * 5 + 1, none⟩ = some (.slice pi l[q].inputs.length ci) := cell_below m1 D4
             have zm2 : w4.cell? ⟨g, q * 5 + 2, none⟩ = some (.int .i64 l[q].limit) := cell_below m2 D4
             have zm3 : w4.cell? ⟨g, q * 5 + 3, none⟩ = some (.int .i64 l[q].cost) := cell_below m3 D4
             have zm4 : w4.cell? ⟨g, q * 5 + 4, none⟩ = some (.int .i64 l[q].quota) := cell_below m4 D4
             have hfr5 : Fresh w3.heap.size f4 := hfr4.mono (Nat.le_of_eq rfl)))
      have hfr6 := hfr5.mono hb03.size
      have hbf := bt hb03 D34
      have hfin : facts w4 v4 (matchesL s l fa ⟨(q : Int), vals⟩) f4 := by rw [Hf.out]; exact hu4
      go_wp2
      go_ret
      exact ⟨v4, f4, rfl, hfin, hfr6, hbf⟩
set_option maxRecDepth 100000 in
set_option maxHeartbeats 3200000 in
theorem implMatchesOf_any (vs : Value) (s : List Int) (fs : List Nat) (vl : Value) (l : List MethD) (fl : List Nat) (vf : Value) (fa : List FactD) (ff : List Nat) (x : AccD) (vx : Value) (fx : List Nat) (w : World) (hs : ints w vs s fs) (hl : meths w vl l fl) (hf : facts w vf fa ff) (hx : ints w vx x.vals fx) (hn : fa.length ≤ 1048576) (hln : ∀ y ∈ fa, y.vals.length ≤ 1048576) :
    Calls Try.prog 61 #[vs, vl, vf, .agg #[.int .i64 x.meth, vx]] w fun e w' => ∃ v' f', e = .returned v' ∧ facts w' v' (matchesL s l fa x) f' ∧ Fresh w.heap.size f' ∧ Below w.heap.size w w' := by
  obtain ⟨m, vals⟩ := x
  obtain ⟨ps, cs, rfl⟩ := slR.form hs
  obtain ⟨pl, cl, rfl⟩ := slR.form hl
  obtain ⟨pf, cf, rfl⟩ := slR.form hf
  obtain ⟨px, cx, rfl⟩ := slR.form hx
  have hla := slR.le_max hl
  have Hln := Lib.hid hln
  have hb0 : Below w.heap.size w (w.alloc (.cells #[.int .i64 m, .slice px vals.length cx] 87)) := ba (Below.refl _ _)
  have hs0 := hs.below' hb0
  have hl0 := hl.below' hb0
  have hf0 := hf.below' hb0
  have hx0 := hx.below' hb0
  have c0 : (w.alloc (.cells #[.int .i64 m, .slice px vals.length cx] 87)).cell? ⟨w.heap.size, 0, none⟩ = some (.int .i64 m) := cell_new w _ _ 0 _ rfl
  have c1 : (w.alloc (.cells #[.int .i64 m, .slice px vals.length cx] 87)).cell? ⟨w.heap.size, 1, none⟩ = some (.slice px vals.length cx) := cell_new w _ _ 1 _ rfl
  clear hln
  cases hA : accB s l ⟨m, vals⟩ with
  | false =>
    have Hf := Lib.hid (matchesL_no1 (fa := fa) hA)
    have HIA := Lib.hid (show Calls Try.prog 102 #[.slice ps s.length cs, .slice pl l.length cl, .agg #[.int .i64 m, .slice px vals.length cx]] (w.alloc (.cells #[.int .i64 m, .slice px vals.length cx] 87)) (fun e w' => e = .returned (.bool false) ∧ Below (w.alloc (.cells #[.int .i64 m, .slice px vals.length cx] 87)).heap.size (w.alloc (.cells #[.int .i64 m, .slice px vals.length cx] 87)) w') from retBB (implIsAccess_any _ s fs _ l fl ⟨m, vals⟩ _ fx _ hs0 hl0 hx0) hA)
    go_enter Try.func61, Try.ntmps61
    go_wp2_with (first
      | (go_at_call 102; refine HIA.out.mono ?_; rintro e w2 ⟨rfl, hb2⟩; have e0 := cell_below c0 hb2; have e1 := cell_below c1 hb2))
    have hbw := bt hb0 hb2
    go_ret
    exact ⟨.slice none 0 0, [], rfl, by rw [Hf.out]; exact slR.nilv _ _ _ _, Fresh.nil _, hbw⟩
  | true =>
    have HIA := Lib.hid (show Calls Try.prog 102 #[.slice ps s.length cs, .slice pl l.length cl, .agg #[.int .i64 m, .slice px vals.length cx]] (w.alloc (.cells #[.int .i64 m, .slice px vals.length cx] 87)) (fun e w' => e = .returned (.bool true) ∧ Below (w.alloc (.cells #[.int .i64 m, .slice px vals.length cx] 87)).heap.size (w.alloc (.cells #[.int .i64 m, .slice px vals.length cx] 87)) w') from retBB (implIsAccess_any _ s fs _ l fl ⟨m, vals⟩ _ fx _ hs0 hl0 hx0) hA)
    cases hF : factsB s fa with
    | false =>
      have Hf := Lib.hid (matchesL_no2 (l := l) (a := ⟨m, vals⟩) hF)
      go_enter Try.func61, Try.ntmps61
      go_wp2_with (first
        | (go_at_call 102; refine HIA.out.mono ?_; rintro e w2 ⟨rfl, hb2⟩; have e0 := cell_below c0 hb2; have e1 := cell_below c1 hb2)
        | (go_at_call 103; refine (retBB (implAreFacts_any _ s fs _ fa ff _ (hs0.below' hb2) (hf0.below' hb2)) hF).mono ?_; rintro e w3 ⟨rfl, hb3⟩; have hb23 := bt hb2 hb3; have e2 := cell_below c0 hb23; have e3 := cell_below c1 hb23))
      have hbw := bt hb0 hb23
      go_ret
      exact ⟨.slice none 0 0, [], rfl, by rw [Hf.out]; exact slR.nilv _ _ _ _, Fresh.nil _, hbw⟩
    | true =>
      obtain ⟨q, hm, hq, hzz1, hzz2, hfit⟩ := fit_of hA
      clear hzz1 hzz2
      have hm' : m = (q : Int) := hm
      subst hm'
      have Hf := Lib.hid (matchesL_yes hq hA hF)
      have hH : ∀ y ∈ fa, Fit l[q] vals y := fun y hy => hfit y (factB_of_facts hF y hy)
      have HH := Lib.hid hH
      have hk0 : (0 : Int) ≤ (q : Int) := Int.natCast_nonneg _
      have hk1 : (q : Int) < (l.length : Int) := by omega
      obtain ⟨g, vi, fi, rfl, m0, m1, m2, m3, m4, hvi⟩ := hl0.get q hq
      obtain ⟨pi, ci, rfl⟩ := slR.form hvi
      have HF := Lib.hid hF
      have hIA2 := HIA.out
      clear hfit hH hm hA hF HIA
      have HIA := Lib.hid hIA2
      clear hIA2
      go_enter Try.func61, Try.ntmps61
      go_wp2_with (first
        | (go_at_call 102; refine HIA.out.mono ?_; rintro e w2 ⟨rfl, hb2⟩; have e0 := cell_below c0 hb2; have e1 := cell_below c1 hb2)
        | (go_at_call 103; refine (retBB (implAreFacts_any _ s fs _ fa ff _ (hs0.below' hb2) (hf0.below' hb2)) HF.out).mono ?_; rintro e w3 ⟨rfl, hb3⟩; have hb23 := bt hb2 hb3; have e2 := cell_below c0 hb23; have e3 := cell_below c1 hb23)
        | (go_at_call 104; refine (matches_any l fa q vals _ _ _ fl ff fx _ (hl0.below' hb23) (hf0.below' hb23) (hx0.below' hb23) hq HH.out hn Hln.out).mono ?_; rintro e w4 ⟨v4, f4, rfl, hg4, hb4⟩))
      have hb03 := bt hb0 hb23
      have hfr6 := hg4.fresh.mono hb03.size
      have hbf := bt hb03 hb4
      have hfin : facts w4 v4 (matchesL s l fa ⟨(q : Int), vals⟩) f4 := by rw [Hf.out]; exact hg4.sl
      go_ret
      exact ⟨v4, f4, rfl, hfin, hfr6, hbf⟩
end Go.Proofs.Ytjjkfhjkfoikbaa
