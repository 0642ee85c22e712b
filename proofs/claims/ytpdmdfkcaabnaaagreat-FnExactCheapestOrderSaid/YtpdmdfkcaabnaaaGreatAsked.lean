/- l6Fine and l6Bind of the reference, areAsked of the program. Condition: not more than 2^20 terms. -/
import Derived.Test.YtpdmdfkcaabnaaaGreatOrdL
import Derived.Test.YtpdmdfkcaabnaaaGreatVarsSpec
import Derived.Test.YtpdmdfkcaabnaaaGreatIsMeth
import Derived.Test.YtpdmdfkcaabnaaaGreatCopy
import Derived.Test.YtpdmdfkcaabnaaaGreatLat
namespace Go.Proofs.YtpdmdfkcaabnaaaGreat
open Go.RowKit
set_option linter.unusedVariables false
set_option linter.unusedSimpArgs false
set_option maxRecDepth 100000 in
set_option maxHeartbeats 1600000 in
theorem l6Fine_any (vs : Value) (s : List Int) (fs : List Nat) (vl : Value) (l : List MethD) (fl : List Nat) (q : QueryD) (vh : Value) (fh : List Nat) (va : Value) (fa : List Nat) (w : World) (hs : ints w vs s fs) (hl : meths w vl l fl) (hh : ints w vh q.head fh) (ha : atoms w va q.atoms fa) (hn : (termsL q.atoms).length ≤ 1048576) :
    Calls Tryz.prog 23 #[vs, vl, .agg #[vh, va]] w fun e w' => e = .returned (.bool (askedB s l q)) ∧ Below w.heap.size w w' := by
  have Hn := Lib.hid hn
  clear hn
  obtain ⟨ps, cs, rfl⟩ := slR.form hs
  obtain ⟨pl, cl, rfl⟩ := slR.form hl
  obtain ⟨ph, ch, rfl⟩ := slR.form hh
  obtain ⟨pa, ca, rfl⟩ := slR.form ha
  have hb0 : Below w.heap.size w (w.alloc (.cells #[.slice ph q.head.length ch, .slice pa q.atoms.length ca] 37)) := ba (Below.refl _ _)
  have hs0 := hs.below' hb0
  have hl0 := hl.below' hb0
  have hh0 := hh.below' hb0
  have ha0 := ha.below' hb0
  have c0 : (w.alloc (.cells #[.slice ph q.head.length ch, .slice pa q.atoms.length ca] 37)).cell? ⟨w.heap.size, 0, none⟩ = some (.slice ph q.head.length ch) := cell_new w _ _ 0 _ rfl
  have c1 : (w.alloc (.cells #[.slice ph q.head.length ch, .slice pa q.atoms.length ca] 37)).cell? ⟨w.heap.size, 1, none⟩ = some (.slice pa q.atoms.length ca) := cell_new w _ _ 1 _ rfl
  cases hm : methsB s l with
  | false =>
    have Hf := Lib.hid (show askedB s l q = false by unfold askedB; rw [hm]; rfl)
    go_enter Tryz.func23, Tryz.ntmps23
    go_wp2_with (go_at_call 35; refine (retBB (specAreMethods_any _ s fs _ l fl _ hs0 hl0) hm).mono ?_; rintro e w2 ⟨rfl, hb2⟩)
    go_ret
    exact ⟨ret_bool (by rw [Hf.out]), bt hb0 hb2⟩
  | true =>
    have Hf := Lib.hid (show askedB s l q = queryB s q by unfold askedB; rw [hm]; rfl)
    generalize hR : queryB s q = R at Hf
    go_enter Tryz.func23, Tryz.ntmps23
    go_wp2_with (first
      | (go_at_call 35; refine (retBB (specAreMethods_any _ s fs _ l fl _ hs0 hl0) hm).mono ?_; rintro e w2 ⟨rfl, hb2⟩; have e0 := cell_below c0 hb2; have e1 := cell_below c1 hb2)
      | (go_at_call 36; refine (retBB (specIsQuery_any _ s fs q _ fh _ fa _ (hs0.below' hb2) (hh0.below' hb2) (ha0.below' hb2) Hn.out) hR).mono ?_; rintro e w3 ⟨rfl, hb3⟩; have hb23 := bt hb2 hb3))
    go_ret
    exact ⟨ret_bool (by rw [Hf.out]), bt hb0 hb23⟩
set_option maxRecDepth 100000 in
set_option maxHeartbeats 1600000 in
theorem areAsked_any (vs : Value) (s : List Int) (fs : List Nat) (vl : Value) (l : List MethD) (fl : List Nat) (q : QueryD) (vh : Value) (fh : List Nat) (va : Value) (fa : List Nat) (w : World) (hs : ints w vs s fs) (hl : meths w vl l fl) (hh : ints w vh q.head fh) (ha : atoms w va q.atoms fa) (hn : (termsL q.atoms).length ≤ 1048576) :
    Calls Tryz.prog 28 #[vs, vl, .agg #[vh, va]] w fun e w' => e = .returned (.bool (askedB s l q)) ∧ Below w.heap.size w w' := by
  have Hn := Lib.hid hn
  clear hn
  obtain ⟨ps, cs, rfl⟩ := slR.form hs
  obtain ⟨pl, cl, rfl⟩ := slR.form hl
  obtain ⟨ph, ch, rfl⟩ := slR.form hh
  obtain ⟨pa, ca, rfl⟩ := slR.form ha
  have hb0 : Below w.heap.size w (w.alloc (.cells #[.slice ph q.head.length ch, .slice pa q.atoms.length ca] 37)) := ba (Below.refl _ _)
  have hs0 := hs.below' hb0
  have hl0 := hl.below' hb0
  have hh0 := hh.below' hb0
  have ha0 := ha.below' hb0
  have c0 : (w.alloc (.cells #[.slice ph q.head.length ch, .slice pa q.atoms.length ca] 37)).cell? ⟨w.heap.size, 0, none⟩ = some (.slice ph q.head.length ch) := cell_new w _ _ 0 _ rfl
  have c1 : (w.alloc (.cells #[.slice ph q.head.length ch, .slice pa q.atoms.length ca] 37)).cell? ⟨w.heap.size, 1, none⟩ = some (.slice pa q.atoms.length ca) := cell_new w _ _ 1 _ rfl
  cases hm : methsB s l with
  | false =>
    have Hf := Lib.hid (show askedB s l q = false by unfold askedB; rw [hm]; rfl)
    go_enter Tryz.func28, Tryz.ntmps28
    go_wp2_with (go_at_call 41; refine (retBB (implAreMethods_any _ s fs _ l fl _ hs0 hl0) hm).mono ?_; rintro e w2 ⟨rfl, hb2⟩)
    go_ret
    exact ⟨ret_bool (by rw [Hf.out]), bt hb0 hb2⟩
  | true =>
    have Hf := Lib.hid (show askedB s l q = queryB s q by unfold askedB; rw [hm]; rfl)
    generalize hR : queryB s q = R at Hf
    go_enter Tryz.func28, Tryz.ntmps28
    go_wp2_with (first
      | (go_at_call 41; refine (retBB (implAreMethods_any _ s fs _ l fl _ hs0 hl0) hm).mono ?_; rintro e w2 ⟨rfl, hb2⟩; have e0 := cell_below c0 hb2; have e1 := cell_below c1 hb2)
      | (go_at_call 42; refine (retBB (implIsQuery_any _ s fs q _ fh _ fa _ (hs0.below' hb2) (hh0.below' hb2) (ha0.below' hb2) Hn.out) hR).mono ?_; rintro e w3 ⟨rfl, hb3⟩; have hb23 := bt hb2 hb3))
    go_ret
    exact ⟨ret_bool (by rw [Hf.out]), bt hb0 hb23⟩
set_option maxRecDepth 100000 in
set_option maxHeartbeats 1600000 in
theorem l6Bind_any (vb : Value) (bound : List Int) (fb : List Nat) (a : AtomD) (vt : Value) (ft : List Nat) (w : World) (hb : ints w vb bound fb) (ht : ints w vt a.terms ft) (hn : bound.length ≤ 1000000) (hn2 : a.terms.length ≤ 1000000) :
    Calls Tryz.prog 38 #[vb, .agg #[.int .i64 a.rel, vt]] w fun e w' => ∃ v' f', e = .returned v' ∧ ints w' v' (bindL bound a.terms) f' ∧ Fresh w.heap.size f' ∧ Below w.heap.size w w' := by
  obtain ⟨pb, cb, rfl⟩ := slR.form hb
  obtain ⟨pt, ct, rfl⟩ := slR.form ht
  have hb0 : Below w.heap.size w (w.alloc (.cells #[.int .i64 a.rel, .slice pt a.terms.length ct] 75)) := ba (Below.refl _ _)
  have hbd := hb.below' hb0
  have htm := ht.below' hb0
  have c0 : (w.alloc (.cells #[.int .i64 a.rel, .slice pt a.terms.length ct] 75)).cell? ⟨w.heap.size, 0, none⟩ = some (.int .i64 a.rel) := cell_new w _ _ 0 _ rfl
  have c1 : (w.alloc (.cells #[.int .i64 a.rel, .slice pt a.terms.length ct] 75)).cell? ⟨w.heap.size, 1, none⟩ = some (.slice pt a.terms.length ct) := cell_new w _ _ 1 _ rfl
  obtain ⟨w1, hw1⟩ : ∃ w1, w1 = (w.alloc (.cells #[.int .i64 a.rel, .slice pt a.terms.length ct] 75)) := ⟨_, rfl⟩
  rw [← hw1] at hb0 hbd htm c0 c1
  have hsz : w1.heap.size = w.heap.size + 1 := by rw [hw1]; simp only [World.alloc, Array.size_push]
  have HW1 := Lib.hid hw1
  clear hw1
  go_enter Tryz.func38, Tryz.ntmps38
  go_wp2_with (at_builtin; rw [← HW1.out]; refine wpList_copy_ints slInt rfl _ _ rfl (by rw [hsz]; rfl) _ bound fb rfl hbd (by omega) ?_; intro u1 w2 f1 hu1 hfr1 hb2; obtain ⟨p1, q1, rfl⟩ := slR.form hu1; have e1 := cell_below c1 hb2)
  have hb02 := bt hb0 hb2
  go_loopw [5, 6] (fun u i wr => ∃ (k : Nat) (lo : List Int) (fo : List Nat), i = .int .i64 k ∧ k ≤ a.terms.length ∧ ints wr u lo fo ∧ Hid (lo = bindL bound (a.terms.take k)) ∧ Hid (Fresh w.heap.size fo) ∧ Below w2.heap.size w2 wr) (fun _ i _ => a.terms.length - (intOf i).toNat)
  case atStart => exact ⟨0, bound, f1, rfl, Nat.zero_le _, hu1, Lib.hid rfl, Lib.hid (hfr1.mono hb0.size), Below.refl _ _⟩
  case round =>
    obtain ⟨k, lo, fo, rfl, hk, hlo, Hlo, Hfr, hbel⟩ := hrel
    obtain ⟨ao, co, rfl⟩ := slR.form hlo
    have d1 := cell_below e1 hbel
    have hll : lo.length ≤ 2000000 := by
      have h1 := bindL_length (a.terms.take k) bound
      rw [← Hlo.out, List.length_take] at h1
      omega
    by_cases hlt : k < a.terms.length
    · obtain ⟨g, hg, hc, _, hI, _⟩ := ((htm.below' hb2).below' hbel).get k hlt
      subst hg
      have hkl : (k : Int) < (a.terms.length : Int) := by omega
      cases hv : isVarB a.terms[k] with
      | false =>
        have HN := Lib.hid (show lo = bindL bound (a.terms.take (k + 1)) by rw [bindL_no hlt hv]; exact Hlo.out)
        go_wp2_with (go_at_call 52; refine (retB (f52_any _ _) hv).mono ?_; rintro e w3 ⟨rfl, rfl⟩)
        go_roundw
        case rel => exact ⟨k + 1, lo, fo, by go_num, by omega, hlo, HN, Hfr, hbel⟩
        case measure => simp [intOf]; omega
      | true =>
        have HN := Lib.hid (show putL lo a.terms[k] = bindL bound (a.terms.take (k + 1)) by rw [bindL_yes hlt hv, ← Hlo.out])
        go_wp2_with (first
          | (go_at_call 52; refine (retB (f52_any _ _) hv).mono ?_; rintro e w3 ⟨rfl, rfl⟩)
          | (go_at_call 53; refine (l3PutF_any _ lo fo a.terms[k] _ hlo hI (by omega)).mono ?_; rintro e w4 ⟨v4, f4, rfl, ⟨hu4, hf4⟩, hb4⟩))
        have hbel4 := bt hbel hb4
        have hnd4 : f4.Nodup := by
          obtain ⟨o, _, ho, _⟩ := row_of_ints hu4
          rw [ho]; cases o <;> simp
        have HF4 := Lib.hid (show Fresh w.heap.size f4 from ⟨hnd4, fun g hg => (hf4 g hg).elim (Hfr.out.2 g) (fun h => Nat.le_trans (bt hb02 hbel).size h)⟩)
        rw [HN.out] at hu4
        go_roundw
        case rel => exact ⟨k + 1, _, f4, by go_num, by omega, hu4, Lib.hid rfl, HF4, hbel4⟩
        case measure => simp [intOf]; omega
    · have hkl : k = a.terms.length := by omega
      have hfin : ints wr (.slice ao lo.length co) (bindL bound a.terms) fo := by
        have : lo = bindL bound a.terms := by rw [Hlo.out, hkl, List.take_length]
        rw [← this]; exact hlo
      have hbf := bt hb02 hbel
      clear hkl
      go_wp2
      go_ret
      have hfr := Hfr.out
      first | exact ⟨.slice ao lo.length co, fo, rfl, hfin, hfr, hbf⟩ | exact ⟨.slice ao lo.length co, rfl, ⟨fo, hfin, hfr⟩, hbf⟩ | exact ⟨.slice ao lo.length co, rfl, fo, hfin, hfr, hbf⟩
end Go.Proofs.YtpdmdfkcaabnaaaGreat
