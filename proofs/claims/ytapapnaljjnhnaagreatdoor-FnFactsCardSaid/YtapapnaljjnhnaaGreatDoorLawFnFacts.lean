/- The walk of the law FnFacts: it returns true, whatever the input. Condition: what the library's own variables hold. -/
import Derived.Test.YtapapnaljjnhnaaGreatDoorDrawJ
import Derived.Test.YtapapnaljjnhnaaGreatDoorParFI
import Derived.Test.YtapapnaljjnhnaaGreatDoorAddI
import Derived.Test.YtapapnaljjnhnaaGreatDoorAreFacts
import Derived.Test.YtapapnaljjnhnaaGreatDoorSameF
import Derived.Test.YtapapnaljjnhnaaGreatDoorMC
import Derived.Deep.Cut
namespace Go.Proofs.YtapapnaljjnhnaaGreatDoor
open Go.RowKit
set_option linter.unusedVariables false
set_option linter.unusedSimpArgs false
theorem bigF_any (b : Option Addr) (n cap : Nat) (w : World) : Calls Tryz.prog 6 #[.slice b n cap] w fun e w' => e = .returned (.bool (decide ((1048576 : Int) < (n : Int)))) ∧ w = w' := by
  go_enter Tryz.func6, Tryz.ntmps6
  go_wp2
  go_ret
  exact ⟨rfl, rfl⟩
theorem btoi_any (b : Bool) (w : World) : Calls Tryz.prog 62 #[.bool b] w fun e w' => e = .returned (.int .i64 (if b then 1 else 0)) ∧ Below w.heap.size w w' := by
  cases b <;> · go_enter Tryz.func62, Tryz.ntmps62
                go_wp2
                go_ret
                exact ⟨rfl, Below.refl _ _⟩
theorem retBL {P : Program} {f : FuncId} {args : Array Value} {w : World} {b c : Bool} {Q : World → Prop} (h : Calls P f args w fun e w' => e = .returned (.bool b) ∧ Q w') (hb : b = c) : Calls P f args w fun e w' => e = .returned (.bool c) ∧ Q w' := hb ▸ h
theorem retSL {P : Program} {f : FuncId} {args : Array Value} {w : World} {b c : ByteArray} {Q : World → Prop} (h : Calls P f args w fun e w' => e = .returned (.string b) ∧ Q w') (hb : b = c) : Calls P f args w fun e w' => e = .returned (.string c) ∧ Q w' := hb ▸ h
theorem retIL {P : Program} {f : FuncId} {args : Array Value} {w : World} {b c : Int} {Q : World → Prop} (h : Calls P f args w fun e w' => e = .returned (.int .i64 b) ∧ Q w') (hb : b = c) : Calls P f args w fun e w' => e = .returned (.int .i64 c) ∧ Q w' := hb ▸ h
theorem cmpFact_bd (a b : FactD) : -1 ≤ cmpFact a b ∧ cmpFact a b ≤ 1 := by
  unfold cmpFact
  split
  · rcases cmpL_vals a.vals b.vals with h | h | h <;> omega
  · rcases cmpI_vals a.rel b.rel with h | h | h <;> omega
theorem factFS_small {x : FactD} {w : World} {v : Value} {f : List Nat} (hx : ints w v x.vals f) : (factFS x).length ≤ 200 := by
  cases h : factFB x with
  | false => rw [factFS_no h]; simp
  | true =>
    rw [factFS_yes h]
    have hI : ∀ y ∈ x.vals, I64 y := by obtain ⟨_, _, _, hw⟩ := row_of_ints hx; exact hw
    unfold factFB at h
    simp only [Bool.and_eq_true] at h
    obtain ⟨⟨h1, h2⟩, _⟩ := h
    have h3 := itoa_le (inR_i64 h1 (by omega) (by omega))
    have h4 := inR_true h2
    have h5 := listS_len [44] hI
    have h6 : x.vals.length * (21 + [(44 : UInt8)].length) ≤ 3 * 22 := Nat.mul_le_mul (by omega) (by simp)
    simp only [List.length_cons, List.length_append, List.length_nil]
    omega
set_option maxRecDepth 100000 in
set_option maxHeartbeats 12800000 in
theorem fnFacts_walk (v : Value) (l : List Int) (w : World) (g0 : bytesV w v l) (hT : LibW w) :
    Calls Tryz.prog 5 #[v] w fun e w' => e = .returned (.bool true) ∧ Below w.heap.size w w' := by
  obtain ⟨b, cap, rfl⟩ := slW.form g0
  have HLW := Lib.hid hT
  clear hT
  by_cases hn : l.length ≤ 1048576
  case neg =>
    have hni : (1048576 : Int) < (l.length : Int) := by omega
    go_enter Tryz.func5, Tryz.ntmps5
    go_wp2_with (go_at_call 6; refine (bigF_any _ _ _ _).mono ?_; rintro e w' ⟨rfl, rfl⟩)
    go_ret
    exact ⟨rfl, Below.refl _ _⟩
  have hni : ¬ (1048576 : Int) < (l.length : Int) := by omega
  go_enter Tryz.func5, Tryz.ntmps5
  go_wp2_with (go_at_call 6; refine (bigF_any _ _ _ _).mono ?_; rintro e w' ⟨rfl, rfl⟩)
  go_wp2_with fail
  refine (DrawAddFact_any b cap l _ g0 hn).mono ?_
  rintro e w1 ⟨v1, fl, f1, x, vx, fx, rfl, hfl, ⟨hfn, hfv⟩, hxr, hx, hxn, hb1⟩
  have D1 : Below w.heap.size w w1 := bt (by (repeat (first | exact (Below.refl _ _) | exact Below.refl _ _ | refine ba ?_ | refine bdr ?_ | refine bs ?_ (by omega))); done) hb1
  obtain ⟨p1, q1, rfl⟩ := slR.form hfl
  obtain ⟨px, qx, rfl⟩ := slR.form hx
  go_wp2_with fail
  refine (implAddFact_any _ fl f1 x _ fx _ (hfl.below' (by (repeat (first | exact (Below.refl _ _) | exact Below.refl _ _ | refine ba ?_ | refine bdr ?_ | refine bs ?_ (by omega))); done)) (hx.below' (by (repeat (first | exact (Below.refl _ _) | exact Below.refl _ _ | refine ba ?_ | refine bdr ?_ | refine bs ?_ (by omega))); done)) hxr (by omega) (fun y hy => by have := hfv y hy; omega) (by omega)).mono ?_
  rintro e w2 ⟨v2, f2, rfl, hl2, hfr2, hb2⟩
  have D2 : Below w1.heap.size w1 w2 := bt (by (repeat (first | exact (Below.refl _ _) | exact Below.refl _ _ | refine ba ?_ | refine bdr ?_ | refine bs ?_ (by omega))); done) hb2
  have b4b0 : w2.cell? ⟨w1.heap.size, 0, none⟩ = some (.int .i64 x.rel) := cell_below (by first | exact cell_new _ _ _ 0 _ rfl | exact cell_al (cell_new _ _ _ 0 _ rfl) _ | exact cell_at _ _ (by simp only [World.alloc, Array.size_push]) _ _ 0 _ rfl) hb2
  have b4b1 : w2.cell? ⟨w1.heap.size, 1, none⟩ = some (.slice px x.vals.length qx) := cell_below (by first | exact cell_new _ _ _ 1 _ rfl | exact cell_al (cell_new _ _ _ 1 _ rfl) _ | exact cell_at _ _ (by simp only [World.alloc, Array.size_push]) _ _ 1 _ rfl) hb2
  obtain ⟨p2, q2, rfl⟩ := slR.form hl2
  obtain ⟨r, hr⟩ : ∃ r, r = hasFactB fl x := ⟨_, rfl⟩
  have hz : ∃ z : Int, (if (!r) = true then (1 : Int) else 0) = z ∧ (0 ≤ z ∧ z ≤ 1) ∧ ((addFactL fl x).length : Int) = (fl.length : Int) + z := by
    refine ⟨_, rfl, ?_, ?_⟩
    · split <;> omega
    · rw [addFact_length, ← hr]; cases r <;> simp
  obtain ⟨z, hz1, ⟨hz2, hz3⟩, hz4⟩ := hz
  have hlen : (((addFactL fl x).length : Int) != (fl.length : Int) + z) = false := by rw [hz4]; simp
  have hrr : (r != r) = false := by simp
  have HA := Lib.hid (addFact_has fl x)
  have Hr := Lib.hid hr
  have Hz1 := Lib.hid hz1
  have hwr : IntKind.i64.wrap ((fl.length : Int) + z) = (fl.length : Int) + z := IntWalk.i64_in _ (by omega)
  clear hr hz1 hz4
  generalize hAL : addFactL fl x = al at *
  have hal := Lib.hid hAL
  clear hAL
  have b4c0 : w2.cell? ⟨w1.heap.size, 0, none⟩ = some (.int .i64 x.rel) := cell_below b4b0 (Below.refl _ _)
  have b4c1 : w2.cell? ⟨w1.heap.size, 1, none⟩ = some (.slice px x.vals.length qx) := cell_below b4b1 (Below.refl _ _)
  go_upto_region 5 with fail
  go_cut [61] from 18 (fun s61 wr => s61 = .bool false ∧ Below w2.heap.size w2 wr)
  case first => as_aux_lemma =>
    go_region_held3 (fun w' => w'.cell? ⟨w1.heap.size, 0, none⟩ = some (.int .i64 x.rel) ∧ w'.cell? ⟨w1.heap.size, 1, none⟩ = some (.slice px x.vals.length qx)) (first | exact ⟨b4c0, b4c1⟩ | exact ⟨k30, k31⟩ | exact ⟨k40, k41⟩ | exact ⟨k50, k51⟩ | exact ⟨k60, k61⟩ | exact ⟨k70, k71⟩ | exact ⟨k80, k81⟩ | exact ⟨k90, k91⟩)
      (first
        | (go_at_call 62
           refine (retIL (btoi_any (!r) _) Hz1.out).mono ?_
           rintro e w9 ⟨rfl, hb9⟩
           have D9 : Below w8.heap.size w8 w9 := bt (by (repeat (first | exact (Below.refl _ _) | exact Below.refl _ _ | refine ba ?_ | refine bdr ?_ | refine bs ?_ (by omega))); done) hb9
           have k90 : w9.cell? ⟨w1.heap.size, 0, none⟩ = some (.int .i64 x.rel) := cell_below b4c0 (bt (bt (bt (bt (bt (bt D3 D4) D5) D6) D7) D8) D9)
           have k91 : w9.cell? ⟨w1.heap.size, 1, none⟩ = some (.slice px x.vals.length qx) := cell_below b4c1 (bt (bt (bt (bt (bt (bt D3 D4) D5) D6) D7) D8) D9))
        | (go_at_call 61
           have gg := D7
           refine (retBL (specHasFact_any _ fl f1 x _ fx _ (hfl.below' (by (repeat (first | exact (bt (bt (bt (bt (bt D2 D3) D4) D5) D6) D7) | exact Below.refl _ _ | refine ba ?_ | refine bdr ?_ | refine bs ?_ (by omega))); done)) (hx.below' (by (repeat (first | exact (bt (bt (bt (bt (bt D2 D3) D4) D5) D6) D7) | exact Below.refl _ _ | refine ba ?_ | refine bdr ?_ | refine bs ?_ (by omega))); done))) Hr.out.symm).mono ?_
           rintro e w8 ⟨rfl, hb8⟩
           have D8 : Below w7.heap.size w7 w8 := bt (by (repeat (first | exact (Below.refl _ _) | exact Below.refl _ _ | refine ba ?_ | refine bdr ?_ | refine bs ?_ (by omega))); done) hb8
           have k80 : w8.cell? ⟨w1.heap.size, 0, none⟩ = some (.int .i64 x.rel) := cell_below b4c0 (bt (bt (bt (bt (bt D3 D4) D5) D6) D7) D8)
           have k81 : w8.cell? ⟨w1.heap.size, 1, none⟩ = some (.slice px x.vals.length qx) := cell_below b4c1 (bt (bt (bt (bt (bt D3 D4) D5) D6) D7) D8))
        | (go_at_call 61
           have gg := D6
           refine (retBL (specHasFact_any _ fl f1 x _ fx _ (hfl.below' (by (repeat (first | exact (bt (bt (bt (bt D2 D3) D4) D5) D6) | exact Below.refl _ _ | refine ba ?_ | refine bdr ?_ | refine bs ?_ (by omega))); done)) (hx.below' (by (repeat (first | exact (bt (bt (bt (bt D2 D3) D4) D5) D6) | exact Below.refl _ _ | refine ba ?_ | refine bdr ?_ | refine bs ?_ (by omega))); done))) Hr.out.symm).mono ?_
           rintro e w7 ⟨rfl, hb7⟩
           have D7 : Below w6.heap.size w6 w7 := bt (by (repeat (first | exact (Below.refl _ _) | exact Below.refl _ _ | refine ba ?_ | refine bdr ?_ | refine bs ?_ (by omega))); done) hb7
           have k70 : w7.cell? ⟨w1.heap.size, 0, none⟩ = some (.int .i64 x.rel) := cell_below b4c0 (bt (bt (bt (bt D3 D4) D5) D6) D7)
           have k71 : w7.cell? ⟨w1.heap.size, 1, none⟩ = some (.slice px x.vals.length qx) := cell_below b4c1 (bt (bt (bt (bt D3 D4) D5) D6) D7))
        | (go_at_call 60
           have gg := D5
           refine (retBL (implHasFact_any _ fl f1 x _ fx _ (hfl.below' (by (repeat (first | exact (bt (bt (bt D2 D3) D4) D5) | exact Below.refl _ _ | refine ba ?_ | refine bdr ?_ | refine bs ?_ (by omega))); done)) (hx.below' (by (repeat (first | exact (bt (bt (bt D2 D3) D4) D5) | exact Below.refl _ _ | refine ba ?_ | refine bdr ?_ | refine bs ?_ (by omega))); done))) Hr.out.symm).mono ?_
           rintro e w6 ⟨rfl, hb6⟩
           have D6 : Below w5.heap.size w5 w6 := bt (by (repeat (first | exact (Below.refl _ _) | exact Below.refl _ _ | refine ba ?_ | refine bdr ?_ | refine bs ?_ (by omega))); done) hb6
           have k60 : w6.cell? ⟨w1.heap.size, 0, none⟩ = some (.int .i64 x.rel) := cell_below b4c0 (bt (bt (bt D3 D4) D5) D6)
           have k61 : w6.cell? ⟨w1.heap.size, 1, none⟩ = some (.slice px x.vals.length qx) := cell_below b4c1 (bt (bt (bt D3 D4) D5) D6))
        | (go_at_call 60
           have gg := D4
           refine (retBL (implHasFact_any _ al f2 x _ fx _ (hl2.below' (by (repeat (first | exact (bt D3 D4) | exact Below.refl _ _ | refine ba ?_ | refine bdr ?_ | refine bs ?_ (by omega))); done)) (hx.below' (by (repeat (first | exact (bt (bt D2 D3) D4) | exact Below.refl _ _ | refine ba ?_ | refine bdr ?_ | refine bs ?_ (by omega))); done))) HA.out).mono ?_
           rintro e w5 ⟨rfl, hb5⟩
           have D5 : Below w4.heap.size w4 w5 := bt (by (repeat (first | exact (Below.refl _ _) | exact Below.refl _ _ | refine ba ?_ | refine bdr ?_ | refine bs ?_ (by omega))); done) hb5
           have k50 : w5.cell? ⟨w1.heap.size, 0, none⟩ = some (.int .i64 x.rel) := cell_below b4c0 (bt (bt D3 D4) D5)
           have k51 : w5.cell? ⟨w1.heap.size, 1, none⟩ = some (.slice px x.vals.length qx) := cell_below b4c1 (bt (bt D3 D4) D5))
        | (go_at_call 10
           refine (retBL (specSameFacts_any _ _ al al f2 f3 _ (hl2.below' (by (repeat (first | exact D3 | exact Below.refl _ _ | refine ba ?_ | refine bdr ?_ | refine bs ?_ (by omega))); done)) (hl3.below' (by (repeat (first | exact (Below.refl _ _) | exact Below.refl _ _ | refine ba ?_ | refine bdr ?_ | refine bs ?_ (by omega))); done))) (decide_eq_true rfl)).mono ?_
           rintro e w4 ⟨rfl, hb4⟩
           have D4 : Below w3.heap.size w3 w4 := bt (by (repeat (first | exact (Below.refl _ _) | exact Below.refl _ _ | refine ba ?_ | refine bdr ?_ | refine bs ?_ (by omega))); done) hb4
           have k40 : w4.cell? ⟨w1.heap.size, 0, none⟩ = some (.int .i64 x.rel) := cell_below b4c0 (bt D3 D4)
           have k41 : w4.cell? ⟨w1.heap.size, 1, none⟩ = some (.slice px x.vals.length qx) := cell_below b4c1 (bt D3 D4))
        | (go_at_call 59
           refine (specAddFact_any _ fl f1 x _ fx _ (hfl.below' (by (repeat (first | exact D2 | exact Below.refl _ _ | refine ba ?_ | refine bdr ?_ | refine bs ?_ (by omega))); done)) (hx.below' (by (repeat (first | exact D2 | exact Below.refl _ _ | refine ba ?_ | refine bdr ?_ | refine bs ?_ (by omega))); done)) hxr (by omega) (fun y hy => by have := hfv y hy; omega) (by omega)).mono ?_
           rintro e w3 ⟨v3, f3, rfl, hl3, hfr3, hb3⟩
           rw [hal.out] at hl3
           obtain ⟨p3, q3, rfl⟩ := slR.form hl3
           have D3 : Below w2.heap.size w2 w3 := bt (by (repeat (first | exact (Below.refl _ _) | exact Below.refl _ _ | refine ba ?_ | refine bdr ?_ | refine bs ?_ (by omega))); done) hb3
           have k30 : w3.cell? ⟨w1.heap.size, 0, none⟩ = some (.int .i64 x.rel) := cell_below b4c0 D3
           have k31 : w3.cell? ⟨w1.heap.size, 1, none⟩ = some (.slice px x.vals.length qx) := cell_below b4c1 D3))
    all_goals (try go_wp2_with fail)
    all_goals go_meet
    all_goals exact ⟨rfl, (bt (bt (bt (bt (bt (bt D3 D4) D5) D6) D7) D8) D9)⟩
  case rest =>
  obtain ⟨rfl, D3⟩ := hcut
  obtain ⟨w3, ew⟩ : ∃ x, x = wc := ⟨_, rfl⟩
  subst ew
  clear hwr hlen hrr hz2 hz3 Hz1 Hr HA hal hxn hfn hfv
  go_wp2_with fail
  refine (DrawCompareFacts_any b cap l _ (g0.below' (by (repeat (first | exact (bt (bt D1 D2) D3) | exact Below.refl _ _ | refine ba ?_ | refine bdr ?_ | refine bs ?_ (by omega))); done)) hn).mono ?_
  rintro e w4 ⟨a, va, fa, c, vc, fc, rfl, hai, ha, han, hci, hc, hcn, hb4⟩
  have D4 : Below w3.heap.size w3 w4 := bt (by (repeat (first | exact (Below.refl _ _) | exact Below.refl _ _ | refine ba ?_ | refine bdr ?_ | refine bs ?_ (by omega))); done) hb4
  obtain ⟨pa, qa, rfl⟩ := slR.form ha
  obtain ⟨pc, qc, rfl⟩ := slR.form hc
  go_wp2_with fail
  refine (DrawIsFact_any b cap l _ (g0.below' (by (repeat (first | exact (bt (bt (bt D1 D2) D3) D4) | exact Below.refl _ _ | refine ba ?_ | refine bdr ?_ | refine bs ?_ (by omega))); done)) hn).mono ?_
  rintro e w5 ⟨sv, s, fs, gx, vg, fg, rfl, hs, hsn, hgr, hg, hgn, hb5⟩
  have D5 : Below w4.heap.size w4 w5 := bt (by (repeat (first | exact (Below.refl _ _) | exact Below.refl _ _ | refine ba ?_ | refine bdr ?_ | refine bs ?_ (by omega))); done) hb5
  have b6b0 : w5.cell? ⟨w4.heap.size, 0, none⟩ = some (.int .i64 a.rel) := cell_below (by first | exact cell_new _ _ _ 0 _ rfl | exact cell_al (cell_new _ _ _ 0 _ rfl) _ | exact cell_at _ _ (by simp only [World.alloc, Array.size_push]) _ _ 0 _ rfl) hb5
  have b6b1 : w5.cell? ⟨w4.heap.size, 1, none⟩ = some (.slice pa a.vals.length qa) := cell_below (by first | exact cell_new _ _ _ 1 _ rfl | exact cell_al (cell_new _ _ _ 1 _ rfl) _ | exact cell_at _ _ (by simp only [World.alloc, Array.size_push]) _ _ 1 _ rfl) hb5
  have b7b0 : w5.cell? ⟨w4.heap.size + 1, 0, none⟩ = some (.int .i64 c.rel) := cell_below (by first | exact cell_new _ _ _ 0 _ rfl | exact cell_al (cell_new _ _ _ 0 _ rfl) _ | exact cell_at _ _ (by simp only [World.alloc, Array.size_push]) _ _ 0 _ rfl) hb5
  have b7b1 : w5.cell? ⟨w4.heap.size + 1, 1, none⟩ = some (.slice pc c.vals.length qc) := cell_below (by first | exact cell_new _ _ _ 1 _ rfl | exact cell_al (cell_new _ _ _ 1 _ rfl) _ | exact cell_at _ _ (by simp only [World.alloc, Array.size_push]) _ _ 1 _ rfl) hb5
  obtain ⟨ps, qs, rfl⟩ := slR.form hs
  obtain ⟨pg, qg, rfl⟩ := slR.form hg
  go_wp2_with fail
  refine (implFormatFact_any gx _ fg _ (hg.below' (by (repeat (first | exact (Below.refl _ _) | exact Below.refl _ _ | refine ba ?_ | refine bdr ?_ | refine bs ?_ (by omega))); done)) (Tab.on HLW.out.2.2.1 (by (repeat (first | exact (bt (bt (bt (bt D1 D2) D3) D4) D5) | exact Below.refl _ _ | refine ba ?_ | refine bdr ?_ | refine bs ?_ (by omega))); done))).mono ?_
  rintro e w6 ⟨rfl, hb6⟩
  have D6 : Below w5.heap.size w5 w6 := bt (by (repeat (first | exact (Below.refl _ _) | exact Below.refl _ _ | refine ba ?_ | refine bdr ?_ | refine bs ?_ (by omega))); done) hb6
  have b9b0 : w6.cell? ⟨w5.heap.size, 0, none⟩ = some (.int .i64 gx.rel) := cell_below (by first | exact cell_new _ _ _ 0 _ rfl | exact cell_al (cell_new _ _ _ 0 _ rfl) _ | exact cell_at _ _ (by simp only [World.alloc, Array.size_push]) _ _ 0 _ rfl) hb6
  have b9b1 : w6.cell? ⟨w5.heap.size, 1, none⟩ = some (.slice pg gx.vals.length qg) := cell_below (by first | exact cell_new _ _ _ 1 _ rfl | exact cell_al (cell_new _ _ _ 1 _ rfl) _ | exact cell_at _ _ (by simp only [World.alloc, Array.size_push]) _ _ 1 _ rfl) hb6
  have hts := factFS_small hg
  obtain ⟨ts, Hts⟩ : ∃ ts : ByteArray, ts = ⟨(factFS gx).toArray⟩ := ⟨_, rfl⟩
  have hsz : ts.size ≤ 1048576 := by rw [Hts]; simp only [ByteArray.size, List.size_toArray]; omega
  have htl : ts.data.toList = factFS gx := by rw [Hts]
  rw [← Hts]
  have HT := Lib.hid Hts
  clear Hts hts
  go_wp2_with fail
  refine (implParseFact_any _ s fs ts _ (hs.below' (by (repeat (first | exact D6 | exact Below.refl _ _ | refine ba ?_ | refine bdr ?_ | refine bs ?_ (by omega))); done)) hsz (HLW.out.on (by (repeat (first | exact (bt (bt (bt (bt (bt D1 D2) D3) D4) D5) D6) | exact Below.refl _ _ | refine ba ?_ | refine bdr ?_ | refine bs ?_ (by omega))); done))).mono ?_
  rintro e w7 ⟨h, k, vh, fh, rfl, hF, hh, hhf, hb7⟩
  have D7 : Below w6.heap.size w6 w7 := bt (by (repeat (first | exact (Below.refl _ _) | exact Below.refl _ _ | refine ba ?_ | refine bdr ?_ | refine bs ?_ (by omega))); done) hb7
  rw [htl] at hF
  obtain ⟨hk, hkx⟩ := factIs_self hF
  have Hk := Lib.hid hk
  have Hkx := Lib.hid hkx
  clear hk hkx hF htl hsz
  obtain ⟨ph, qh, rfl⟩ := slR.form hh
  go_wp2_with fail
  refine (DrawAreFacts_any b cap l _ (g0.below' (by (repeat (first | exact (bt (bt (bt (bt (bt (bt D1 D2) D3) D4) D5) D6) D7) | exact Below.refl _ _ | refine ba ?_ | refine bdr ?_ | refine bs ?_ (by omega))); done)) hn).mono ?_
  rintro e w8 ⟨uv, u, fu, lv, ul, ful, rfl, hu, hun, hul, huln, hb8⟩
  have D8 : Below w7.heap.size w7 w8 := bt (by (repeat (first | exact (Below.refl _ _) | exact Below.refl _ _ | refine ba ?_ | refine bdr ?_ | refine bs ?_ (by omega))); done) hb8
  have b11b0 : w8.cell? ⟨w7.heap.size, 0, none⟩ = some (.int .i64 h.rel) := cell_below (by first | exact cell_new _ _ _ 0 _ rfl | exact cell_al (cell_new _ _ _ 0 _ rfl) _ | exact cell_at _ _ (by simp only [World.alloc, Array.size_push]) _ _ 0 _ rfl) hb8
  have b11b1 : w8.cell? ⟨w7.heap.size, 1, none⟩ = some (.slice ph h.vals.length qh) := cell_below (by first | exact cell_new _ _ _ 1 _ rfl | exact cell_al (cell_new _ _ _ 1 _ rfl) _ | exact cell_at _ _ (by simp only [World.alloc, Array.size_push]) _ _ 1 _ rfl) hb8
  obtain ⟨pu, qu, rfl⟩ := slR.form hu
  obtain ⟨pl, ql, rfl⟩ := slR.form hul
  go_wp2_with fail
  refine (DrawSameFacts_any b cap l _ (g0.below' (by (repeat (first | exact (bt (bt (bt (bt (bt (bt (bt D1 D2) D3) D4) D5) D6) D7) D8) | exact Below.refl _ _ | refine ba ?_ | refine bdr ?_ | refine bs ?_ (by omega))); done)) hn).mono ?_
  rintro e w9 ⟨vv, vl, fvl, wv, wl, fwl, rfl, hvl, hvn, hwl, hwn, hb9⟩
  have D9 : Below w8.heap.size w8 w9 := bt (by (repeat (first | exact (Below.refl _ _) | exact Below.refl _ _ | refine ba ?_ | refine bdr ?_ | refine bs ?_ (by omega))); done) hb9
  obtain ⟨pv, qv, rfl⟩ := slR.form hvl
  obtain ⟨pw, qw, rfl⟩ := slR.form hwl
  go_upto_region 13 with fail
  go_cut [17] from 18 (fun s17 wr => ∃ (pz : Option Addr) (qz : Nat) (zs : List Int) (fz : List Nat), s17 = .slice pz zs.length qz ∧ ints wr (.slice pz zs.length qz) zs fz ∧ Below w9.heap.size w9 wr)
  case first =>
    go_wp2_with fail
    refine (DrawIsSchema_any b cap l _ (g0.below' (by (repeat (first | exact (bt (bt (bt (bt (bt (bt (bt (bt D1 D2) D3) D4) D5) D6) D7) D8) D9) | exact Below.refl _ _ | refine ba ?_ | refine bdr ?_ | refine bs ?_ (by omega))); done)) hn).mono ?_
    rintro e w10 ⟨zv, zs, fz, rfl, hz, hzn, hb10⟩
    have D10 : Below w9.heap.size w9 w10 := bt (by (repeat (first | exact (Below.refl _ _) | exact Below.refl _ _ | refine ba ?_ | refine bdr ?_ | refine bs ?_ (by omega))); done) hb10
    obtain ⟨pz, qz, rfl⟩ := slR.form hz
    go_wp2_with fail
    go_meet
    case rel => exact ⟨pz, qz, zs, fz, rfl, hz, D10⟩
  case rest =>
  obtain ⟨pz, qz, zs, fz, rfl, hz, D10⟩ := hcut
  obtain ⟨w10, ew⟩ : ∃ x, x = wc := ⟨_, rfl⟩
  subst ew
  have Hneg := Lib.hid (cmpFact_neg c a)
  obtain ⟨z, hz0⟩ : ∃ z, z = cmpFact c a := ⟨_, rfl⟩
  obtain ⟨hzb1, hzb2⟩ : -1 ≤ z ∧ z ≤ 1 := by rw [hz0]; exact cmpFact_bd c a
  rw [← hz0] at Hneg
  have Hz0 := Lib.hid hz0.symm
  clear hz0
  obtain ⟨rB, hrB⟩ : ∃ r, r = factsB u ul := ⟨_, rfl⟩
  have HrB := Lib.hid hrB.symm
  obtain ⟨rC, hrC⟩ : ∃ r, r = decide (vl = wl) := ⟨_, rfl⟩
  have HrC := Lib.hid hrC.symm
  obtain ⟨rD, hrD⟩ : ∃ r, r = schemaB zs := ⟨_, rfl⟩
  have HrD := Lib.hid hrD.symm
  clear hrB hrC hrD
  cases k with
  | true =>
   as_aux_lemma =>
    obtain rfl := Hkx.out rfl
    have b6c0 : w10.cell? ⟨w4.heap.size, 0, none⟩ = some (.int .i64 a.rel) := cell_below b6b0 (bt (bt (bt (bt D6 D7) D8) D9) D10)
    have b6c1 : w10.cell? ⟨w4.heap.size, 1, none⟩ = some (.slice pa a.vals.length qa) := cell_below b6b1 (bt (bt (bt (bt D6 D7) D8) D9) D10)
    have b7c0 : w10.cell? ⟨w4.heap.size + 1, 0, none⟩ = some (.int .i64 c.rel) := cell_below b7b0 (bt (bt (bt (bt D6 D7) D8) D9) D10)
    have b7c1 : w10.cell? ⟨w4.heap.size + 1, 1, none⟩ = some (.slice pc c.vals.length qc) := cell_below b7b1 (bt (bt (bt (bt D6 D7) D8) D9) D10)
    have b9c0 : w10.cell? ⟨w5.heap.size, 0, none⟩ = some (.int .i64 h.rel) := cell_below b9b0 (bt (bt (bt D7 D8) D9) D10)
    have b9c1 : w10.cell? ⟨w5.heap.size, 1, none⟩ = some (.slice pg h.vals.length qg) := cell_below b9b1 (bt (bt (bt D7 D8) D9) D10)
    have b11c0 : w10.cell? ⟨w7.heap.size, 0, none⟩ = some (.int .i64 h.rel) := cell_below b11b0 (bt D9 D10)
    have b11c1 : w10.cell? ⟨w7.heap.size, 1, none⟩ = some (.slice ph h.vals.length qh) := cell_below b11b1 (bt D9 D10)
    have b6L0 : ∀ x : Lat w10, x.wd.cell? ⟨w4.heap.size, 0, none⟩ = some (.int .i64 a.rel) := fun x => x.cell b6c0
    have b6L1 : ∀ x : Lat w10, x.wd.cell? ⟨w4.heap.size, 1, none⟩ = some (.slice pa a.vals.length qa) := fun x => x.cell b6c1
    have b7L0 : ∀ x : Lat w10, x.wd.cell? ⟨w4.heap.size + 1, 0, none⟩ = some (.int .i64 c.rel) := fun x => x.cell b7c0
    have b7L1 : ∀ x : Lat w10, x.wd.cell? ⟨w4.heap.size + 1, 1, none⟩ = some (.slice pc c.vals.length qc) := fun x => x.cell b7c1
    have b9L0 : ∀ x : Lat w10, x.wd.cell? ⟨w5.heap.size, 0, none⟩ = some (.int .i64 h.rel) := fun x => x.cell b9c0
    have b9L1 : ∀ x : Lat w10, x.wd.cell? ⟨w5.heap.size, 1, none⟩ = some (.slice pg h.vals.length qg) := fun x => x.cell b9c1
    have b11L0 : ∀ x : Lat w10, x.wd.cell? ⟨w7.heap.size, 0, none⟩ = some (.int .i64 h.rel) := fun x => x.cell b11c0
    have b11L1 : ∀ x : Lat w10, x.wd.cell? ⟨w7.heap.size, 1, none⟩ = some (.slice ph h.vals.length qh) := fun x => x.cell b11c1
    clear b6c0 b6c1 b7c0 b7c1 b9c0 b9c1 b11c0 b11c1
    have VA : ∀ x : Lat w10, ints x.wd (.slice pa a.vals.length qa) a.vals fa := fun x => (ha.below' (bt (bt (bt (bt (bt D5 D6) D7) D8) D9) D10)).below' x.ok
    have VC : ∀ x : Lat w10, ints x.wd (.slice pc c.vals.length qc) c.vals fc := fun x => (hc.below' (bt (bt (bt (bt (bt D5 D6) D7) D8) D9) D10)).below' x.ok
    have VG : ∀ x : Lat w10, ints x.wd (.slice pg h.vals.length qg) h.vals fg := fun x => (hg.below' (bt (bt (bt (bt D6 D7) D8) D9) D10)).below' x.ok
    have VS : ∀ x : Lat w10, ints x.wd (.slice ps s.length qs) s fs := fun x => (hs.below' (bt (bt (bt (bt D6 D7) D8) D9) D10)).below' x.ok
    have VH : ∀ x : Lat w10, ints x.wd (.slice ph h.vals.length qh) h.vals fh := fun x => (hh.below' (bt (bt D8 D9) D10)).below' x.ok
    have VU : ∀ x : Lat w10, ints x.wd (.slice pu u.length qu) u fu := fun x => (hu.below' (bt D9 D10)).below' x.ok
    have VL : ∀ x : Lat w10, facts x.wd (.slice pl ul.length ql) ul ful := fun x => (hul.below' (bt D9 D10)).below' x.ok
    have VV : ∀ x : Lat w10, facts x.wd (.slice pv vl.length qv) vl fvl := fun x => (hvl.below' D10).below' x.ok
    have VW : ∀ x : Lat w10, facts x.wd (.slice pw wl.length qw) wl fwl := fun x => (hwl.below' D10).below' x.ok
    have VZ : ∀ x : Lat w10, ints x.wd (.slice pz zs.length qz) zs fz := fun x => (hz.below' (Below.refl _ _)).below' x.ok
    have VT : ∀ x : Lat w10, Lib.TabBelow Tryz.prog x.wd.heap.size x.wd "internal/strconv.uint64pow10" .u64 Lib.pow10Tab := fun x => Tab.on HLW.out.2.2.1 (bt (bt (bt (bt (bt (bt (bt (bt (bt (bt D1 D2) D3) D4) D5) D6) D7) D8) D9) D10) x.ok)
    go_wp2_with fail
    refine wp_region_lat w10 (by kernel_rfl) (by kernel_rfl) ?_
    (try simp only [List.append])
    repeat (go_big_quiet_step ((first
        | (go_at_call 70; with_reducible exact Lat.of (retIL (implCompareFacts_any a c _ _ fa fc _ (VA _) (VC _)) Hneg.out))
        | (go_at_call 70; with_reducible exact Lat.of (retIL (implCompareFacts_any c a _ _ fc fa _ (VC _) (VA _)) Hz0.out))
        | (go_at_call 71; with_reducible exact Lat.of (retIL (specCompareFacts_any a c _ _ fa fc _ (VA _) (VC _)) Hneg.out))
        | (go_at_call 72; with_reducible exact Lat.of (retSL (specFormatFact_any h _ fg _ (VG _)) HT.out.symm))
        | (go_at_call 73; with_reducible exact Lat.of (retBL (specIsFact_any _ s fs h _ fg _ (VS _) (VG _)) Hk.out.symm))
        | (go_at_call 74; with_reducible exact Lat.of (retBL (implIsFact_any _ s fs h _ fg _ (VS _) (VG _)) Hk.out.symm))
        | (go_at_call 65; with_reducible exact Lat.of (retSL (implFormatFact_any h _ fh _ (VH _) (VT _)) HT.out.symm))
        | (go_at_call 75; with_reducible exact Lat.of (retBL (implAreFacts_any _ u fu _ ul ful _ (VU _) (VL _)) HrB.out))
        | (go_at_call 76; with_reducible exact Lat.of (retBL (implSameFacts_any _ _ vl wl fvl fwl _ (VV _) (VW _)) HrC.out))
        | (go_at_call 77; with_reducible exact Lat.of (eB (retBL (implIsSchema_any _ zs fz _ (VZ _)) HrD.out)))
        | (go_at_call 15; with_reducible exact Lat.of (retBL (specAreFacts_any _ u fu _ ul ful _ (VU _) (VL _)) HrB.out))
        | (go_at_call 10; with_reducible exact Lat.of (retBL (specSameFacts_any _ _ vl wl fvl fwl _ (VV _) (VW _)) HrC.out))
        | (go_at_call 78; with_reducible exact Lat.of (eB (retBL (specIsSchema_any _ zs fz _ (VZ _)) HrD.out))))))
    refine wpQuiet_nil ?_
    intro _ hw'
    obtain ⟨x1, hw''⟩ := hw'
    subst hw''
    have hb9 := bt (bt (bt (bt (bt (bt (bt (bt (bt (bt D1 D2) D3) D4) D5) D6) D7) D8) D9) D10) x1.ok
    generalize x1.wd = wz at hb9 ⊢
    clear b6L0 b6L1 b7L0 b7L1 b9L0 b9L1 b11L0 b11L1 VA VC VG VS VH VU VL VV VW VZ VT
    go_wp2
    go_ret
    exact ⟨rfl, hb9⟩
  | false =>
   as_aux_lemma =>
    have b6c0 : w10.cell? ⟨w4.heap.size, 0, none⟩ = some (.int .i64 a.rel) := cell_below b6b0 (bt (bt (bt (bt D6 D7) D8) D9) D10)
    have b6c1 : w10.cell? ⟨w4.heap.size, 1, none⟩ = some (.slice pa a.vals.length qa) := cell_below b6b1 (bt (bt (bt (bt D6 D7) D8) D9) D10)
    have b7c0 : w10.cell? ⟨w4.heap.size + 1, 0, none⟩ = some (.int .i64 c.rel) := cell_below b7b0 (bt (bt (bt (bt D6 D7) D8) D9) D10)
    have b7c1 : w10.cell? ⟨w4.heap.size + 1, 1, none⟩ = some (.slice pc c.vals.length qc) := cell_below b7b1 (bt (bt (bt (bt D6 D7) D8) D9) D10)
    have b9c0 : w10.cell? ⟨w5.heap.size, 0, none⟩ = some (.int .i64 gx.rel) := cell_below b9b0 (bt (bt (bt D7 D8) D9) D10)
    have b9c1 : w10.cell? ⟨w5.heap.size, 1, none⟩ = some (.slice pg gx.vals.length qg) := cell_below b9b1 (bt (bt (bt D7 D8) D9) D10)
    have b11c0 : w10.cell? ⟨w7.heap.size, 0, none⟩ = some (.int .i64 h.rel) := cell_below b11b0 (bt D9 D10)
    have b11c1 : w10.cell? ⟨w7.heap.size, 1, none⟩ = some (.slice ph h.vals.length qh) := cell_below b11b1 (bt D9 D10)
    have b6L0 : ∀ x : Lat w10, x.wd.cell? ⟨w4.heap.size, 0, none⟩ = some (.int .i64 a.rel) := fun x => x.cell b6c0
    have b6L1 : ∀ x : Lat w10, x.wd.cell? ⟨w4.heap.size, 1, none⟩ = some (.slice pa a.vals.length qa) := fun x => x.cell b6c1
    have b7L0 : ∀ x : Lat w10, x.wd.cell? ⟨w4.heap.size + 1, 0, none⟩ = some (.int .i64 c.rel) := fun x => x.cell b7c0
    have b7L1 : ∀ x : Lat w10, x.wd.cell? ⟨w4.heap.size + 1, 1, none⟩ = some (.slice pc c.vals.length qc) := fun x => x.cell b7c1
    have b9L0 : ∀ x : Lat w10, x.wd.cell? ⟨w5.heap.size, 0, none⟩ = some (.int .i64 gx.rel) := fun x => x.cell b9c0
    have b9L1 : ∀ x : Lat w10, x.wd.cell? ⟨w5.heap.size, 1, none⟩ = some (.slice pg gx.vals.length qg) := fun x => x.cell b9c1
    have b11L0 : ∀ x : Lat w10, x.wd.cell? ⟨w7.heap.size, 0, none⟩ = some (.int .i64 h.rel) := fun x => x.cell b11c0
    have b11L1 : ∀ x : Lat w10, x.wd.cell? ⟨w7.heap.size, 1, none⟩ = some (.slice ph h.vals.length qh) := fun x => x.cell b11c1
    clear b6c0 b6c1 b7c0 b7c1 b9c0 b9c1 b11c0 b11c1
    have VA : ∀ x : Lat w10, ints x.wd (.slice pa a.vals.length qa) a.vals fa := fun x => (ha.below' (bt (bt (bt (bt (bt D5 D6) D7) D8) D9) D10)).below' x.ok
    have VC : ∀ x : Lat w10, ints x.wd (.slice pc c.vals.length qc) c.vals fc := fun x => (hc.below' (bt (bt (bt (bt (bt D5 D6) D7) D8) D9) D10)).below' x.ok
    have VG : ∀ x : Lat w10, ints x.wd (.slice pg gx.vals.length qg) gx.vals fg := fun x => (hg.below' (bt (bt (bt (bt D6 D7) D8) D9) D10)).below' x.ok
    have VS : ∀ x : Lat w10, ints x.wd (.slice ps s.length qs) s fs := fun x => (hs.below' (bt (bt (bt (bt D6 D7) D8) D9) D10)).below' x.ok
    have VH : ∀ x : Lat w10, ints x.wd (.slice ph h.vals.length qh) h.vals fh := fun x => (hh.below' (bt (bt D8 D9) D10)).below' x.ok
    have VU : ∀ x : Lat w10, ints x.wd (.slice pu u.length qu) u fu := fun x => (hu.below' (bt D9 D10)).below' x.ok
    have VL : ∀ x : Lat w10, facts x.wd (.slice pl ul.length ql) ul ful := fun x => (hul.below' (bt D9 D10)).below' x.ok
    have VV : ∀ x : Lat w10, facts x.wd (.slice pv vl.length qv) vl fvl := fun x => (hvl.below' D10).below' x.ok
    have VW : ∀ x : Lat w10, facts x.wd (.slice pw wl.length qw) wl fwl := fun x => (hwl.below' D10).below' x.ok
    have VZ : ∀ x : Lat w10, ints x.wd (.slice pz zs.length qz) zs fz := fun x => (hz.below' (Below.refl _ _)).below' x.ok
    have VT : ∀ x : Lat w10, Lib.TabBelow Tryz.prog x.wd.heap.size x.wd "internal/strconv.uint64pow10" .u64 Lib.pow10Tab := fun x => Tab.on HLW.out.2.2.1 (bt (bt (bt (bt (bt (bt (bt (bt (bt (bt D1 D2) D3) D4) D5) D6) D7) D8) D9) D10) x.ok)
    go_wp2_with fail
    refine wp_region_lat w10 (by kernel_rfl) (by kernel_rfl) ?_
    (try simp only [List.append])
    repeat (go_big_quiet_step ((first
        | (go_at_call 70; with_reducible exact Lat.of (retIL (implCompareFacts_any a c _ _ fa fc _ (VA _) (VC _)) Hneg.out))
        | (go_at_call 70; with_reducible exact Lat.of (retIL (implCompareFacts_any c a _ _ fc fa _ (VC _) (VA _)) Hz0.out))
        | (go_at_call 71; with_reducible exact Lat.of (retIL (specCompareFacts_any a c _ _ fa fc _ (VA _) (VC _)) Hneg.out))
        | (go_at_call 72; with_reducible exact Lat.of (retSL (specFormatFact_any gx _ fg _ (VG _)) HT.out.symm))
        | (go_at_call 73; with_reducible exact Lat.of (retBL (specIsFact_any _ s fs gx _ fg _ (VS _) (VG _)) Hk.out.symm))
        | (go_at_call 74; with_reducible exact Lat.of (retBL (implIsFact_any _ s fs gx _ fg _ (VS _) (VG _)) Hk.out.symm))
        | (go_at_call 75; with_reducible exact Lat.of (retBL (implAreFacts_any _ u fu _ ul ful _ (VU _) (VL _)) HrB.out))
        | (go_at_call 76; with_reducible exact Lat.of (retBL (implSameFacts_any _ _ vl wl fvl fwl _ (VV _) (VW _)) HrC.out))
        | (go_at_call 77; with_reducible exact Lat.of (eB (retBL (implIsSchema_any _ zs fz _ (VZ _)) HrD.out)))
        | (go_at_call 15; with_reducible exact Lat.of (retBL (specAreFacts_any _ u fu _ ul ful _ (VU _) (VL _)) HrB.out))
        | (go_at_call 10; with_reducible exact Lat.of (retBL (specSameFacts_any _ _ vl wl fvl fwl _ (VV _) (VW _)) HrC.out))
        | (go_at_call 78; with_reducible exact Lat.of (eB (retBL (specIsSchema_any _ zs fz _ (VZ _)) HrD.out))))))
    refine wpQuiet_nil ?_
    intro _ hw'
    obtain ⟨x1, hw''⟩ := hw'
    subst hw''
    have hb9 := bt (bt (bt (bt (bt (bt (bt (bt (bt (bt D1 D2) D3) D4) D5) D6) D7) D8) D9) D10) x1.ok
    generalize x1.wd = wz at hb9 ⊢
    clear b6L0 b6L1 b7L0 b7L1 b9L0 b9L1 b11L0 b11L1 VA VC VG VS VH VU VL VV VW VZ VT
    go_wp2
    go_ret
    exact ⟨rfl, hb9⟩
end Go.Proofs.YtapapnaljjnhnaaGreatDoor
