/- The walk of the law FnMethods: it returns true, whatever the input. Condition: what the library's own variables hold. -/
import Derived.Test.YtpdmdfkcaabnaaaGreatDoorMD
import Derived.Test.YtpdmdfkcaabnaaaGreatDoorME
import Derived.Test.YtpdmdfkcaabnaaaGreatDoorMS
import Derived.Test.YtpdmdfkcaabnaaaGreatDoorMC
import Derived.Test.YtpdmdfkcaabnaaaGreatDoorFmtMeth
import Derived.Test.YtpdmdfkcaabnaaaGreatDoorIsMeth
import Derived.Test.YtpdmdfkcaabnaaaGreatDoorIsAccess
import Derived.Test.YtpdmdfkcaabnaaaGreatDoorAreFacts
import Derived.Deep.Cut
namespace Go.Proofs.YtpdmdfkcaabnaaaGreatDoor
open Go.RowKit
set_option linter.unusedVariables false
set_option linter.unusedSimpArgs false
theorem bigF_any (b : Option Addr) (n cap : Nat) (w : World) : Calls Tryz.prog 6 #[.slice b n cap] w fun e w' => e = .returned (.bool (decide ((1048576 : Int) < (n : Int)))) ∧ w = w' := by
  go_enter Tryz.func6, Tryz.ntmps6
  go_wp2
  go_ret
  exact ⟨rfl, rfl⟩
theorem retBL {P : Program} {f : FuncId} {args : Array Value} {w : World} {b c : Bool} {Q : World → Prop} (h : Calls P f args w fun e w' => e = .returned (.bool b) ∧ Q w') (hb : b = c) : Calls P f args w fun e w' => e = .returned (.bool c) ∧ Q w' := hb ▸ h
theorem retSL {P : Program} {f : FuncId} {args : Array Value} {w : World} {b c : ByteArray} {Q : World → Prop} (h : Calls P f args w fun e w' => e = .returned (.string b) ∧ Q w') (hb : b = c) : Calls P f args w fun e w' => e = .returned (.string c) ∧ Q w' := hb ▸ h
theorem methFS_small {m : MethD} {w : World} {v : Value} {f : List Nat} (hI : I64 m.rel ∧ I64 m.limit ∧ I64 m.cost ∧ I64 m.quota) (hi : ints w v m.inputs f) (hn : m.inputs.length ≤ 4) : (methFS m).length ≤ 1000 := by
  unfold methFS
  split
  · have h1 := itoa_le hI.1
    have h2 := itoa_le hI.2.1
    have h3 := itoa_le hI.2.2.1
    have h4 := itoa_le hI.2.2.2
    have hII : ∀ y ∈ m.inputs, I64 y := by obtain ⟨_, _, _, hw⟩ := row_of_ints hi; exact hw
    have h5 : (inpS m.inputs).length ≤ 100 := by
      unfold inpS
      split
      · have h5 := listS_len [44] hII
        have h6 : m.inputs.length * (21 + [(44 : UInt8)].length) ≤ 4 * 22 := Nat.mul_le_mul hn (by simp)
        omega
      · simp
    simp only [List.length_cons, List.length_append, List.length_nil]
    omega
  · simp
theorem match_sub {s : List Int} {l : List MethD} {fa : List FactD} {a : AccD} : ∀ y ∈ matchesL s l fa a, y ∈ fa := by
  intro y hy
  unfold matchesL at hy
  split at hy
  · exact (List.mem_filter.1 hy).1
  · cases hy
theorem specIsResponseR_any (vs : Value) (s : List Int) (fs : List Nat) (vl : Value) (l : List MethD) (fl : List Nat) (vf : Value) (fa : List FactD) (ff : List Nat) (x : AccD) (vx : Value) (fx : List Nat) (vr : Value) (r : List FactD) (w : World) (hs : ints w vs s fs) (hl : meths w vl l fl) (hf : facts w vf fa ff) (hx : ints w vx x.vals fx) (hr : RepR w vr r) (hn : fa.length ≤ 1048576) (hln : ∀ y ∈ fa, y.vals.length ≤ 1048576) :
    Calls Tryz.prog 27 #[vs, vl, vf, .agg #[.int .i64 x.meth, vx], vr] w fun e w' => e = .returned (.bool (respB s l fa x r)) ∧ Below w.heap.size w w' := by
  rcases hr with ⟨p, q, f, rfl, h⟩ | ⟨g, q, c, x0, f, rfl, h⟩
  · exact specIsResponse_any vs s fs vl l fl vf fa ff x vx fx _ r f w hs hl hf hx h hn hln
  · exact specIsResponseO_any vs s fs vl l fl vf fa ff x vx fx g q c x0 r f w hs hl hf hx h hn hln
theorem implIsResponseR_any (vs : Value) (s : List Int) (fs : List Nat) (vl : Value) (l : List MethD) (fl : List Nat) (vf : Value) (fa : List FactD) (ff : List Nat) (x : AccD) (vx : Value) (fx : List Nat) (vr : Value) (r : List FactD) (w : World) (hs : ints w vs s fs) (hl : meths w vl l fl) (hf : facts w vf fa ff) (hx : ints w vx x.vals fx) (hr : RepR w vr r) (hn : fa.length ≤ 1048576) (hln : ∀ y ∈ fa, y.vals.length ≤ 1048576) :
    Calls Tryz.prog 16 #[vs, vl, vf, .agg #[.int .i64 x.meth, vx], vr] w fun e w' => e = .returned (.bool (respB s l fa x r)) ∧ Below w.heap.size w w' := by
  rcases hr with ⟨p, q, f, rfl, h⟩ | ⟨g, q, c, x0, f, rfl, h⟩
  · exact implIsResponse_any vs s fs vl l fl vf fa ff x vx fx _ r f w hs hl hf hx h hn hln
  · exact implIsResponseO_any vs s fs vl l fl vf fa ff x vx fx g q c x0 r f w hs hl hf hx h hn hln
set_option maxRecDepth 100000 in
set_option maxHeartbeats 12800000 in
theorem fnMethods_walk (v : Value) (l : List Int) (w : World) (g0 : bytesV w v l) (hT : LibW w) :
    Calls Tryz.prog 3 #[v] w fun e w' => e = .returned (.bool true) ∧ Below w.heap.size w w' := by
  obtain ⟨b, cap, rfl⟩ := slW.form g0
  have HLW := Lib.hid hT
  clear hT
  by_cases hn : l.length ≤ 1048576
  case neg =>
    have hni : (1048576 : Int) < (l.length : Int) := by omega
    go_enter Tryz.func3, Tryz.ntmps3
    go_wp2_with (go_at_call 6; refine (bigF_any _ _ _ _).mono ?_; rintro e w' ⟨rfl, rfl⟩)
    go_ret
    exact ⟨rfl, Below.refl _ _⟩
  have hni : ¬ (1048576 : Int) < (l.length : Int) := by omega
  go_enter Tryz.func3, Tryz.ntmps3
  go_wp2_with (go_at_call 6; refine (bigF_any _ _ _ _).mono ?_; rintro e w' ⟨rfl, rfl⟩)
  go_wp2_with fail
  refine (DrawRespondTo_any b cap l _ g0 hn).mono ?_
  rintro e w1 ⟨vs, s, fs, vml, ml, fl, vf, fa, ff, x, vx, fx, ch, rfl, hs, hml, hf, ⟨hf9, hfv⟩, hI, hx, hch, hb1⟩
  have D1 : Below w.heap.size w w1 := bt (by (repeat (first | exact (Below.refl _ _) | exact Below.refl _ _ | refine ba ?_ | refine bdr ?_ | refine bs ?_ (by omega))); done) hb1
  obtain ⟨ps, qs, rfl⟩ := slR.form hs
  obtain ⟨pl, ql, rfl⟩ := slR.form hml
  obtain ⟨pf, qf, rfl⟩ := slR.form hf
  obtain ⟨px, qx, rfl⟩ := slR.form hx
  have hn10 : fa.length ≤ 1048576 := by omega
  have Hln := Lib.hid (show ∀ y ∈ fa, y.vals.length ≤ 1048576 from fun y hy => by have := hfv.out y hy; omega)
  clear hfv hch
  go_wp2_with fail
  refine (implRespondTo_any _ s fs _ ml fl _ fa ff x _ fx ch _ (hs.below' (by (repeat (first | exact (Below.refl _ _) | exact Below.refl _ _ | refine ba ?_ | refine bdr ?_ | refine bs ?_ (by omega))); done)) (hml.below' (by (repeat (first | exact (Below.refl _ _) | exact Below.refl _ _ | refine ba ?_ | refine bdr ?_ | refine bs ?_ (by omega))); done)) (hf.below' (by (repeat (first | exact (Below.refl _ _) | exact Below.refl _ _ | refine ba ?_ | refine bdr ?_ | refine bs ?_ (by omega))); done)) (hx.below' (by (repeat (first | exact (Below.refl _ _) | exact Below.refl _ _ | refine ba ?_ | refine bdr ?_ | refine bs ?_ (by omega))); done)) hn10 Hln.out).mono ?_
  rintro e w2 ⟨v2, f2, rfl, hr, hrf, hb2⟩
  have D2 : Below w1.heap.size w1 w2 := bt (by (repeat (first | exact (Below.refl _ _) | exact Below.refl _ _ | refine ba ?_ | refine bdr ?_ | refine bs ?_ (by omega))); done) hb2
  have b6b0 : w2.cell? ⟨w1.heap.size, 0, none⟩ = some (.int .i64 x.meth) := cell_below (by first | exact cell_new _ _ _ 0 _ rfl | exact cell_al (cell_new _ _ _ 0 _ rfl) _ | exact cell_at _ _ (by simp only [World.alloc, Array.size_push]) _ _ 0 _ rfl) hb2
  have b6b1 : w2.cell? ⟨w1.heap.size, 1, none⟩ = some (.slice px x.vals.length qx) := cell_below (by first | exact cell_new _ _ _ 1 _ rfl | exact cell_al (cell_new _ _ _ 1 _ rfl) _ | exact cell_at _ _ (by simp only [World.alloc, Array.size_push]) _ _ 1 _ rfl) hb2
  obtain ⟨rl, hrl⟩ : ∃ rl, rl = respondL s ml fa x ch := ⟨_, rfl⟩
  rw [← hrl] at hr
  have Hrl := Lib.hid hrl
  clear hrl hrf
  obtain ⟨pr, qr, rfl⟩ := slR.form hr
  have b6c0 : w2.cell? ⟨w1.heap.size, 0, none⟩ = some (.int .i64 x.meth) := cell_below b6b0 (Below.refl _ _)
  have b6c1 : w2.cell? ⟨w1.heap.size, 1, none⟩ = some (.slice px x.vals.length qx) := cell_below b6b1 (Below.refl _ _)
  go_wp2_with fail
  refine (implMatchesOf_any _ s fs _ ml fl _ fa ff x _ fx _ (hs.below' (by (repeat (first | exact D2 | exact Below.refl _ _ | refine ba ?_ | refine bdr ?_ | refine bs ?_ (by omega))); done)) (hml.below' (by (repeat (first | exact D2 | exact Below.refl _ _ | refine ba ?_ | refine bdr ?_ | refine bs ?_ (by omega))); done)) (hf.below' (by (repeat (first | exact D2 | exact Below.refl _ _ | refine ba ?_ | refine bdr ?_ | refine bs ?_ (by omega))); done)) (hx.below' (by (repeat (first | exact D2 | exact Below.refl _ _ | refine ba ?_ | refine bdr ?_ | refine bs ?_ (by omega))); done)) hn10 Hln.out).mono ?_
  rintro e w3 ⟨v3, f3, rfl, hm, hmf, hb3⟩
  have D3 : Below w2.heap.size w2 w3 := bt (by (repeat (first | exact (Below.refl _ _) | exact Below.refl _ _ | refine ba ?_ | refine bdr ?_ | refine bs ?_ (by omega))); done) hb3
  clear b6c0 b6c1
  obtain ⟨xl, hxl⟩ : ∃ xl, xl = matchesL s ml fa x := ⟨_, rfl⟩
  rw [← hxl] at hm
  have Hxl := Lib.hid hxl
  clear hxl hmf
  obtain ⟨pm, qm, rfl⟩ := slR.form hm
  have b6c0 : w3.cell? ⟨w1.heap.size, 0, none⟩ = some (.int .i64 x.meth) := cell_below b6b0 D3
  have b6c1 : w3.cell? ⟨w1.heap.size, 1, none⟩ = some (.slice px x.vals.length qx) := cell_below b6b1 D3
  go_wp2_with fail
  refine (specRespondTo_any _ s fs _ ml fl _ fa ff x _ fx ch _ (hs.below' (by (repeat (first | exact (bt D2 D3) | exact Below.refl _ _ | refine ba ?_ | refine bdr ?_ | refine bs ?_ (by omega))); done)) (hml.below' (by (repeat (first | exact (bt D2 D3) | exact Below.refl _ _ | refine ba ?_ | refine bdr ?_ | refine bs ?_ (by omega))); done)) (hf.below' (by (repeat (first | exact (bt D2 D3) | exact Below.refl _ _ | refine ba ?_ | refine bdr ?_ | refine bs ?_ (by omega))); done)) (hx.below' (by (repeat (first | exact (bt D2 D3) | exact Below.refl _ _ | refine ba ?_ | refine bdr ?_ | refine bs ?_ (by omega))); done)) hn10 Hln.out).mono ?_
  rintro e w4 ⟨v4, f4, rfl, hr4, hrf4, hb4⟩
  have D4 : Below w3.heap.size w3 w4 := bt (by (repeat (first | exact (Below.refl _ _) | exact Below.refl _ _ | refine ba ?_ | refine bdr ?_ | refine bs ?_ (by omega))); done) hb4
  clear b6c0 b6c1
  rw [← Hrl.out] at hr4
  clear hrf4
  obtain ⟨p4, q4, rfl⟩ := slR.form hr4
  go_wp2_with fail
  refine (retBL (specSameFacts_any _ _ rl rl f2 f4 _ (hr.below' (by (repeat (first | exact (bt D3 D4) | exact Below.refl _ _ | refine ba ?_ | refine bdr ?_ | refine bs ?_ (by omega))); done)) (hr4.below' (by (repeat (first | exact (Below.refl _ _) | exact Below.refl _ _ | refine ba ?_ | refine bdr ?_ | refine bs ?_ (by omega))); done))) (decide_eq_true rfl)).mono ?_
  rintro e w5 ⟨rfl, hb5⟩
  have D5 : Below w4.heap.size w4 w5 := bt (by (repeat (first | exact (Below.refl _ _) | exact Below.refl _ _ | refine ba ?_ | refine bdr ?_ | refine bs ?_ (by omega))); done) hb5
  have b6c0 : w5.cell? ⟨w1.heap.size, 0, none⟩ = some (.int .i64 x.meth) := cell_below b6b0 (bt (bt D3 D4) D5)
  have b6c1 : w5.cell? ⟨w1.heap.size, 1, none⟩ = some (.slice px x.vals.length qx) := cell_below b6b1 (bt (bt D3 D4) D5)
  go_wp2_with fail
  refine (specMatchesOf_any _ s fs _ ml fl _ fa ff x _ fx _ (hs.below' (by (repeat (first | exact (bt (bt (bt D2 D3) D4) D5) | exact Below.refl _ _ | refine ba ?_ | refine bdr ?_ | refine bs ?_ (by omega))); done)) (hml.below' (by (repeat (first | exact (bt (bt (bt D2 D3) D4) D5) | exact Below.refl _ _ | refine ba ?_ | refine bdr ?_ | refine bs ?_ (by omega))); done)) (hf.below' (by (repeat (first | exact (bt (bt (bt D2 D3) D4) D5) | exact Below.refl _ _ | refine ba ?_ | refine bdr ?_ | refine bs ?_ (by omega))); done)) (hx.below' (by (repeat (first | exact (bt (bt (bt D2 D3) D4) D5) | exact Below.refl _ _ | refine ba ?_ | refine bdr ?_ | refine bs ?_ (by omega))); done)) hn10 Hln.out).mono ?_
  rintro e w6 ⟨v6, f6, rfl, hm6, hmf6, hb6⟩
  have D6 : Below w5.heap.size w5 w6 := bt (by (repeat (first | exact (Below.refl _ _) | exact Below.refl _ _ | refine ba ?_ | refine bdr ?_ | refine bs ?_ (by omega))); done) hb6
  clear b6c0 b6c1
  rw [← Hxl.out] at hm6
  clear hmf6
  obtain ⟨p6, q6, rfl⟩ := slR.form hm6
  go_wp2_with fail
  refine (retBL (specSameFacts_any _ _ xl xl f3 f6 _ (hm.below' (by (repeat (first | exact (bt (bt D4 D5) D6) | exact Below.refl _ _ | refine ba ?_ | refine bdr ?_ | refine bs ?_ (by omega))); done)) (hm6.below' (by (repeat (first | exact (Below.refl _ _) | exact Below.refl _ _ | refine ba ?_ | refine bdr ?_ | refine bs ?_ (by omega))); done))) (decide_eq_true rfl)).mono ?_
  rintro e w7 ⟨rfl, hb7⟩
  have D7 : Below w6.heap.size w6 w7 := bt (by (repeat (first | exact (Below.refl _ _) | exact Below.refl _ _ | refine ba ?_ | refine bdr ?_ | refine bs ?_ (by omega))); done) hb7
  clear hr4 hm6
  go_wp2_with fail
  refine (inside_any _ _ rl xl f2 f3 _ (hr.below' (by (repeat (first | exact (bt (bt (bt (bt D3 D4) D5) D6) D7) | exact Below.refl _ _ | refine ba ?_ | refine bdr ?_ | refine bs ?_ (by omega))); done)) (hm.below' (by (repeat (first | exact (bt (bt (bt D4 D5) D6) D7) | exact Below.refl _ _ | refine ba ?_ | refine bdr ?_ | refine bs ?_ (by omega))); done)) (fun y hy => hasFactB_iff.2 (by rw [Hxl.out]; rw [Hrl.out] at hy; exact respond_sub y hy))).mono ?_
  rintro e w8 ⟨rfl, hb8⟩
  have D8 : Below w7.heap.size w7 w8 := bt (by (repeat (first | exact (Below.refl _ _) | exact Below.refl _ _ | refine ba ?_ | refine bdr ?_ | refine bs ?_ (by omega))); done) hb8
  go_wp2_with fail
  refine (inside_any _ _ xl fa f3 ff _ (hm.below' (by (repeat (first | exact (bt (bt (bt (bt D4 D5) D6) D7) D8) | exact Below.refl _ _ | refine ba ?_ | refine bdr ?_ | refine bs ?_ (by omega))); done)) (hf.below' (by (repeat (first | exact (bt (bt (bt (bt (bt (bt D2 D3) D4) D5) D6) D7) D8) | exact Below.refl _ _ | refine ba ?_ | refine bdr ?_ | refine bs ?_ (by omega))); done)) (fun y hy => hasFactB_iff.2 (by rw [Hxl.out] at hy; exact match_sub y hy))).mono ?_
  rintro e w9 ⟨rfl, hb9⟩
  have D9 : Below w8.heap.size w8 w9 := bt (by (repeat (first | exact (Below.refl _ _) | exact Below.refl _ _ | refine ba ?_ | refine bdr ?_ | refine bs ?_ (by omega))); done) hb9
  have b6c0 : w9.cell? ⟨w1.heap.size, 0, none⟩ = some (.int .i64 x.meth) := cell_below b6b0 (bt (bt (bt (bt (bt (bt D3 D4) D5) D6) D7) D8) D9)
  have b6c1 : w9.cell? ⟨w1.heap.size, 1, none⟩ = some (.slice px x.vals.length qx) := cell_below b6b1 (bt (bt (bt (bt (bt (bt D3 D4) D5) D6) D7) D8) D9)
  go_upto_region 8 with fail
  go_cut [94] from 25 (fun s94 wr => s94 = .bool false ∧ Below w9.heap.size w9 wr)
  case first =>
    cases hA : accB s ml x with
    | false =>
      go_wp2_with fail
      refine (retBL (specIsAccess_any _ s fs _ ml fl x _ fx _ (hs.below' (by (repeat (first | exact (bt (bt (bt (bt (bt (bt (bt D2 D3) D4) D5) D6) D7) D8) D9) | exact Below.refl _ _ | refine ba ?_ | refine bdr ?_ | refine bs ?_ (by omega))); done)) (hml.below' (by (repeat (first | exact (bt (bt (bt (bt (bt (bt (bt D2 D3) D4) D5) D6) D7) D8) D9) | exact Below.refl _ _ | refine ba ?_ | refine bdr ?_ | refine bs ?_ (by omega))); done)) (hx.below' (by (repeat (first | exact (bt (bt (bt (bt (bt (bt (bt D2 D3) D4) D5) D6) D7) D8) D9) | exact Below.refl _ _ | refine ba ?_ | refine bdr ?_ | refine bs ?_ (by omega))); done))) hA).mono ?_
      rintro e w10 ⟨rfl, hb10⟩
      have D10 : Below w9.heap.size w9 w10 := bt (by (repeat (first | exact (Below.refl _ _) | exact Below.refl _ _ | refine ba ?_ | refine bdr ?_ | refine bs ?_ (by omega))); done) hb10
      clear b6c0 b6c1
      go_wp2_with fail
      go_meet
      exact ⟨rfl, D10⟩
    | true =>
      go_wp2_with fail
      refine (retBL (specIsAccess_any _ s fs _ ml fl x _ fx _ (hs.below' (by (repeat (first | exact (bt (bt (bt (bt (bt (bt (bt D2 D3) D4) D5) D6) D7) D8) D9) | exact Below.refl _ _ | refine ba ?_ | refine bdr ?_ | refine bs ?_ (by omega))); done)) (hml.below' (by (repeat (first | exact (bt (bt (bt (bt (bt (bt (bt D2 D3) D4) D5) D6) D7) D8) D9) | exact Below.refl _ _ | refine ba ?_ | refine bdr ?_ | refine bs ?_ (by omega))); done)) (hx.below' (by (repeat (first | exact (bt (bt (bt (bt (bt (bt (bt D2 D3) D4) D5) D6) D7) D8) D9) | exact Below.refl _ _ | refine ba ?_ | refine bdr ?_ | refine bs ?_ (by omega))); done))) hA).mono ?_
      rintro e w10 ⟨rfl, hb10⟩
      have D10 : Below w9.heap.size w9 w10 := bt (by (repeat (first | exact (Below.refl _ _) | exact Below.refl _ _ | refine ba ?_ | refine bdr ?_ | refine bs ?_ (by omega))); done) hb10
      clear b6c0 b6c1
      cases hB : factsB s fa with
      | false =>
        go_wp2_with fail
        refine (retBL (specAreFacts_any _ s fs _ fa ff _ (hs.below' (by (repeat (first | exact (bt (bt (bt (bt (bt (bt (bt (bt D2 D3) D4) D5) D6) D7) D8) D9) D10) | exact Below.refl _ _ | refine ba ?_ | refine bdr ?_ | refine bs ?_ (by omega))); done)) (hf.below' (by (repeat (first | exact (bt (bt (bt (bt (bt (bt (bt (bt D2 D3) D4) D5) D6) D7) D8) D9) D10) | exact Below.refl _ _ | refine ba ?_ | refine bdr ?_ | refine bs ?_ (by omega))); done))) hB).mono ?_
        rintro e w11 ⟨rfl, hb11⟩
        have D11 : Below w10.heap.size w10 w11 := bt (by (repeat (first | exact (Below.refl _ _) | exact Below.refl _ _ | refine ba ?_ | refine bdr ?_ | refine bs ?_ (by omega))); done) hb11
        go_wp2_with fail
        go_meet
        exact ⟨rfl, (bt D10 D11)⟩
      | true =>
        go_wp2_with fail
        refine (retBL (specAreFacts_any _ s fs _ fa ff _ (hs.below' (by (repeat (first | exact (bt (bt (bt (bt (bt (bt (bt (bt D2 D3) D4) D5) D6) D7) D8) D9) D10) | exact Below.refl _ _ | refine ba ?_ | refine bdr ?_ | refine bs ?_ (by omega))); done)) (hf.below' (by (repeat (first | exact (bt (bt (bt (bt (bt (bt (bt (bt D2 D3) D4) D5) D6) D7) D8) D9) D10) | exact Below.refl _ _ | refine ba ?_ | refine bdr ?_ | refine bs ?_ (by omega))); done))) hB).mono ?_
        rintro e w11 ⟨rfl, hb11⟩
        have D11 : Below w10.heap.size w10 w11 := bt (by (repeat (first | exact (Below.refl _ _) | exact Below.refl _ _ | refine ba ?_ | refine bdr ?_ | refine bs ?_ (by omega))); done) hb11
        have b6c0 : w11.cell? ⟨w1.heap.size, 0, none⟩ = some (.int .i64 x.meth) := cell_below b6b0 (bt (bt (bt (bt (bt (bt (bt (bt D3 D4) D5) D6) D7) D8) D9) D10) D11)
        have b6c1 : w11.cell? ⟨w1.heap.size, 1, none⟩ = some (.slice px x.vals.length qx) := cell_below b6b1 (bt (bt (bt (bt (bt (bt (bt (bt D3 D4) D5) D6) D7) D8) D9) D10) D11)
        go_wp2_with fail
        refine (retBL (implIsResponse_any _ s fs _ ml fl _ fa ff x _ fx _ rl f2 _ (hs.below' (by (repeat (first | exact (bt (bt (bt (bt (bt (bt (bt (bt (bt D2 D3) D4) D5) D6) D7) D8) D9) D10) D11) | exact Below.refl _ _ | refine ba ?_ | refine bdr ?_ | refine bs ?_ (by omega))); done)) (hml.below' (by (repeat (first | exact (bt (bt (bt (bt (bt (bt (bt (bt (bt D2 D3) D4) D5) D6) D7) D8) D9) D10) D11) | exact Below.refl _ _ | refine ba ?_ | refine bdr ?_ | refine bs ?_ (by omega))); done)) (hf.below' (by (repeat (first | exact (bt (bt (bt (bt (bt (bt (bt (bt (bt D2 D3) D4) D5) D6) D7) D8) D9) D10) D11) | exact Below.refl _ _ | refine ba ?_ | refine bdr ?_ | refine bs ?_ (by omega))); done)) (hx.below' (by (repeat (first | exact (bt (bt (bt (bt (bt (bt (bt (bt (bt D2 D3) D4) D5) D6) D7) D8) D9) D10) D11) | exact Below.refl _ _ | refine ba ?_ | refine bdr ?_ | refine bs ?_ (by omega))); done)) (hr.below' (by (repeat (first | exact (bt (bt (bt (bt (bt (bt (bt (bt D3 D4) D5) D6) D7) D8) D9) D10) D11) | exact Below.refl _ _ | refine ba ?_ | refine bdr ?_ | refine bs ?_ (by omega))); done)) hn10 Hln.out) (show respB s ml fa x rl = true by rw [Hrl.out]; exact respond_ok hA hB)).mono ?_
        rintro e w12 ⟨rfl, hb12⟩
        have D12 : Below w11.heap.size w11 w12 := bt (by (repeat (first | exact (Below.refl _ _) | exact Below.refl _ _ | refine ba ?_ | refine bdr ?_ | refine bs ?_ (by omega))); done) hb12
        clear b6c0 b6c1
        go_wp2_with fail
        go_meet
        exact ⟨rfl, (bt (bt D10 D11) D12)⟩
  case rest =>
  obtain ⟨rfl, D10⟩ := hcut
  obtain ⟨w10, ew⟩ : ∃ x, x = wc := ⟨_, rfl⟩
  subst ew
  clear hr hm Hrl Hxl hf hn10 Hln hf9
  go_wp2_with fail
  refine (DrawIsMethod_any b cap l _ (g0.below' (by (repeat (first | exact (bt (bt (bt (bt (bt (bt (bt (bt (bt D1 D2) D3) D4) D5) D6) D7) D8) D9) D10) | exact Below.refl _ _ | refine ba ?_ | refine bdr ?_ | refine bs ?_ (by omega))); done)) hn).mono ?_
  rintro e w11 ⟨vt, t, ft, m, vi, fi, rfl, ht, ht4, hmI, hi, hi4, hb11⟩
  have D11 : Below w10.heap.size w10 w11 := bt (by (repeat (first | exact (Below.refl _ _) | exact Below.refl _ _ | refine ba ?_ | refine bdr ?_ | refine bs ?_ (by omega))); done) hb11
  obtain ⟨pt, qt, rfl⟩ := slR.form ht
  obtain ⟨pi, qi, rfl⟩ := slR.form hi
  have hsm := methFS_small hmI hi hi4
  have hi20 : m.inputs.length ≤ 1048576 := by omega
  clear hmI
  go_wp2_with fail
  refine (implFormatMethod_any m _ fi _ (hi.below' (by (repeat (first | exact (Below.refl _ _) | exact Below.refl _ _ | refine ba ?_ | refine bdr ?_ | refine bs ?_ (by omega))); done)) hi20 (Tab.on HLW.out.2.2.1 (by (repeat (first | exact (bt (bt (bt (bt (bt (bt (bt (bt (bt (bt D1 D2) D3) D4) D5) D6) D7) D8) D9) D10) D11) | exact Below.refl _ _ | refine ba ?_ | refine bdr ?_ | refine bs ?_ (by omega))); done))).mono ?_
  rintro e w12 ⟨rfl, hb12⟩
  have D12 : Below w11.heap.size w11 w12 := bt (by (repeat (first | exact (Below.refl _ _) | exact Below.refl _ _ | refine ba ?_ | refine bdr ?_ | refine bs ?_ (by omega))); done) hb12
  have b11b0 : w12.cell? ⟨w11.heap.size, 0, none⟩ = some (.int .i64 m.rel) := cell_below (by first | exact cell_new _ _ _ 0 _ rfl | exact cell_al (cell_new _ _ _ 0 _ rfl) _ | exact cell_at _ _ (by simp only [World.alloc, Array.size_push]) _ _ 0 _ rfl) hb12
  have b11b1 : w12.cell? ⟨w11.heap.size, 1, none⟩ = some (.slice pi m.inputs.length qi) := cell_below (by first | exact cell_new _ _ _ 1 _ rfl | exact cell_al (cell_new _ _ _ 1 _ rfl) _ | exact cell_at _ _ (by simp only [World.alloc, Array.size_push]) _ _ 1 _ rfl) hb12
  have b11b2 : w12.cell? ⟨w11.heap.size, 2, none⟩ = some (.int .i64 m.limit) := cell_below (by first | exact cell_new _ _ _ 2 _ rfl | exact cell_al (cell_new _ _ _ 2 _ rfl) _ | exact cell_at _ _ (by simp only [World.alloc, Array.size_push]) _ _ 2 _ rfl) hb12
  have b11b3 : w12.cell? ⟨w11.heap.size, 3, none⟩ = some (.int .i64 m.cost) := cell_below (by first | exact cell_new _ _ _ 3 _ rfl | exact cell_al (cell_new _ _ _ 3 _ rfl) _ | exact cell_at _ _ (by simp only [World.alloc, Array.size_push]) _ _ 3 _ rfl) hb12
  have b11b4 : w12.cell? ⟨w11.heap.size, 4, none⟩ = some (.int .i64 m.quota) := cell_below (by first | exact cell_new _ _ _ 4 _ rfl | exact cell_al (cell_new _ _ _ 4 _ rfl) _ | exact cell_at _ _ (by simp only [World.alloc, Array.size_push]) _ _ 4 _ rfl) hb12
  obtain ⟨ts, Hts⟩ : ∃ ts : ByteArray, ts = ⟨(methFS m).toArray⟩ := ⟨_, rfl⟩
  have hsz : ts.size ≤ 1048576 := by rw [Hts]; simp only [ByteArray.size, List.size_toArray]; omega
  have htl : ts.data.toList = methFS m := by rw [Hts]
  rw [← Hts]
  have HT := Lib.hid Hts
  clear Hts hsm
  go_wp2_with fail
  refine (implParseMethod_any _ t ft ts _ (ht.below' (by (repeat (first | exact D12 | exact Below.refl _ _ | refine ba ?_ | refine bdr ?_ | refine bs ?_ (by omega))); done)) hsz (HLW.out.on (by (repeat (first | exact (bt (bt (bt (bt (bt (bt (bt (bt (bt (bt (bt D1 D2) D3) D4) D5) D6) D7) D8) D9) D10) D11) D12) | exact Below.refl _ _ | refine ba ?_ | refine bdr ?_ | refine bs ?_ (by omega))); done))).mono ?_
  rintro e w13 ⟨y, k, vy, fy, rfl, hF, hy, hyf, hb13⟩
  have D13 : Below w12.heap.size w12 w13 := bt (by (repeat (first | exact (Below.refl _ _) | exact Below.refl _ _ | refine ba ?_ | refine bdr ?_ | refine bs ?_ (by omega))); done) hb13
  rw [htl] at hF
  obtain ⟨hk, hkx⟩ := methIs_self hF
  have Hk := Lib.hid hk
  have Hkx := Lib.hid hkx
  clear hk hkx hF htl hsz hyf
  obtain ⟨py, qy, rfl⟩ := slR.form hy
  go_wp2_with fail
  refine (DrawIsResponse_any b cap l _ (g0.below' (by (repeat (first | exact (bt (bt (bt (bt (bt (bt (bt (bt (bt (bt (bt (bt D1 D2) D3) D4) D5) D6) D7) D8) D9) D10) D11) D12) D13) | exact Below.refl _ _ | refine ba ?_ | refine bdr ?_ | refine bs ?_ (by omega))); done)) hn).mono ?_
  rintro e w14 ⟨vu, u, fu, vv, vm, fv, vw, wf, fw, z, vz, fz, vrp, rp, rfl, hu, hvm, hwf, ⟨hw9, hwv⟩, hzI, hz, hrp, hb14⟩
  have D14 : Below w13.heap.size w13 w14 := bt (by (repeat (first | exact (Below.refl _ _) | exact Below.refl _ _ | refine ba ?_ | refine bdr ?_ | refine bs ?_ (by omega))); done) hb14
  have b13b0 : w14.cell? ⟨w13.heap.size, 0, none⟩ = some (.int .i64 y.rel) := cell_below (by first | exact cell_new _ _ _ 0 _ rfl | exact cell_al (cell_new _ _ _ 0 _ rfl) _ | exact cell_at _ _ (by simp only [World.alloc, Array.size_push]) _ _ 0 _ rfl) hb14
  have b13b1 : w14.cell? ⟨w13.heap.size, 1, none⟩ = some (.slice py y.inputs.length qy) := cell_below (by first | exact cell_new _ _ _ 1 _ rfl | exact cell_al (cell_new _ _ _ 1 _ rfl) _ | exact cell_at _ _ (by simp only [World.alloc, Array.size_push]) _ _ 1 _ rfl) hb14
  have b13b2 : w14.cell? ⟨w13.heap.size, 2, none⟩ = some (.int .i64 y.limit) := cell_below (by first | exact cell_new _ _ _ 2 _ rfl | exact cell_al (cell_new _ _ _ 2 _ rfl) _ | exact cell_at _ _ (by simp only [World.alloc, Array.size_push]) _ _ 2 _ rfl) hb14
  have b13b3 : w14.cell? ⟨w13.heap.size, 3, none⟩ = some (.int .i64 y.cost) := cell_below (by first | exact cell_new _ _ _ 3 _ rfl | exact cell_al (cell_new _ _ _ 3 _ rfl) _ | exact cell_at _ _ (by simp only [World.alloc, Array.size_push]) _ _ 3 _ rfl) hb14
  have b13b4 : w14.cell? ⟨w13.heap.size, 4, none⟩ = some (.int .i64 y.quota) := cell_below (by first | exact cell_new _ _ _ 4 _ rfl | exact cell_al (cell_new _ _ _ 4 _ rfl) _ | exact cell_at _ _ (by simp only [World.alloc, Array.size_push]) _ _ 4 _ rfl) hb14
  obtain ⟨pu, qu, rfl⟩ := slR.form hu
  obtain ⟨pv, qv, rfl⟩ := slR.form hvm
  obtain ⟨pw, qw, rfl⟩ := slR.form hwf
  obtain ⟨pz, qz, rfl⟩ := slR.form hz
  have hw10 : wf.length ≤ 1048576 := by omega
  have Hwv := Lib.hid (show ∀ y ∈ wf, y.vals.length ≤ 1048576 from fun y hy => by have := hwv.out y hy; omega)
  clear hwv
  go_wp2_with fail
  refine (DrawAreMethods_any b cap l _ (g0.below' (by (repeat (first | exact (bt (bt (bt (bt (bt (bt (bt (bt (bt (bt (bt (bt (bt D1 D2) D3) D4) D5) D6) D7) D8) D9) D10) D11) D12) D13) D14) | exact Below.refl _ _ | refine ba ?_ | refine bdr ?_ | refine bs ?_ (by omega))); done)) hn).mono ?_
  rintro e w15 ⟨va, a, fa2, vq, qm2, fq, rfl, ha, ha4, hq, hq5, hqi, hb15⟩
  have D15 : Below w14.heap.size w14 w15 := bt (by (repeat (first | exact (Below.refl _ _) | exact Below.refl _ _ | refine ba ?_ | refine bdr ?_ | refine bs ?_ (by omega))); done) hb15
  have b18b0 : w15.cell? ⟨w14.heap.size, 0, none⟩ = some (.int .i64 z.meth) := cell_below (by first | exact cell_new _ _ _ 0 _ rfl | exact cell_al (cell_new _ _ _ 0 _ rfl) _ | exact cell_at _ _ (by simp only [World.alloc, Array.size_push]) _ _ 0 _ rfl) hb15
  have b18b1 : w15.cell? ⟨w14.heap.size, 1, none⟩ = some (.slice pz z.vals.length qz) := cell_below (by first | exact cell_new _ _ _ 1 _ rfl | exact cell_al (cell_new _ _ _ 1 _ rfl) _ | exact cell_at _ _ (by simp only [World.alloc, Array.size_push]) _ _ 1 _ rfl) hb15
  obtain ⟨pa, qa, rfl⟩ := slR.form ha
  obtain ⟨pq, qq, rfl⟩ := slR.form hq
  clear hqi
  go_wp2_with fail
  refine (DrawFormatAccess_any b cap l _ (g0.below' (by (repeat (first | exact (bt (bt (bt (bt (bt (bt (bt (bt (bt (bt (bt (bt (bt (bt D1 D2) D3) D4) D5) D6) D7) D8) D9) D10) D11) D12) D13) D14) D15) | exact Below.refl _ _ | refine ba ?_ | refine bdr ?_ | refine bs ?_ (by omega))); done)) hn).mono ?_
  rintro e w16 ⟨c, vc, fc, rfl, hcI, hc, hc5, hb16⟩
  have D16 : Below w15.heap.size w15 w16 := bt (by (repeat (first | exact (Below.refl _ _) | exact Below.refl _ _ | refine ba ?_ | refine bdr ?_ | refine bs ?_ (by omega))); done) hb16
  obtain ⟨pc, qc, rfl⟩ := slR.form hc
  go_wp2_with fail
  refine (DrawSameAccesses_any b cap l _ (g0.below' (by (repeat (first | exact (bt (bt (bt (bt (bt (bt (bt (bt (bt (bt (bt (bt (bt (bt (bt D1 D2) D3) D4) D5) D6) D7) D8) D9) D10) D11) D12) D13) D14) D15) D16) | exact Below.refl _ _ | refine ba ?_ | refine bdr ?_ | refine bs ?_ (by omega))); done)) hn).mono ?_
  rintro e w17 ⟨vd, da, fd, ve, ea, fe, rfl, hd, he, hb17⟩
  have D17 : Below w16.heap.size w16 w17 := bt (by (repeat (first | exact (Below.refl _ _) | exact Below.refl _ _ | refine ba ?_ | refine bdr ?_ | refine bs ?_ (by omega))); done) hb17
  have b22b0 : w17.cell? ⟨w16.heap.size, 0, none⟩ = some (.int .i64 c.meth) := cell_below (by first | exact cell_new _ _ _ 0 _ rfl | exact cell_al (cell_new _ _ _ 0 _ rfl) _ | exact cell_at _ _ (by simp only [World.alloc, Array.size_push]) _ _ 0 _ rfl) hb17
  have b22b1 : w17.cell? ⟨w16.heap.size, 1, none⟩ = some (.slice pc c.vals.length qc) := cell_below (by first | exact cell_new _ _ _ 1 _ rfl | exact cell_al (cell_new _ _ _ 1 _ rfl) _ | exact cell_at _ _ (by simp only [World.alloc, Array.size_push]) _ _ 1 _ rfl) hb17
  obtain ⟨pd, qd, rfl⟩ := slR.form hd
  obtain ⟨pe, qe, rfl⟩ := slR.form he
  obtain ⟨rR, hrR⟩ : ∃ r, r = respB u vm wf z rp := ⟨_, rfl⟩
  have HrR := Lib.hid hrR.symm
  obtain ⟨rM, hrM⟩ : ∃ r, r = methsB a qm2 := ⟨_, rfl⟩
  have HrM := Lib.hid hrM.symm
  obtain ⟨rD, hrD⟩ : ∃ r, r = decide (da = ea) := ⟨_, rfl⟩
  have HrD := Lib.hid hrD.symm
  obtain ⟨rA, hrA⟩ : ∃ r, r = accB s ml x := ⟨_, rfl⟩
  have HrA := Lib.hid hrA.symm
  obtain ⟨tA, htA⟩ : ∃ t : ByteArray, t = ⟨(accessFS c).toArray⟩ := ⟨_, rfl⟩
  have HtA := Lib.hid htA.symm
  clear hrR hrM hrD hrA htA
  cases k with
  | true =>
   as_aux_lemma =>
    obtain rfl : m = y := (Hkx.out rfl).symm
    have b6c0 : w17.cell? ⟨w1.heap.size, 0, none⟩ = some (.int .i64 x.meth) := cell_below b6b0 (bt (bt (bt (bt (bt (bt (bt (bt (bt (bt (bt (bt (bt (bt D3 D4) D5) D6) D7) D8) D9) D10) D11) D12) D13) D14) D15) D16) D17)
    have b6c1 : w17.cell? ⟨w1.heap.size, 1, none⟩ = some (.slice px x.vals.length qx) := cell_below b6b1 (bt (bt (bt (bt (bt (bt (bt (bt (bt (bt (bt (bt (bt (bt D3 D4) D5) D6) D7) D8) D9) D10) D11) D12) D13) D14) D15) D16) D17)
    have b11c0 : w17.cell? ⟨w11.heap.size, 0, none⟩ = some (.int .i64 m.rel) := cell_below b11b0 (bt (bt (bt (bt D13 D14) D15) D16) D17)
    have b11c1 : w17.cell? ⟨w11.heap.size, 1, none⟩ = some (.slice pi m.inputs.length qi) := cell_below b11b1 (bt (bt (bt (bt D13 D14) D15) D16) D17)
    have b11c2 : w17.cell? ⟨w11.heap.size, 2, none⟩ = some (.int .i64 m.limit) := cell_below b11b2 (bt (bt (bt (bt D13 D14) D15) D16) D17)
    have b11c3 : w17.cell? ⟨w11.heap.size, 3, none⟩ = some (.int .i64 m.cost) := cell_below b11b3 (bt (bt (bt (bt D13 D14) D15) D16) D17)
    have b11c4 : w17.cell? ⟨w11.heap.size, 4, none⟩ = some (.int .i64 m.quota) := cell_below b11b4 (bt (bt (bt (bt D13 D14) D15) D16) D17)
    have b18c0 : w17.cell? ⟨w14.heap.size, 0, none⟩ = some (.int .i64 z.meth) := cell_below b18b0 (bt D16 D17)
    have b18c1 : w17.cell? ⟨w14.heap.size, 1, none⟩ = some (.slice pz z.vals.length qz) := cell_below b18b1 (bt D16 D17)
    have b22c0 : w17.cell? ⟨w16.heap.size, 0, none⟩ = some (.int .i64 c.meth) := cell_below b22b0 (Below.refl _ _)
    have b22c1 : w17.cell? ⟨w16.heap.size, 1, none⟩ = some (.slice pc c.vals.length qc) := cell_below b22b1 (Below.refl _ _)
    have b13c0 : w17.cell? ⟨w13.heap.size, 0, none⟩ = some (.int .i64 m.rel) := cell_below b13b0 (bt (bt D15 D16) D17)
    have b13c1 : w17.cell? ⟨w13.heap.size, 1, none⟩ = some (.slice py m.inputs.length qy) := cell_below b13b1 (bt (bt D15 D16) D17)
    have b13c2 : w17.cell? ⟨w13.heap.size, 2, none⟩ = some (.int .i64 m.limit) := cell_below b13b2 (bt (bt D15 D16) D17)
    have b13c3 : w17.cell? ⟨w13.heap.size, 3, none⟩ = some (.int .i64 m.cost) := cell_below b13b3 (bt (bt D15 D16) D17)
    have b13c4 : w17.cell? ⟨w13.heap.size, 4, none⟩ = some (.int .i64 m.quota) := cell_below b13b4 (bt (bt D15 D16) D17)
    have b6L0 : ∀ q : Lat w17, q.wd.cell? ⟨w1.heap.size, 0, none⟩ = some (.int .i64 x.meth) := fun q => q.cell b6c0
    have b6L1 : ∀ q : Lat w17, q.wd.cell? ⟨w1.heap.size, 1, none⟩ = some (.slice px x.vals.length qx) := fun q => q.cell b6c1
    have b11L0 : ∀ q : Lat w17, q.wd.cell? ⟨w11.heap.size, 0, none⟩ = some (.int .i64 m.rel) := fun q => q.cell b11c0
    have b11L1 : ∀ q : Lat w17, q.wd.cell? ⟨w11.heap.size, 1, none⟩ = some (.slice pi m.inputs.length qi) := fun q => q.cell b11c1
    have b11L2 : ∀ q : Lat w17, q.wd.cell? ⟨w11.heap.size, 2, none⟩ = some (.int .i64 m.limit) := fun q => q.cell b11c2
    have b11L3 : ∀ q : Lat w17, q.wd.cell? ⟨w11.heap.size, 3, none⟩ = some (.int .i64 m.cost) := fun q => q.cell b11c3
    have b11L4 : ∀ q : Lat w17, q.wd.cell? ⟨w11.heap.size, 4, none⟩ = some (.int .i64 m.quota) := fun q => q.cell b11c4
    have b18L0 : ∀ q : Lat w17, q.wd.cell? ⟨w14.heap.size, 0, none⟩ = some (.int .i64 z.meth) := fun q => q.cell b18c0
    have b18L1 : ∀ q : Lat w17, q.wd.cell? ⟨w14.heap.size, 1, none⟩ = some (.slice pz z.vals.length qz) := fun q => q.cell b18c1
    have b22L0 : ∀ q : Lat w17, q.wd.cell? ⟨w16.heap.size, 0, none⟩ = some (.int .i64 c.meth) := fun q => q.cell b22c0
    have b22L1 : ∀ q : Lat w17, q.wd.cell? ⟨w16.heap.size, 1, none⟩ = some (.slice pc c.vals.length qc) := fun q => q.cell b22c1
    have b13L0 : ∀ q : Lat w17, q.wd.cell? ⟨w13.heap.size, 0, none⟩ = some (.int .i64 m.rel) := fun q => q.cell b13c0
    have b13L1 : ∀ q : Lat w17, q.wd.cell? ⟨w13.heap.size, 1, none⟩ = some (.slice py m.inputs.length qy) := fun q => q.cell b13c1
    have b13L2 : ∀ q : Lat w17, q.wd.cell? ⟨w13.heap.size, 2, none⟩ = some (.int .i64 m.limit) := fun q => q.cell b13c2
    have b13L3 : ∀ q : Lat w17, q.wd.cell? ⟨w13.heap.size, 3, none⟩ = some (.int .i64 m.cost) := fun q => q.cell b13c3
    have b13L4 : ∀ q : Lat w17, q.wd.cell? ⟨w13.heap.size, 4, none⟩ = some (.int .i64 m.quota) := fun q => q.cell b13c4
    clear b6c0 b6c1 b11c0 b11c1 b11c2 b11c3 b11c4 b18c0 b18c1 b22c0 b22c1 b13c0 b13c1 b13c2 b13c3 b13c4
    have VT : ∀ q : Lat w17, ints q.wd (.slice pt t.length qt) t ft := fun q => (ht.below' (bt (bt (bt (bt (bt D12 D13) D14) D15) D16) D17)).below' q.ok
    have VI : ∀ q : Lat w17, ints q.wd (.slice pi m.inputs.length qi) m.inputs fi := fun q => (hi.below' (bt (bt (bt (bt (bt D12 D13) D14) D15) D16) D17)).below' q.ok
    have VU : ∀ q : Lat w17, ints q.wd (.slice pu u.length qu) u fu := fun q => (hu.below' (bt (bt D15 D16) D17)).below' q.ok
    have VV : ∀ q : Lat w17, meths q.wd (.slice pv vm.length qv) vm fv := fun q => (hvm.below' (bt (bt D15 D16) D17)).below' q.ok
    have VW : ∀ q : Lat w17, facts q.wd (.slice pw wf.length qw) wf fw := fun q => (hwf.below' (bt (bt D15 D16) D17)).below' q.ok
    have VZ : ∀ q : Lat w17, ints q.wd (.slice pz z.vals.length qz) z.vals fz := fun q => (hz.below' (bt (bt D15 D16) D17)).below' q.ok
    have VA : ∀ q : Lat w17, ints q.wd (.slice pa a.length qa) a fa2 := fun q => (ha.below' (bt D16 D17)).below' q.ok
    have VQ : ∀ q : Lat w17, meths q.wd (.slice pq qm2.length qq) qm2 fq := fun q => (hq.below' (bt D16 D17)).below' q.ok
    have VC : ∀ q : Lat w17, ints q.wd (.slice pc c.vals.length qc) c.vals fc := fun q => (hc.below' D17).below' q.ok
    have VD : ∀ q : Lat w17, accs q.wd (.slice pd da.length qd) da fd := fun q => (hd.below' (Below.refl _ _)).below' q.ok
    have VE : ∀ q : Lat w17, accs q.wd (.slice pe ea.length qe) ea fe := fun q => (he.below' (Below.refl _ _)).below' q.ok
    have VS : ∀ q : Lat w17, ints q.wd (.slice ps s.length qs) s fs := fun q => (hs.below' (bt (bt (bt (bt (bt (bt (bt (bt (bt (bt (bt (bt (bt (bt (bt D2 D3) D4) D5) D6) D7) D8) D9) D10) D11) D12) D13) D14) D15) D16) D17)).below' q.ok
    have VL : ∀ q : Lat w17, meths q.wd (.slice pl ml.length ql) ml fl := fun q => (hml.below' (bt (bt (bt (bt (bt (bt (bt (bt (bt (bt (bt (bt (bt (bt (bt D2 D3) D4) D5) D6) D7) D8) D9) D10) D11) D12) D13) D14) D15) D16) D17)).below' q.ok
    have VX : ∀ q : Lat w17, ints q.wd (.slice px x.vals.length qx) x.vals fx := fun q => (hx.below' (bt (bt (bt (bt (bt (bt (bt (bt (bt (bt (bt (bt (bt (bt (bt D2 D3) D4) D5) D6) D7) D8) D9) D10) D11) D12) D13) D14) D15) D16) D17)).below' q.ok
    have VY : ∀ q : Lat w17, ints q.wd (.slice py m.inputs.length qy) m.inputs fy := fun q => (hy.below' (bt (bt (bt D14 D15) D16) D17)).below' q.ok
    have VR : ∀ q : Lat w17, RepR q.wd vrp rp := fun q => (hrp.below (bt (bt D15 D16) D17)).below q.ok
    have VB : ∀ q : Lat w17, Lib.TabBelow Tryz.prog q.wd.heap.size q.wd "internal/strconv.uint64pow10" .u64 Lib.pow10Tab := fun q => Tab.on HLW.out.2.2.1 (bt (bt (bt (bt (bt (bt (bt (bt (bt (bt (bt (bt (bt (bt (bt (bt (bt D1 D2) D3) D4) D5) D6) D7) D8) D9) D10) D11) D12) D13) D14) D15) D16) D17) q.ok)
    go_wp2_with fail
    refine wp_region_lat w17 (by kernel_rfl) (by kernel_rfl) ?_
    (try simp only [List.append])
    repeat (go_big_quiet_step ((first
        | (go_at_call 24; with_reducible exact Lat.of (retSL (specFormatMethod_any m _ fi _ (VI _) hi20) HT.out.symm))
        | (go_at_call 18; with_reducible exact Lat.of (retSL (implFormatMethod_any m _ fy _ (VY _) hi20 (VB _)) HT.out.symm))
        | (go_at_call 26; with_reducible exact Lat.of (retBL (implIsMethod_any _ t ft m _ fi _ (VT _) (VI _)) Hk.out.symm))
        | (go_at_call 16; with_reducible exact Lat.of (retBL (implIsResponseR_any _ u fu _ vm fv _ wf fw z _ fz _ rp _ (VU _) (VV _) (VW _) (VZ _) (VR _) hw10 Hwv.out) HrR.out))
        | (go_at_call 28; with_reducible exact Lat.of (retBL (implAreMethods_any _ a fa2 _ qm2 fq _ (VA _) (VQ _)) HrM.out))
        | (go_at_call 32; with_reducible exact Lat.of (retBL (implSameAccesses_any _ _ da ea fd fe _ (VD _) (VE _)) HrD.out))
        | (go_at_call 34; with_reducible exact Lat.of (retBL (implIsAccess_any _ s fs _ ml fl x _ fx _ (VS _) (VL _) (VX _)) HrA.out))
        | (go_at_call 25; with_reducible exact Lat.of (retBL (specIsMethod_any _ t ft m _ fi _ (VT _) (VI _)) Hk.out.symm))
        | (go_at_call 27; with_reducible exact Lat.of (retBL (specIsResponseR_any _ u fu _ vm fv _ wf fw z _ fz _ rp _ (VU _) (VV _) (VW _) (VZ _) (VR _) hw10 Hwv.out) HrR.out))
        | (go_at_call 29; with_reducible exact Lat.of (retBL (specAreMethods_any _ a fa2 _ qm2 fq _ (VA _) (VQ _)) HrM.out))
        | (go_at_call 33; with_reducible exact Lat.of (retBL (specSameAccesses_any _ _ da ea fd fe _ (VD _) (VE _)) HrD.out))
        | (go_at_call 14; with_reducible exact Lat.of (retBL (specIsAccess_any _ s fs _ ml fl x _ fx _ (VS _) (VL _) (VX _)) HrA.out))
        | (go_at_call 30; with_reducible exact Lat.of (retSL (implFormatAccess_any c _ fc _ (VC _) (VB _)) HtA.out))
        | (go_at_call 31; with_reducible exact Lat.of (retSL (specFormatAccess_any c _ fc _ (VC _)) HtA.out)))))
    refine wpQuiet_nil ?_
    intro _ hw'
    obtain ⟨x1, hw''⟩ := hw'
    subst hw''
    have hb9 := bt (bt (bt (bt (bt (bt (bt (bt (bt (bt (bt (bt (bt (bt (bt (bt (bt D1 D2) D3) D4) D5) D6) D7) D8) D9) D10) D11) D12) D13) D14) D15) D16) D17) x1.ok
    generalize x1.wd = wz at hb9 ⊢
    clear b6L0 b6L1 b11L0 b11L1 b11L2 b11L3 b11L4 b18L0 b18L1 b22L0 b22L1 b13L0 b13L1 b13L2 b13L3 b13L4 VT VI VU VV VW VZ VA VQ VC VD VE VS VL VX VR VB VY
    go_wp2
    go_ret
    exact ⟨rfl, hb9⟩
  | false =>
   as_aux_lemma =>
    have b6c0 : w17.cell? ⟨w1.heap.size, 0, none⟩ = some (.int .i64 x.meth) := cell_below b6b0 (bt (bt (bt (bt (bt (bt (bt (bt (bt (bt (bt (bt (bt (bt D3 D4) D5) D6) D7) D8) D9) D10) D11) D12) D13) D14) D15) D16) D17)
    have b6c1 : w17.cell? ⟨w1.heap.size, 1, none⟩ = some (.slice px x.vals.length qx) := cell_below b6b1 (bt (bt (bt (bt (bt (bt (bt (bt (bt (bt (bt (bt (bt (bt D3 D4) D5) D6) D7) D8) D9) D10) D11) D12) D13) D14) D15) D16) D17)
    have b11c0 : w17.cell? ⟨w11.heap.size, 0, none⟩ = some (.int .i64 m.rel) := cell_below b11b0 (bt (bt (bt (bt D13 D14) D15) D16) D17)
    have b11c1 : w17.cell? ⟨w11.heap.size, 1, none⟩ = some (.slice pi m.inputs.length qi) := cell_below b11b1 (bt (bt (bt (bt D13 D14) D15) D16) D17)
    have b11c2 : w17.cell? ⟨w11.heap.size, 2, none⟩ = some (.int .i64 m.limit) := cell_below b11b2 (bt (bt (bt (bt D13 D14) D15) D16) D17)
    have b11c3 : w17.cell? ⟨w11.heap.size, 3, none⟩ = some (.int .i64 m.cost) := cell_below b11b3 (bt (bt (bt (bt D13 D14) D15) D16) D17)
    have b11c4 : w17.cell? ⟨w11.heap.size, 4, none⟩ = some (.int .i64 m.quota) := cell_below b11b4 (bt (bt (bt (bt D13 D14) D15) D16) D17)
    have b18c0 : w17.cell? ⟨w14.heap.size, 0, none⟩ = some (.int .i64 z.meth) := cell_below b18b0 (bt D16 D17)
    have b18c1 : w17.cell? ⟨w14.heap.size, 1, none⟩ = some (.slice pz z.vals.length qz) := cell_below b18b1 (bt D16 D17)
    have b22c0 : w17.cell? ⟨w16.heap.size, 0, none⟩ = some (.int .i64 c.meth) := cell_below b22b0 (Below.refl _ _)
    have b22c1 : w17.cell? ⟨w16.heap.size, 1, none⟩ = some (.slice pc c.vals.length qc) := cell_below b22b1 (Below.refl _ _)
    have b6L0 : ∀ q : Lat w17, q.wd.cell? ⟨w1.heap.size, 0, none⟩ = some (.int .i64 x.meth) := fun q => q.cell b6c0
    have b6L1 : ∀ q : Lat w17, q.wd.cell? ⟨w1.heap.size, 1, none⟩ = some (.slice px x.vals.length qx) := fun q => q.cell b6c1
    have b11L0 : ∀ q : Lat w17, q.wd.cell? ⟨w11.heap.size, 0, none⟩ = some (.int .i64 m.rel) := fun q => q.cell b11c0
    have b11L1 : ∀ q : Lat w17, q.wd.cell? ⟨w11.heap.size, 1, none⟩ = some (.slice pi m.inputs.length qi) := fun q => q.cell b11c1
    have b11L2 : ∀ q : Lat w17, q.wd.cell? ⟨w11.heap.size, 2, none⟩ = some (.int .i64 m.limit) := fun q => q.cell b11c2
    have b11L3 : ∀ q : Lat w17, q.wd.cell? ⟨w11.heap.size, 3, none⟩ = some (.int .i64 m.cost) := fun q => q.cell b11c3
    have b11L4 : ∀ q : Lat w17, q.wd.cell? ⟨w11.heap.size, 4, none⟩ = some (.int .i64 m.quota) := fun q => q.cell b11c4
    have b18L0 : ∀ q : Lat w17, q.wd.cell? ⟨w14.heap.size, 0, none⟩ = some (.int .i64 z.meth) := fun q => q.cell b18c0
    have b18L1 : ∀ q : Lat w17, q.wd.cell? ⟨w14.heap.size, 1, none⟩ = some (.slice pz z.vals.length qz) := fun q => q.cell b18c1
    have b22L0 : ∀ q : Lat w17, q.wd.cell? ⟨w16.heap.size, 0, none⟩ = some (.int .i64 c.meth) := fun q => q.cell b22c0
    have b22L1 : ∀ q : Lat w17, q.wd.cell? ⟨w16.heap.size, 1, none⟩ = some (.slice pc c.vals.length qc) := fun q => q.cell b22c1
    clear b6c0 b6c1 b11c0 b11c1 b11c2 b11c3 b11c4 b18c0 b18c1 b22c0 b22c1
    have VT : ∀ q : Lat w17, ints q.wd (.slice pt t.length qt) t ft := fun q => (ht.below' (bt (bt (bt (bt (bt D12 D13) D14) D15) D16) D17)).below' q.ok
    have VI : ∀ q : Lat w17, ints q.wd (.slice pi m.inputs.length qi) m.inputs fi := fun q => (hi.below' (bt (bt (bt (bt (bt D12 D13) D14) D15) D16) D17)).below' q.ok
    have VU : ∀ q : Lat w17, ints q.wd (.slice pu u.length qu) u fu := fun q => (hu.below' (bt (bt D15 D16) D17)).below' q.ok
    have VV : ∀ q : Lat w17, meths q.wd (.slice pv vm.length qv) vm fv := fun q => (hvm.below' (bt (bt D15 D16) D17)).below' q.ok
    have VW : ∀ q : Lat w17, facts q.wd (.slice pw wf.length qw) wf fw := fun q => (hwf.below' (bt (bt D15 D16) D17)).below' q.ok
    have VZ : ∀ q : Lat w17, ints q.wd (.slice pz z.vals.length qz) z.vals fz := fun q => (hz.below' (bt (bt D15 D16) D17)).below' q.ok
    have VA : ∀ q : Lat w17, ints q.wd (.slice pa a.length qa) a fa2 := fun q => (ha.below' (bt D16 D17)).below' q.ok
    have VQ : ∀ q : Lat w17, meths q.wd (.slice pq qm2.length qq) qm2 fq := fun q => (hq.below' (bt D16 D17)).below' q.ok
    have VC : ∀ q : Lat w17, ints q.wd (.slice pc c.vals.length qc) c.vals fc := fun q => (hc.below' D17).below' q.ok
    have VD : ∀ q : Lat w17, accs q.wd (.slice pd da.length qd) da fd := fun q => (hd.below' (Below.refl _ _)).below' q.ok
    have VE : ∀ q : Lat w17, accs q.wd (.slice pe ea.length qe) ea fe := fun q => (he.below' (Below.refl _ _)).below' q.ok
    have VS : ∀ q : Lat w17, ints q.wd (.slice ps s.length qs) s fs := fun q => (hs.below' (bt (bt (bt (bt (bt (bt (bt (bt (bt (bt (bt (bt (bt (bt (bt D2 D3) D4) D5) D6) D7) D8) D9) D10) D11) D12) D13) D14) D15) D16) D17)).below' q.ok
    have VL : ∀ q : Lat w17, meths q.wd (.slice pl ml.length ql) ml fl := fun q => (hml.below' (bt (bt (bt (bt (bt (bt (bt (bt (bt (bt (bt (bt (bt (bt (bt D2 D3) D4) D5) D6) D7) D8) D9) D10) D11) D12) D13) D14) D15) D16) D17)).below' q.ok
    have VX : ∀ q : Lat w17, ints q.wd (.slice px x.vals.length qx) x.vals fx := fun q => (hx.below' (bt (bt (bt (bt (bt (bt (bt (bt (bt (bt (bt (bt (bt (bt (bt D2 D3) D4) D5) D6) D7) D8) D9) D10) D11) D12) D13) D14) D15) D16) D17)).below' q.ok
    have VR : ∀ q : Lat w17, RepR q.wd vrp rp := fun q => (hrp.below (bt (bt D15 D16) D17)).below q.ok
    have VB : ∀ q : Lat w17, Lib.TabBelow Tryz.prog q.wd.heap.size q.wd "internal/strconv.uint64pow10" .u64 Lib.pow10Tab := fun q => Tab.on HLW.out.2.2.1 (bt (bt (bt (bt (bt (bt (bt (bt (bt (bt (bt (bt (bt (bt (bt (bt (bt D1 D2) D3) D4) D5) D6) D7) D8) D9) D10) D11) D12) D13) D14) D15) D16) D17) q.ok)
    go_wp2_with fail
    refine wp_region_lat w17 (by kernel_rfl) (by kernel_rfl) ?_
    (try simp only [List.append])
    repeat (go_big_quiet_step ((first
        | (go_at_call 24; with_reducible exact Lat.of (retSL (specFormatMethod_any m _ fi _ (VI _) hi20) HT.out.symm))
        | (go_at_call 26; with_reducible exact Lat.of (retBL (implIsMethod_any _ t ft m _ fi _ (VT _) (VI _)) Hk.out.symm))
        | (go_at_call 16; with_reducible exact Lat.of (retBL (implIsResponseR_any _ u fu _ vm fv _ wf fw z _ fz _ rp _ (VU _) (VV _) (VW _) (VZ _) (VR _) hw10 Hwv.out) HrR.out))
        | (go_at_call 28; with_reducible exact Lat.of (retBL (implAreMethods_any _ a fa2 _ qm2 fq _ (VA _) (VQ _)) HrM.out))
        | (go_at_call 32; with_reducible exact Lat.of (retBL (implSameAccesses_any _ _ da ea fd fe _ (VD _) (VE _)) HrD.out))
        | (go_at_call 34; with_reducible exact Lat.of (retBL (implIsAccess_any _ s fs _ ml fl x _ fx _ (VS _) (VL _) (VX _)) HrA.out))
        | (go_at_call 25; with_reducible exact Lat.of (retBL (specIsMethod_any _ t ft m _ fi _ (VT _) (VI _)) Hk.out.symm))
        | (go_at_call 27; with_reducible exact Lat.of (retBL (specIsResponseR_any _ u fu _ vm fv _ wf fw z _ fz _ rp _ (VU _) (VV _) (VW _) (VZ _) (VR _) hw10 Hwv.out) HrR.out))
        | (go_at_call 29; with_reducible exact Lat.of (retBL (specAreMethods_any _ a fa2 _ qm2 fq _ (VA _) (VQ _)) HrM.out))
        | (go_at_call 33; with_reducible exact Lat.of (retBL (specSameAccesses_any _ _ da ea fd fe _ (VD _) (VE _)) HrD.out))
        | (go_at_call 14; with_reducible exact Lat.of (retBL (specIsAccess_any _ s fs _ ml fl x _ fx _ (VS _) (VL _) (VX _)) HrA.out))
        | (go_at_call 30; with_reducible exact Lat.of (retSL (implFormatAccess_any c _ fc _ (VC _) (VB _)) HtA.out))
        | (go_at_call 31; with_reducible exact Lat.of (retSL (specFormatAccess_any c _ fc _ (VC _)) HtA.out)))))
    refine wpQuiet_nil ?_
    intro _ hw'
    obtain ⟨x1, hw''⟩ := hw'
    subst hw''
    have hb9 := bt (bt (bt (bt (bt (bt (bt (bt (bt (bt (bt (bt (bt (bt (bt (bt (bt D1 D2) D3) D4) D5) D6) D7) D8) D9) D10) D11) D12) D13) D14) D15) D16) D17) x1.ok
    generalize x1.wd = wz at hb9 ⊢
    clear b6L0 b6L1 b11L0 b11L1 b11L2 b11L3 b11L4 b18L0 b18L1 b22L0 b22L1 VT VI VU VV VW VZ VA VQ VC VD VE VS VL VX VR VB
    go_wp2
    go_ret
    exact ⟨rfl, hb9⟩
end Go.Proofs.YtpdmdfkcaabnaaaGreatDoor
