/- IsResponse, of the reference and of the program. Condition: sizes up to 2^20. -/
import Derived.Test.YtjjkfhjkfoikbaaRespT
import Derived.Test.YtjjkfhjkfoikbaaHas
namespace Go.Proofs.Ytjjkfhjkfoikbaa
open Go.RowKit
set_option linter.unusedVariables false
set_option linter.unusedSimpArgs false
/-- How many facts are told of so many, with a limit. -/
def wantN (n L : Nat) : Nat := if L = 0 then n else min n L
def respB (s : List Int) (l : List MethD) (fa : List FactD) (a : AccD) (r : List FactD) : Bool :=
  accB s l a && factsB s fa && factsB s r && decide (r.length = wantN (matchesL s l fa a).length (methAt l a.meth).limit.toNat) && !(r.any fun y => !hasFactB (matchesL s l fa a) y)
section
variable {s : List Int} {l : List MethD} {fa r : List FactD} {a : AccD}
theorem respB_no1 (h : accB s l a = false) : respB s l fa a r = false := by unfold respB; rw [h]; rfl
theorem respB_no2 (h : factsB s fa = false) : respB s l fa a r = false := by unfold respB; rw [h]; simp
theorem respB_no3 (h : factsB s r = false) : respB s l fa a r = false := by unfold respB; rw [h]; simp
theorem respB_yes {q L : Nat} {vals : List Int} {X : List FactD} (hq : q < l.length) (h1 : accB s l ⟨q, vals⟩ = true) (h2 : factsB s fa = true) (h3 : factsB s r = true) (hX : fa.filter (fitB l[q] vals) = X) (hL : l[q].limit = (L : Int)) :
    respB s l fa ⟨q, vals⟩ r = (decide (r.length = wantN X.length L) && !(r.any fun y => !hasFactB X y)) := by
  unfold respB; rw [matchesL_yes hq h1 h2, hX, methAt_nat' hq, hL, h1, h2, h3]; simp
end
theorem want_int {r n L : Nat} (W : Nat) (h : wantN n L = W) : decide (r = wantN n L) = decide ((r : Int) = (W : Int)) := by
  rw [h, Bool.eq_iff_iff]; simp; omega

set_option maxHeartbeats 800000 in
theorem isResponse1_any (X : List FactD) (y : FactD) (vX vy : Value) (fX fy : List Nat) (g : Nat) (w : World) (hX : facts w vX X fX) (hy : ints w vy y.vals fy) (c0 : w.cell? ⟨g, 0, none⟩ = some vX) :
    Calls Try.prog 106 #[.agg #[.int .i64 y.rel, vy], .pointer (some ⟨g, 0, none⟩)] w fun e w' => e = .returned (.bool (!hasFactB X y)) ∧ Below w.heap.size w w' := by
  obtain ⟨a, cap, rfl⟩ := slR.form hX
  obtain ⟨b, cap', rfl⟩ := slR.form hy
  have d0 := fun o => cell_al c0 o
  have hf := lt_of_cell c0
  generalize hd : hasFactB X y = r
  have Hd := Lib.hid hd
  clear hd
  go_enter Try.func106, Try.ntmps106
  go_wp2_with fail
  refine (implHasFact_any _ X fX y _ fy _ (hX.al _) (hy.al _)).mono ?_
  rintro e w1 ⟨rfl, hb1⟩
  rw [Hd.out]
  go_wp2
  go_ret
  exact ⟨rfl, bt (ba (Below.refl _ _)) hb1⟩
set_option maxRecDepth 100000 in
set_option maxHeartbeats 6400000 in
theorem specIsResponse_any (vs : Value) (s : List Int) (fs : List Nat) (vl : Value) (l : List MethD) (fl : List Nat) (vf : Value) (fa : List FactD) (ff : List Nat) (x : AccD) (vx : Value) (fx : List Nat) (vr : Value) (r : List FactD) (fr : List Nat) (w : World) (hs : ints w vs s fs) (hl : meths w vl l fl) (hf : facts w vf fa ff) (hx : ints w vx x.vals fx) (hr : facts w vr r fr) (hn : fa.length ≤ 1048576) (hln : ∀ y ∈ fa, y.vals.length ≤ 1048576) :
    Calls Try.prog 54 #[vs, vl, vf, .agg #[.int .i64 x.meth, vx], vr] w fun e w' => e = .returned (.bool (respB s l fa x r)) ∧ Below w.heap.size w w' := by
  obtain ⟨m, vals⟩ := x
  obtain ⟨ps, cs, rfl⟩ := slR.form hs
  obtain ⟨pl, cl, rfl⟩ := slR.form hl
  obtain ⟨pf, cf, rfl⟩ := slR.form hf
  obtain ⟨px, cx, rfl⟩ := slR.form hx
  obtain ⟨pr, cr, rfl⟩ := slR.form hr
  have hla := slR.le_max hl
  have hlr := slR.le_max hr
  have Hln := Lib.hid hln
  have hb0 : Below w.heap.size w (w.alloc (.cells #[.int .i64 m, .slice px vals.length cx] 87)) := ba (Below.refl _ _)
  have hs0 := hs.below' hb0
  have hl0 := hl.below' hb0
  have hf0 := hf.below' hb0
  have hx0 := hx.below' hb0
  have hr0 := hr.below' hb0
  have c0 : (w.alloc (.cells #[.int .i64 m, .slice px vals.length cx] 87)).cell? ⟨w.heap.size, 0, none⟩ = some (.int .i64 m) := cell_new w _ _ 0 _ rfl
  have c1 : (w.alloc (.cells #[.int .i64 m, .slice px vals.length cx] 87)).cell? ⟨w.heap.size, 1, none⟩ = some (.slice px vals.length cx) := cell_new w _ _ 1 _ rfl
  clear hln
  cases hA : accB s l ⟨m, vals⟩ with
  | false =>
    have Hf := Lib.hid (respB_no1 (fa := fa) (r := r) hA)
    have HIA := Lib.hid (show Calls Try.prog 98 #[.slice ps s.length cs, .slice pl l.length cl, .agg #[.int .i64 m, .slice px vals.length cx]] (w.alloc (.cells #[.int .i64 m, .slice px vals.length cx] 87)) (fun e w' => e = .returned (.bool false) ∧ Below (w.alloc (.cells #[.int .i64 m, .slice px vals.length cx] 87)).heap.size (w.alloc (.cells #[.int .i64 m, .slice px vals.length cx] 87)) w') from retBB (specIsAccess_any _ s fs _ l fl ⟨m, vals⟩ _ fx _ hs0 hl0 hx0) hA)
    clear hA
    go_enter Try.func54, Try.ntmps54
    go_wp2_with (first
      | (go_at_call 98; refine HIA.out.mono ?_; rintro e w2 ⟨rfl, hb2⟩; have e0 := cell_below c0 hb2; have e1 := cell_below c1 hb2))
    go_ret
    exact ⟨ret_bool (by rw [Hf.out]), bt hb0 hb2⟩
  | true =>
    have HIA := Lib.hid (show Calls Try.prog 98 #[.slice ps s.length cs, .slice pl l.length cl, .agg #[.int .i64 m, .slice px vals.length cx]] (w.alloc (.cells #[.int .i64 m, .slice px vals.length cx] 87)) (fun e w' => e = .returned (.bool true) ∧ Below (w.alloc (.cells #[.int .i64 m, .slice px vals.length cx] 87)).heap.size (w.alloc (.cells #[.int .i64 m, .slice px vals.length cx] 87)) w') from retBB (specIsAccess_any _ s fs _ l fl ⟨m, vals⟩ _ fx _ hs0 hl0 hx0) hA)
    cases hF1 : factsB s fa with
    | false =>
      have Hf := Lib.hid (respB_no2 (l := l) (r := r) (a := ⟨m, vals⟩) hF1)
      have HF1 := Lib.hid (show ∀ W : World, Below (w.alloc (.cells #[.int .i64 m, .slice px vals.length cx] 87)).heap.size (w.alloc (.cells #[.int .i64 m, .slice px vals.length cx] 87)) W → Calls Try.prog 99 #[.slice ps s.length cs, .slice pf fa.length cf] W (fun e w' => e = .returned (.bool false) ∧ Below W.heap.size W w') from fun W hb => retBB (specAreFacts_any _ s fs _ fa ff W (hs0.below' hb) (hf0.below' hb)) hF1)
      clear hA hF1
      go_enter Try.func54, Try.ntmps54
      go_wp2_with (first
        | (go_at_call 98; refine HIA.out.mono ?_; rintro e w2 ⟨rfl, hb2⟩; have e0 := cell_below c0 hb2; have e1 := cell_below c1 hb2)
        | ((go_at_call 99); ((with_reducible refine (HF1.out _ hb2).mono ?_); rintro e w3 ⟨rfl, hb3⟩; have hb23 := bt hb2 hb3; have e2 := cell_below c0 hb23; have e3 := cell_below c1 hb23)))
      go_ret
      exact ⟨ret_bool (by rw [Hf.out]), bt hb0 hb23⟩
    | true =>
      have HF1 := Lib.hid (show ∀ W : World, Below (w.alloc (.cells #[.int .i64 m, .slice px vals.length cx] 87)).heap.size (w.alloc (.cells #[.int .i64 m, .slice px vals.length cx] 87)) W → Calls Try.prog 99 #[.slice ps s.length cs, .slice pf fa.length cf] W (fun e w' => e = .returned (.bool true) ∧ Below W.heap.size W w') from fun W hb => retBB (specAreFacts_any _ s fs _ fa ff W (hs0.below' hb) (hf0.below' hb)) hF1)
      cases hF2 : factsB s r with
      | false =>
        have Hf := Lib.hid (respB_no3 (l := l) (fa := fa) (a := ⟨m, vals⟩) hF2)
        have HF2 := Lib.hid (show ∀ W : World, Below (w.alloc (.cells #[.int .i64 m, .slice px vals.length cx] 87)).heap.size (w.alloc (.cells #[.int .i64 m, .slice px vals.length cx] 87)) W → Calls Try.prog 99 #[.slice ps s.length cs, .slice pr r.length cr] W (fun e w' => e = .returned (.bool false) ∧ Below W.heap.size W w') from fun W hb => retBB (specAreFacts_any _ s fs _ r fr W (hs0.below' hb) (hr0.below' hb)) hF2)
        clear hA hF1 hF2
        go_enter Try.func54, Try.ntmps54
        go_wp2_with (first
          | (go_at_call 98; refine HIA.out.mono ?_; rintro e w2 ⟨rfl, hb2⟩; have e0 := cell_below c0 hb2; have e1 := cell_below c1 hb2)
          | ((go_at_call 99); ((with_reducible refine (HF1.out _ hb2).mono ?_); rintro e w3 ⟨rfl, hb3⟩; have hb23 := bt hb2 hb3; have e2 := cell_below c0 hb23; have e3 := cell_below c1 hb23))
          | ((go_at_call 99); ((with_reducible refine (HF2.out _ hb23).mono ?_); rintro e w4 ⟨rfl, hb4⟩; have hb24 := bt hb23 hb4; have e4 := cell_below c0 hb24; have e5 := cell_below c1 hb24)))
        go_ret
        exact ⟨ret_bool (by rw [Hf.out]), bt hb0 hb24⟩
      | true =>
        have HF2 := Lib.hid (show ∀ W : World, Below (w.alloc (.cells #[.int .i64 m, .slice px vals.length cx] 87)).heap.size (w.alloc (.cells #[.int .i64 m, .slice px vals.length cx] 87)) W → Calls Try.prog 99 #[.slice ps s.length cs, .slice pr r.length cr] W (fun e w' => e = .returned (.bool true) ∧ Below W.heap.size W w') from fun W hb => retBB (specAreFacts_any _ s fs _ r fr W (hs0.below' hb) (hr0.below' hb)) hF2)
        obtain ⟨q, hm, hq, hmb, hzz2, hfit⟩ := fit_of hA
        clear hzz2
        have hm' : m = (q : Int) := hm
        subst hm'
        obtain ⟨L, hL, hL9⟩ := limit_of hmb
        obtain ⟨X, hX⟩ : ∃ X, X = fa.filter (fitB l[q] vals) := ⟨_, rfl⟩
        have hXn : X.length ≤ 1048576 := by rw [hX]; exact Nat.le_trans (List.length_filter_le _ _) hn
        have H0 := Lib.hid (respB_yes hq hA hF1 hF2 hX.symm hL)
        have hH : ∀ y ∈ fa, Fit l[q] vals y := fun y hy => hfit y (factB_of_facts hF1 y hy)
        have HH := Lib.hid hH
        have hk0 : (0 : Int) ≤ (q : Int) := Int.natCast_nonneg _
        have hk1 : (q : Int) < (l.length : Int) := by omega
        obtain ⟨g, vi, fi, rfl, m0, m1, m2, m3, m4, hvi⟩ := hl0.get q hq
        obtain ⟨pi, ci, rfl⟩ := slR.form hvi
        rw [hL] at m2
        obtain ⟨WN, hWN⟩ : ∃ WN, wantN X.length L = WN := ⟨_, rfl⟩
        have HWNe := Lib.hid hWN
        have HWN := Lib.hid (want_int (r := r.length) (n := X.length) (L := L) WN hWN)
        generalize hR : respB s l fa ⟨(q : Int), vals⟩ r = R at H0 ⊢
        have HXe := Lib.hid hX
        have HLe := Lib.hid hL
        have hcall := fun (W : World) (hb : Below (w.alloc (.cells #[.int .i64 (q : Int), .slice px vals.length cx] 87)).heap.size (w.alloc (.cells #[.int .i64 (q : Int), .slice px vals.length cx] 87)) W) => l5Matches_any l[q] vals (.slice pi l[q].inputs.length ci) (.slice px vals.length cx) fi fx (.slice pf fa.length cf) fa ff W (hvi.below' hb) (hx0.below' hb) (hf0.below' hb) HH.out hn Hln.out
        rw [← hX, hL] at hcall
        have HC := Lib.hid hcall
        clear hfit hH hm hA hF1 hF2 hmb hL9 hX hR hL hWN hcall
        go_enter Try.func54, Try.ntmps54
        go_wp2_with (first
          | (go_at_call 98; refine HIA.out.mono ?_; rintro e w2 ⟨rfl, hb2⟩; have e0 := cell_below c0 hb2; have e1 := cell_below c1 hb2)
          | ((go_at_call 99); ((with_reducible refine (HF1.out _ hb2).mono ?_); rintro e w3 ⟨rfl, hb3⟩; have hb23 := bt hb2 hb3; have e2 := cell_below c0 hb23; have e3 := cell_below c1 hb23))
          | ((go_at_call 99); ((with_reducible refine (HF2.out _ hb23).mono ?_); rintro e w4 ⟨rfl, hb4⟩; have hb24 := bt hb23 hb4; have e4 := cell_below c0 hb24; have e5 := cell_below c1 hb24)))
        have hb04 := bt hb0 hb24
        have uc0 : w4.cell? ⟨w.heap.size, 0, none⟩ = some (.int .i64 (q : Int)) := cell_below c0 hb24
        have uc1 : w4.cell? ⟨w.heap.size, 1, none⟩ = some (.slice px vals.length cx) := cell_below c1 hb24
        have um0 : w4.cell? ⟨g, q * 5, none⟩ = some (.int .i64 l[q].rel) := cell_below m0 hb24
        have um1 : w4.cell? ⟨g, q * 5 + 1, none⟩ = some (.slice pi l[q].inputs.length ci) := cell_below m1 hb24
        have um2 : w4.cell? ⟨g, q * 5 + 2, none⟩ = some (.int .i64 (L : Int)) := cell_below m2 hb24
        have um3 : w4.cell? ⟨g, q * 5 + 3, none⟩ = some (.int .i64 l[q].cost) := cell_below m3 hb24
        have um4 : w4.cell? ⟨g, q * 5 + 4, none⟩ = some (.int .i64 l[q].quota) := cell_below m4 hb24
        go_region_held3 (fun w' => w'.cell? ⟨w.heap.size, 0, none⟩ = some (.int .i64 (q : Int)) ∧ w'.cell? ⟨w.heap.size, 1, none⟩ = some (.slice px vals.length cx) ∧ w'.cell? ⟨g, q * 5, none⟩ = some (.int .i64 l[q].rel) ∧ w'.cell? ⟨g, q * 5 + 1, none⟩ = some (.slice pi l[q].inputs.length ci) ∧ w'.cell? ⟨g, q * 5 + 2, none⟩ = some (.int .i64 (L : Int)) ∧ w'.cell? ⟨g, q * 5 + 3, none⟩ = some (.int .i64 l[q].cost) ∧ w'.cell? ⟨g, q * 5 + 4, none⟩ = some (.int .i64 l[q].quota)) (first | exact ⟨uc0, uc1, um0, um1, um2, um3, um4⟩ | exact ⟨zc0, zc1, zm0, zm1, zm2, zm3, zm4⟩)
          (first
            | (go_at_call 100
               refine (HC.out _ ?_).mono ?_
               · (repeat (first | exact hb24 | refine bdr ?_))
               rintro e w5 ⟨v5, f5, rfl, hu5, hfr5, hb5⟩
               have D45 : Below w4.heap.size w4 w5 := bt (by (repeat (first | exact Below.refl _ _ | refine bdr ?_))) hb5
               have D5 := bt hb24 D45
               have zc0 : w5.cell? ⟨w.heap.size, 0, none⟩ = some (.int .i64 (q : Int)) := cell_below c0 D5
               have zc1 : w5.cell? ⟨w.heap.size, 1, none⟩ = some (.slice px vals.length cx) := cell_below c1 D5
               have zm0 : w5.cell? ⟨g, q * 5, none⟩ = some (.int .i64 l[q].rel) := cell_below m0 D5
               have zm1 : w5.cell? ⟨g, q * 5 + 1, none⟩ = some (.slice pi l[q].inputs.length ci) := cell_below m1 D5
               have zm2 : w5.cell? ⟨g, q * 5 + 2, none⟩ = some (.int .i64 (L : Int)) := cell_below m2 D5
               have zm3 : w5.cell? ⟨g, q * 5 + 3, none⟩ = some (.int .i64 l[q].cost) := cell_below m3 D5
               have zm4 : w5.cell? ⟨g, q * 5 + 4, none⟩ = some (.int .i64 l[q].quota) := cell_below m4 D5
               clear hfr5))
        clear uc0 uc1 um0 um1 um2 um3 um4 zm0 zm1 zm3 zm4
        obtain ⟨a5, c5, rfl⟩ := slR.form hu5
        have hb05 := bt hb04 D45
        have hr5 := hr0.below' D5
        go_wp2
        go_loopw [12] (fun i wr => ∃ k : Nat, i = .int .i64 k ∧ k ≤ r.length ∧ Hid (∀ j (hj : j < r.length), j < k → (!hasFactB X r[j]) = false) ∧ Below w5.heap.size w5 wr) (fun i _ => r.length - (intOf i).toNat)
        case atStart => exact ⟨0, rfl, Nat.zero_le _, Lib.hid (fun j hj h0 => by omega), Below.refl _ _⟩
        case round =>
          obtain ⟨k, rfl, hk, HN, hbel⟩ := hrel
          have hbr := bt hb05 hbel
          have d0 := cell_below zc0 hbel
          have d2 := cell_below zm2 hbel
          by_cases hlt : k < r.length
          · obtain ⟨gr, cc, fk, hgr, ⟨vy, rfl, iy, hy⟩, _, hc, _, _, _⟩ := slR.at (hr5.below' hbel) k hlt
            subst hgr
            obtain ⟨a', c', rfl⟩ := slR.form hy
            have y0 : wr.cell? ⟨gr, k * 2, none⟩ = some (.int .i64 r[k].rel) := hc 0 _ rfl
            have y1 : wr.cell? ⟨gr, k * 2 + 1, none⟩ = some (.slice a' r[k].vals.length c') := hc 1 _ rfl
            have hkl : (k : Int) < (r.length : Int) := by omega
            have hk00 : (0 : Int) ≤ (k : Int) := Int.natCast_nonneg _
            clear hc
            cases hp : hasFactB X r[k] with
            | false =>
              have Hg := Lib.hid (show R = false by rw [H0.out, any_true_of (p := fun y => !hasFactB X y) hlt (by simp [hp])]; simp)
              go_wp2_with (go_at_call 92; refine (retBB (specHasFact_any _ X f5 r[k] _ fk _ (hu5.below' hbel) hy) hp).mono ?_; rintro e w6 ⟨rfl, hb6⟩)
              have hbf := bt hbr hb6
              go_ret
              exact ⟨ret_bool (by rw [Hg.out]), hbf⟩
            | true =>
              have HN2 := Lib.hid (none_step (p := fun y => !hasFactB X y) HN.out hlt (by simp [hp]))
              go_wp2_with (go_at_call 92; refine (retBB (specHasFact_any _ X f5 r[k] _ fk _ (hu5.below' hbel) hy) hp).mono ?_; rintro e w6 ⟨rfl, hb6⟩)
              have hbf := bt hbel hb6
              go_roundw
              case rel => exact ⟨k + 1, by go_num, by omega, HN2, hbf⟩
              case measure => simp [intOf]; omega
          · have hkl : k = r.length := by omega
            have HA0 : (r.any fun y => !hasFactB X y) = false := any_false_of (p := fun y => !hasFactB X y) (fun i hi => HN.out i hi (by omega))
            have Hg := Lib.hid (show R = decide ((r.length : Int) = (WN : Int)) by rw [H0.out, HA0, HWN.out]; simp)
            clear HA0 hkl
            by_cases hL0 : L = 0
            · have hw : WN = X.length := by have := HWNe.out; rw [← this]; unfold wantN; rw [if_pos hL0]
              subst hw
              subst hL0
              go_wp2
              go_ret
              exact ⟨ret_bool (by rw [Hg.out] <;> rfl), hbr⟩
            · have hgt : (0 : Int) < (L : Int) := by omega
              by_cases hmn : L < X.length
              · have hw : WN = L := by have := HWNe.out; rw [← this]; unfold wantN; rw [if_neg hL0]; omega
                subst hw
                have hmn2 : (WN : Int) < (X.length : Int) := by omega
                have hmn3 : min (X.length : Int) (WN : Int) = (WN : Int) := by omega
                go_wp2
                go_ret
                exact ⟨ret_bool (by rw [Hg.out] <;> rfl), hbr⟩
              · have hw : WN = X.length := by have := HWNe.out; rw [← this]; unfold wantN; rw [if_neg hL0]; omega
                subst hw
                have hmn2 : ¬ ((L : Int) < (X.length : Int)) := by omega
                have hmn3 : min (X.length : Int) (L : Int) = (X.length : Int) := by omega
                go_wp2
                go_ret
                exact ⟨ret_bool (by rw [Hg.out] <;> rfl), hbr⟩
set_option maxRecDepth 100000 in
set_option maxHeartbeats 6400000 in
theorem implIsResponse_any (vs : Value) (s : List Int) (fs : List Nat) (vl : Value) (l : List MethD) (fl : List Nat) (vf : Value) (fa : List FactD) (ff : List Nat) (x : AccD) (vx : Value) (fx : List Nat) (vr : Value) (r : List FactD) (fr : List Nat) (w : World) (hs : ints w vs s fs) (hl : meths w vl l fl) (hf : facts w vf fa ff) (hx : ints w vx x.vals fx) (hr : facts w vr r fr) (hn : fa.length ≤ 1048576) (hln : ∀ y ∈ fa, y.vals.length ≤ 1048576) :
    Calls Try.prog 57 #[vs, vl, vf, .agg #[.int .i64 x.meth, vx], vr] w fun e w' => e = .returned (.bool (respB s l fa x r)) ∧ Below w.heap.size w w' := by
  obtain ⟨m, vals⟩ := x
  obtain ⟨ps, cs, rfl⟩ := slR.form hs
  obtain ⟨pl, cl, rfl⟩ := slR.form hl
  obtain ⟨pf, cf, rfl⟩ := slR.form hf
  obtain ⟨px, cx, rfl⟩ := slR.form hx
  obtain ⟨pr, cr, rfl⟩ := slR.form hr
  have hla := slR.le_max hl
  have hlr := slR.le_max hr
  have Hln := Lib.hid hln
  have hb0 : Below w.heap.size w (w.alloc (.cells #[.int .i64 m, .slice px vals.length cx] 87)) := ba (Below.refl _ _)
  have hs0 := hs.below' hb0
  have hl0 := hl.below' hb0
  have hf0 := hf.below' hb0
  have hx0 := hx.below' hb0
  have hr0 := hr.below' hb0
  have c0 : (w.alloc (.cells #[.int .i64 m, .slice px vals.length cx] 87)).cell? ⟨w.heap.size, 0, none⟩ = some (.int .i64 m) := cell_new w _ _ 0 _ rfl
  have c1 : (w.alloc (.cells #[.int .i64 m, .slice px vals.length cx] 87)).cell? ⟨w.heap.size, 1, none⟩ = some (.slice px vals.length cx) := cell_new w _ _ 1 _ rfl
  clear hln
  cases hA : accB s l ⟨m, vals⟩ with
  | false =>
    have Hf := Lib.hid (respB_no1 (fa := fa) (r := r) hA)
    have HIA := Lib.hid (show Calls Try.prog 102 #[.slice ps s.length cs, .slice pl l.length cl, .agg #[.int .i64 m, .slice px vals.length cx]] (w.alloc (.cells #[.int .i64 m, .slice px vals.length cx] 87)) (fun e w' => e = .returned (.bool false) ∧ Below (w.alloc (.cells #[.int .i64 m, .slice px vals.length cx] 87)).heap.size (w.alloc (.cells #[.int .i64 m, .slice px vals.length cx] 87)) w') from retBB (implIsAccess_any _ s fs _ l fl ⟨m, vals⟩ _ fx _ hs0 hl0 hx0) hA)
    clear hA
    go_enter Try.func57, Try.ntmps57
    go_wp2_with (first
      | (go_at_call 102; refine HIA.out.mono ?_; rintro e w2 ⟨rfl, hb2⟩; have e0 := cell_below c0 hb2; have e1 := cell_below c1 hb2))
    go_ret
    exact ⟨ret_bool (by rw [Hf.out]), bt hb0 hb2⟩
  | true =>
    have HIA := Lib.hid (show Calls Try.prog 102 #[.slice ps s.length cs, .slice pl l.length cl, .agg #[.int .i64 m, .slice px vals.length cx]] (w.alloc (.cells #[.int .i64 m, .slice px vals.length cx] 87)) (fun e w' => e = .returned (.bool true) ∧ Below (w.alloc (.cells #[.int .i64 m, .slice px vals.length cx] 87)).heap.size (w.alloc (.cells #[.int .i64 m, .slice px vals.length cx] 87)) w') from retBB (implIsAccess_any _ s fs _ l fl ⟨m, vals⟩ _ fx _ hs0 hl0 hx0) hA)
    cases hF1 : factsB s fa with
    | false =>
      have Hf := Lib.hid (respB_no2 (l := l) (r := r) (a := ⟨m, vals⟩) hF1)
      have HF1 := Lib.hid (show ∀ W : World, Below (w.alloc (.cells #[.int .i64 m, .slice px vals.length cx] 87)).heap.size (w.alloc (.cells #[.int .i64 m, .slice px vals.length cx] 87)) W → Calls Try.prog 103 #[.slice ps s.length cs, .slice pf fa.length cf] W (fun e w' => e = .returned (.bool false) ∧ Below W.heap.size W w') from fun W hb => retBB (implAreFacts_any _ s fs _ fa ff W (hs0.below' hb) (hf0.below' hb)) hF1)
      clear hA hF1
      go_enter Try.func57, Try.ntmps57
      go_wp2_with (first
        | (go_at_call 102; refine HIA.out.mono ?_; rintro e w2 ⟨rfl, hb2⟩; have e0 := cell_below c0 hb2; have e1 := cell_below c1 hb2)
        | ((go_at_call 103); ((with_reducible refine (HF1.out _ hb2).mono ?_); rintro e w3 ⟨rfl, hb3⟩; have hb23 := bt hb2 hb3; have e2 := cell_below c0 hb23; have e3 := cell_below c1 hb23)))
      go_ret
      exact ⟨ret_bool (by rw [Hf.out]), bt hb0 hb23⟩
    | true =>
      have HF1 := Lib.hid (show ∀ W : World, Below (w.alloc (.cells #[.int .i64 m, .slice px vals.length cx] 87)).heap.size (w.alloc (.cells #[.int .i64 m, .slice px vals.length cx] 87)) W → Calls Try.prog 103 #[.slice ps s.length cs, .slice pf fa.length cf] W (fun e w' => e = .returned (.bool true) ∧ Below W.heap.size W w') from fun W hb => retBB (implAreFacts_any _ s fs _ fa ff W (hs0.below' hb) (hf0.below' hb)) hF1)
      cases hF2 : factsB s r with
      | false =>
        have Hf := Lib.hid (respB_no3 (l := l) (fa := fa) (a := ⟨m, vals⟩) hF2)
        have HF2 := Lib.hid (show ∀ W : World, Below (w.alloc (.cells #[.int .i64 m, .slice px vals.length cx] 87)).heap.size (w.alloc (.cells #[.int .i64 m, .slice px vals.length cx] 87)) W → Calls Try.prog 103 #[.slice ps s.length cs, .slice pr r.length cr] W (fun e w' => e = .returned (.bool false) ∧ Below W.heap.size W w') from fun W hb => retBB (implAreFacts_any _ s fs _ r fr W (hs0.below' hb) (hr0.below' hb)) hF2)
        clear hA hF1 hF2
        go_enter Try.func57, Try.ntmps57
        go_wp2_with (first
          | (go_at_call 102; refine HIA.out.mono ?_; rintro e w2 ⟨rfl, hb2⟩; have e0 := cell_below c0 hb2; have e1 := cell_below c1 hb2)
          | ((go_at_call 103); ((with_reducible refine (HF1.out _ hb2).mono ?_); rintro e w3 ⟨rfl, hb3⟩; have hb23 := bt hb2 hb3; have e2 := cell_below c0 hb23; have e3 := cell_below c1 hb23))
          | ((go_at_call 103); ((with_reducible refine (HF2.out _ hb23).mono ?_); rintro e w4 ⟨rfl, hb4⟩; have hb24 := bt hb23 hb4; have e4 := cell_below c0 hb24; have e5 := cell_below c1 hb24)))
        go_ret
        exact ⟨ret_bool (by rw [Hf.out]), bt hb0 hb24⟩
      | true =>
        have HF2 := Lib.hid (show ∀ W : World, Below (w.alloc (.cells #[.int .i64 m, .slice px vals.length cx] 87)).heap.size (w.alloc (.cells #[.int .i64 m, .slice px vals.length cx] 87)) W → Calls Try.prog 103 #[.slice ps s.length cs, .slice pr r.length cr] W (fun e w' => e = .returned (.bool true) ∧ Below W.heap.size W w') from fun W hb => retBB (implAreFacts_any _ s fs _ r fr W (hs0.below' hb) (hr0.below' hb)) hF2)
        obtain ⟨q, hm, hq, hmb, hzz2, hfit⟩ := fit_of hA
        clear hzz2
        have hm' : m = (q : Int) := hm
        subst hm'
        obtain ⟨L, hL, hL9⟩ := limit_of hmb
        obtain ⟨X, hX⟩ : ∃ X, X = fa.filter (fitB l[q] vals) := ⟨_, rfl⟩
        have hXn : X.length ≤ 1048576 := by rw [hX]; exact Nat.le_trans (List.length_filter_le _ _) hn
        have H0 := Lib.hid (respB_yes hq hA hF1 hF2 hX.symm hL)
        have hH : ∀ y ∈ fa, Fit l[q] vals y := fun y hy => hfit y (factB_of_facts hF1 y hy)
        have HH := Lib.hid hH
        have hk0 : (0 : Int) ≤ (q : Int) := Int.natCast_nonneg _
        have hk1 : (q : Int) < (l.length : Int) := by omega
        obtain ⟨g, vi, fi, rfl, m0, m1, m2, m3, m4, hvi⟩ := hl0.get q hq
        obtain ⟨pi, ci, rfl⟩ := slR.form hvi
        rw [hL] at m2
        obtain ⟨WN, hWN⟩ : ∃ WN, wantN X.length L = WN := ⟨_, rfl⟩
        have HWNe := Lib.hid hWN
        have HWN := Lib.hid (want_int (r := r.length) (n := X.length) (L := L) WN hWN)
        generalize hR : respB s l fa ⟨(q : Int), vals⟩ r = R at H0 ⊢
        have HXe := Lib.hid hX
        have HLe := Lib.hid hL
        have hcall := fun (W : World) (hb : Below (w.alloc (.cells #[.int .i64 (q : Int), .slice px vals.length cx] 87)).heap.size (w.alloc (.cells #[.int .i64 (q : Int), .slice px vals.length cx] 87)) W) => matches_any l fa q vals _ _ _ fl ff fx W (hl0.below' hb) (hf0.below' hb) (hx0.below' hb) hq HH.out hn Hln.out
        rw [← hX] at hcall
        have HC := Lib.hid hcall
        have hP := plain_of Try.func106 (by kernel_rfl) (by kernel_rfl)
        clear hfit hH hm hA hF1 hF2 hmb hL9 hX hR hL hWN hcall
        by_cases hL0 : L = 0
        · have hw : WN = X.length := by have := HWNe.out; rw [← this]; unfold wantN; rw [if_pos hL0]
          subst hw
          subst hL0
          cases hd : decide ((r.length : Int) = (X.length : Int)) with
          | false =>
            have Hg := Lib.hid (show R = false by rw [H0.out, HWN.out, hd]; rfl)
            have hne : ((r.length : Int) == (X.length : Int)) = false := hd
            go_enter Try.func57, Try.ntmps57
            go_wp2_with (first
              | (go_at_call 102; refine HIA.out.mono ?_; rintro e w2 ⟨rfl, hb2⟩; have e0 := cell_below c0 hb2; have e1 := cell_below c1 hb2)
              | ((go_at_call 103); ((with_reducible refine (HF1.out _ hb2).mono ?_); rintro e w3 ⟨rfl, hb3⟩; have hb23 := bt hb2 hb3; have e2 := cell_below c0 hb23; have e3 := cell_below c1 hb23))
              | ((go_at_call 103); ((with_reducible refine (HF2.out _ hb23).mono ?_); rintro e w4 ⟨rfl, hb4⟩; have hb24 := bt hb23 hb4; have e4 := cell_below c0 hb24; have e5 := cell_below c1 hb24))
              | (go_at_call 104; refine (HC.out _ hb24).mono ?_; rintro e w5 ⟨v5, f5, rfl, hg5, hb5⟩; obtain ⟨a5, c5, rfl⟩ := slR.form hg5.sl; have D5 := bt hb24 hb5; have z0 := cell_below c0 D5; have z2 := cell_below m2 D5; have z0a := fun o => cell_al z0 o; have z2a := fun o => cell_al z2 o; have zn := cell_new w5 68 #[.slice a5 X.length c5] 0 _ rfl))
            have hbf := ba (o := .cells #[.slice a5 X.length c5] 68) (bt hb0 D5)
            go_ret
            exact ⟨ret_bool (by rw [Hg.out]), hbf⟩
          | true =>
            have Hg := Lib.hid (show R = !(r.any fun y => !hasFactB X y) by rw [H0.out, HWN.out, hd]; simp)
            have hne : ((r.length : Int) == (X.length : Int)) = true := hd
            go_enter Try.func57, Try.ntmps57
            go_wp2_with (first
              | (go_at_call 102; refine HIA.out.mono ?_; rintro e w2 ⟨rfl, hb2⟩; have e0 := cell_below c0 hb2; have e1 := cell_below c1 hb2)
              | ((go_at_call 103); ((with_reducible refine (HF1.out _ hb2).mono ?_); rintro e w3 ⟨rfl, hb3⟩; have hb23 := bt hb2 hb3; have e2 := cell_below c0 hb23; have e3 := cell_below c1 hb23))
              | ((go_at_call 103); ((with_reducible refine (HF2.out _ hb23).mono ?_); rintro e w4 ⟨rfl, hb4⟩; have hb24 := bt hb23 hb4; have e4 := cell_below c0 hb24; have e5 := cell_below c1 hb24))
              | (go_at_call 104; refine (HC.out _ hb24).mono ?_; rintro e w5 ⟨v5, f5, rfl, hg5, hb5⟩; obtain ⟨a5, c5, rfl⟩ := slR.form hg5.sl; have D5 := bt hb24 hb5; have z0 := cell_below c0 D5; have z2 := cell_below m2 D5; have z0a := fun o => cell_al z0 o; have z2a := fun o => cell_al z2 o; have zn := cell_new w5 68 #[.slice a5 X.length c5] 0 _ rfl)
              | (go_at_call 105; refine (containsFuncFact_any _ hP #[.pointer (some ⟨w5.heap.size, 0, none⟩)] (fun y vy => #[.agg #[.int .i64 y.rel, vy], .pointer (some ⟨w5.heap.size, 0, none⟩)]) (fun _ _ => rfl) (fun y => !hasFactB X y) _ r fr _ ((hr0.below' D5).al _) (fun i hi w' vy fy hb hy => isResponse1_any X r[i] _ _ f5 fy _ w' ((facts.al (hg5.sl : facts _ _ X f5) _).below' hb) hy (cell_below zn hb))).mono ?_; rintro e w6 ⟨rfl, hb6⟩))
            have hbf := bt (ba (o := .cells #[.slice a5 X.length c5] 68) (bt hb0 D5)) hb6
            go_ret
            exact ⟨ret_bool (by rw [Hg.out] <;> rfl), hbf⟩
        · have hgt : (0 : Int) < (L : Int) := by omega
          by_cases hmn : L < X.length
          · have hw : WN = L := by have := HWNe.out; rw [← this]; unfold wantN; rw [if_neg hL0]; omega
            subst hw
            have hmn2 : (WN : Int) < (X.length : Int) := by omega
            have hmn3 : min (X.length : Int) (WN : Int) = (WN : Int) := by omega
            cases hd : decide ((r.length : Int) = (WN : Int)) with
            | false =>
              have Hg := Lib.hid (show R = false by rw [H0.out, HWN.out, hd]; rfl)
              have hne : ((r.length : Int) == (WN : Int)) = false := hd
              go_enter Try.func57, Try.ntmps57
              go_wp2_with (first
                | (go_at_call 102; refine HIA.out.mono ?_; rintro e w2 ⟨rfl, hb2⟩; have e0 := cell_below c0 hb2; have e1 := cell_below c1 hb2)
                | ((go_at_call 103); ((with_reducible refine (HF1.out _ hb2).mono ?_); rintro e w3 ⟨rfl, hb3⟩; have hb23 := bt hb2 hb3; have e2 := cell_below c0 hb23; have e3 := cell_below c1 hb23))
                | ((go_at_call 103); ((with_reducible refine (HF2.out _ hb23).mono ?_); rintro e w4 ⟨rfl, hb4⟩; have hb24 := bt hb23 hb4; have e4 := cell_below c0 hb24; have e5 := cell_below c1 hb24))
                | (go_at_call 104; refine (HC.out _ hb24).mono ?_; rintro e w5 ⟨v5, f5, rfl, hg5, hb5⟩; obtain ⟨a5, c5, rfl⟩ := slR.form hg5.sl; have D5 := bt hb24 hb5; have z0 := cell_below c0 D5; have z2 := cell_below m2 D5; have z0a := fun o => cell_al z0 o; have z2a := fun o => cell_al z2 o; have zn := cell_new w5 68 #[.slice a5 X.length c5] 0 _ rfl))
              have hbf := ba (o := .cells #[.slice a5 X.length c5] 68) (bt hb0 D5)
              go_ret
              exact ⟨ret_bool (by rw [Hg.out]), hbf⟩
            | true =>
              have Hg := Lib.hid (show R = !(r.any fun y => !hasFactB X y) by rw [H0.out, HWN.out, hd]; simp)
              have hne : ((r.length : Int) == (WN : Int)) = true := hd
              go_enter Try.func57, Try.ntmps57
              go_wp2_with (first
                | (go_at_call 102; refine HIA.out.mono ?_; rintro e w2 ⟨rfl, hb2⟩; have e0 := cell_below c0 hb2; have e1 := cell_below c1 hb2)
                | ((go_at_call 103); ((with_reducible refine (HF1.out _ hb2).mono ?_); rintro e w3 ⟨rfl, hb3⟩; have hb23 := bt hb2 hb3; have e2 := cell_below c0 hb23; have e3 := cell_below c1 hb23))
                | ((go_at_call 103); ((with_reducible refine (HF2.out _ hb23).mono ?_); rintro e w4 ⟨rfl, hb4⟩; have hb24 := bt hb23 hb4; have e4 := cell_below c0 hb24; have e5 := cell_below c1 hb24))
                | (go_at_call 104; refine (HC.out _ hb24).mono ?_; rintro e w5 ⟨v5, f5, rfl, hg5, hb5⟩; obtain ⟨a5, c5, rfl⟩ := slR.form hg5.sl; have D5 := bt hb24 hb5; have z0 := cell_below c0 D5; have z2 := cell_below m2 D5; have z0a := fun o => cell_al z0 o; have z2a := fun o => cell_al z2 o; have zn := cell_new w5 68 #[.slice a5 X.length c5] 0 _ rfl)
                | (go_at_call 105; refine (containsFuncFact_any _ hP #[.pointer (some ⟨w5.heap.size, 0, none⟩)] (fun y vy => #[.agg #[.int .i64 y.rel, vy], .pointer (some ⟨w5.heap.size, 0, none⟩)]) (fun _ _ => rfl) (fun y => !hasFactB X y) _ r fr _ ((hr0.below' D5).al _) (fun i hi w' vy fy hb hy => isResponse1_any X r[i] _ _ f5 fy _ w' ((facts.al (hg5.sl : facts _ _ X f5) _).below' hb) hy (cell_below zn hb))).mono ?_; rintro e w6 ⟨rfl, hb6⟩))
              have hbf := bt (ba (o := .cells #[.slice a5 X.length c5] 68) (bt hb0 D5)) hb6
              go_ret
              exact ⟨ret_bool (by rw [Hg.out] <;> rfl), hbf⟩
          · have hw : WN = X.length := by have := HWNe.out; rw [← this]; unfold wantN; rw [if_neg hL0]; omega
            subst hw
            have hmn2 : ¬ ((L : Int) < (X.length : Int)) := by omega
            have hmn3 : min (X.length : Int) (L : Int) = (X.length : Int) := by omega
            cases hd : decide ((r.length : Int) = (X.length : Int)) with
            | false =>
              have Hg := Lib.hid (show R = false by rw [H0.out, HWN.out, hd]; rfl)
              have hne : ((r.length : Int) == (X.length : Int)) = false := hd
              go_enter Try.func57, Try.ntmps57
              go_wp2_with (first
                | (go_at_call 102; refine HIA.out.mono ?_; rintro e w2 ⟨rfl, hb2⟩; have e0 := cell_below c0 hb2; have e1 := cell_below c1 hb2)
                | ((go_at_call 103); ((with_reducible refine (HF1.out _ hb2).mono ?_); rintro e w3 ⟨rfl, hb3⟩; have hb23 := bt hb2 hb3; have e2 := cell_below c0 hb23; have e3 := cell_below c1 hb23))
                | ((go_at_call 103); ((with_reducible refine (HF2.out _ hb23).mono ?_); rintro e w4 ⟨rfl, hb4⟩; have hb24 := bt hb23 hb4; have e4 := cell_below c0 hb24; have e5 := cell_below c1 hb24))
                | (go_at_call 104; refine (HC.out _ hb24).mono ?_; rintro e w5 ⟨v5, f5, rfl, hg5, hb5⟩; obtain ⟨a5, c5, rfl⟩ := slR.form hg5.sl; have D5 := bt hb24 hb5; have z0 := cell_below c0 D5; have z2 := cell_below m2 D5; have z0a := fun o => cell_al z0 o; have z2a := fun o => cell_al z2 o; have zn := cell_new w5 68 #[.slice a5 X.length c5] 0 _ rfl))
              have hbf := ba (o := .cells #[.slice a5 X.length c5] 68) (bt hb0 D5)
              go_ret
              exact ⟨ret_bool (by rw [Hg.out]), hbf⟩
            | true =>
              have Hg := Lib.hid (show R = !(r.any fun y => !hasFactB X y) by rw [H0.out, HWN.out, hd]; simp)
              have hne : ((r.length : Int) == (X.length : Int)) = true := hd
              go_enter Try.func57, Try.ntmps57
              go_wp2_with (first
                | (go_at_call 102; refine HIA.out.mono ?_; rintro e w2 ⟨rfl, hb2⟩; have e0 := cell_below c0 hb2; have e1 := cell_below c1 hb2)
                | ((go_at_call 103); ((with_reducible refine (HF1.out _ hb2).mono ?_); rintro e w3 ⟨rfl, hb3⟩; have hb23 := bt hb2 hb3; have e2 := cell_below c0 hb23; have e3 := cell_below c1 hb23))
                | ((go_at_call 103); ((with_reducible refine (HF2.out _ hb23).mono ?_); rintro e w4 ⟨rfl, hb4⟩; have hb24 := bt hb23 hb4; have e4 := cell_below c0 hb24; have e5 := cell_below c1 hb24))
                | (go_at_call 104; refine (HC.out _ hb24).mono ?_; rintro e w5 ⟨v5, f5, rfl, hg5, hb5⟩; obtain ⟨a5, c5, rfl⟩ := slR.form hg5.sl; have D5 := bt hb24 hb5; have z0 := cell_below c0 D5; have z2 := cell_below m2 D5; have z0a := fun o => cell_al z0 o; have z2a := fun o => cell_al z2 o; have zn := cell_new w5 68 #[.slice a5 X.length c5] 0 _ rfl)
                | (go_at_call 105; refine (containsFuncFact_any _ hP #[.pointer (some ⟨w5.heap.size, 0, none⟩)] (fun y vy => #[.agg #[.int .i64 y.rel, vy], .pointer (some ⟨w5.heap.size, 0, none⟩)]) (fun _ _ => rfl) (fun y => !hasFactB X y) _ r fr _ ((hr0.below' D5).al _) (fun i hi w' vy fy hb hy => isResponse1_any X r[i] _ _ f5 fy _ w' ((facts.al (hg5.sl : facts _ _ X f5) _).below' hb) hy (cell_below zn hb))).mono ?_; rintro e w6 ⟨rfl, hb6⟩))
              have hbf := bt (ba (o := .cells #[.slice a5 X.length c5] 68) (bt hb0 D5)) hb6
              go_ret
              exact ⟨ret_bool (by rw [Hg.out] <;> rfl), hbf⟩
end Go.Proofs.Ytjjkfhjkfoikbaa
