/- RespondTo, of the program and of the reference. Conditions: sizes up to 2^20. -/
import Derived.Test.YtjjkfhjkfoikbaaResp
import Derived.Test.YtjjkfhjkfoikbaaAddS
namespace Go.Proofs.Ytjjkfhjkfoikbaa
open Go.RowKit
set_option linter.unusedVariables false
set_option linter.unusedSimpArgs false
theorem matchesL_sub {s : List Int} {l : List MethD} {fa : List FactD} {a : AccD} : ∀ y ∈ matchesL s l fa a, y ∈ fa := by
  intro y hy
  unfold matchesL at hy
  split at hy
  · exact (List.mem_filter.1 hy).1
  · simp at hy
theorem matchesL_len {s : List Int} {l : List MethD} {fa : List FactD} {a : AccD} : (matchesL s l fa a).length ≤ fa.length := by
  unfold matchesL
  split
  · exact List.length_filter_le _ _
  · simp
theorem matchesL_valid {s : List Int} {l : List MethD} {fa : List FactD} {a : AccD} (h : matchesL s l fa a ≠ []) : accB s l a = true ∧ factsB s fa = true := by
  unfold matchesL at h
  cases h1 : accB s l a <;> cases h2 : factsB s fa <;> simp [h1, h2] at h ⊢

set_option maxRecDepth 100000 in
set_option maxHeartbeats 3200000 in
theorem implRespondTo_any (vs : Value) (s : List Int) (fs : List Nat) (vl : Value) (l : List MethD) (fl : List Nat) (vf : Value) (fa : List FactD) (ff : List Nat) (x : AccD) (vx : Value) (fx : List Nat) (c : Int) (w : World) (hs : ints w vs s fs) (hl : meths w vl l fl) (hf : facts w vf fa ff) (hx : ints w vx x.vals fx) (hn : fa.length ≤ 1048576) (hln : ∀ y ∈ fa, y.vals.length ≤ 1048576) :
    Calls Try.prog 65 #[vs, vl, vf, .agg #[.int .i64 x.meth, vx], .int .i64 c] w fun e w' => ∃ v' f', e = .returned v' ∧ facts w' v' (respondL s l fa x c) f' ∧ Fresh w.heap.size f' ∧ Below w.heap.size w w' := by
  obtain ⟨m, vals⟩ := x
  obtain ⟨ps, cs, rfl⟩ := slR.form hs
  obtain ⟨pl, cl, rfl⟩ := slR.form hl
  obtain ⟨pf, cf, rfl⟩ := slR.form hf
  obtain ⟨px, cx, rfl⟩ := slR.form hx
  have hla := slR.le_max hl
  have Hln := Lib.hid hln
  have hb0 : Below w.heap.size w (w.alloc (.cells #[.int .i64 m, .slice px vals.length cx] 87)) := ba (Below.refl _ _)
  have hs0 := hs.below' hb0
  have hl0 := hl.below' hb0
  have hf0 := hf.below' hb0
  have hx0 := hx.below' hb0
  have c0 : (w.alloc (.cells #[.int .i64 m, .slice px vals.length cx] 87)).cell? ⟨w.heap.size, 0, none⟩ = some (.int .i64 m) := cell_new w _ _ 0 _ rfl
  have c1 : (w.alloc (.cells #[.int .i64 m, .slice px vals.length cx] 87)).cell? ⟨w.heap.size, 1, none⟩ = some (.slice px vals.length cx) := cell_new w _ _ 1 _ rfl
  clear hln
  cases hA : accB s l ⟨m, vals⟩ with
  | false =>
    have Hf := Lib.hid (respondL_none (c := c) (matchesL_no1 (fa := fa) hA))
    have HIA := Lib.hid (show Calls Try.prog 102 #[.slice ps s.length cs, .slice pl l.length cl, .agg #[.int .i64 m, .slice px vals.length cx]] (w.alloc (.cells #[.int .i64 m, .slice px vals.length cx] 87)) (fun e w' => e = .returned (.bool false) ∧ Below (w.alloc (.cells #[.int .i64 m, .slice px vals.length cx] 87)).heap.size (w.alloc (.cells #[.int .i64 m, .slice px vals.length cx] 87)) w') from retBB (implIsAccess_any _ s fs _ l fl ⟨m, vals⟩ _ fx _ hs0 hl0 hx0) hA)
    go_enter Try.func65, Try.ntmps65
    go_wp2_with (first
      | (go_at_call 102; refine HIA.out.mono ?_; rintro e w2 ⟨rfl, hb2⟩; have e0 := cell_below c0 hb2; have e1 := cell_below c1 hb2))
    have hbw := bt hb0 hb2
    have hfin : facts w2 (.slice none 0 0) (respondL s l fa ⟨m, vals⟩ c) [] := by rw [Hf.out]; exact slR.nilv _ _ _ _
    go_ret
    first | exact ⟨.slice none 0 0, [], rfl, hfin, Fresh.nil _, hbw⟩ | exact ⟨.slice none 0 0, rfl, [], hfin, Fresh.nil _, hbw⟩
  | true =>
    have HIA := Lib.hid (show Calls Try.prog 102 #[.slice ps s.length cs, .slice pl l.length cl, .agg #[.int .i64 m, .slice px vals.length cx]] (w.alloc (.cells #[.int .i64 m, .slice px vals.length cx] 87)) (fun e w' => e = .returned (.bool true) ∧ Below (w.alloc (.cells #[.int .i64 m, .slice px vals.length cx] 87)).heap.size (w.alloc (.cells #[.int .i64 m, .slice px vals.length cx] 87)) w') from retBB (implIsAccess_any _ s fs _ l fl ⟨m, vals⟩ _ fx _ hs0 hl0 hx0) hA)
    cases hF : factsB s fa with
    | false =>
      have Hf := Lib.hid (respondL_none (c := c) (matchesL_no2 (l := l) (a := ⟨m, vals⟩) hF))
      go_enter Try.func65, Try.ntmps65
      go_wp2_with (first
        | (go_at_call 102; refine HIA.out.mono ?_; rintro e w2 ⟨rfl, hb2⟩; have e0 := cell_below c0 hb2; have e1 := cell_below c1 hb2)
        | (go_at_call 103; refine (retBB (implAreFacts_any _ s fs _ fa ff _ (hs0.below' hb2) (hf0.below' hb2)) hF).mono ?_; rintro e w3 ⟨rfl, hb3⟩; have hb23 := bt hb2 hb3; have e2 := cell_below c0 hb23; have e3 := cell_below c1 hb23))
      have hbw := bt hb0 hb23
      have hfin : facts w3 (.slice none 0 0) (respondL s l fa ⟨m, vals⟩ c) [] := by rw [Hf.out]; exact slR.nilv _ _ _ _
      go_ret
      first | exact ⟨.slice none 0 0, [], rfl, hfin, Fresh.nil _, hbw⟩ | exact ⟨.slice none 0 0, rfl, [], hfin, Fresh.nil _, hbw⟩
    | true =>
      obtain ⟨q, hm, hq, hmb, hzz2, hfit⟩ := fit_of hA
      clear hzz2
      have hm' : m = (q : Int) := hm
      subst hm'
      obtain ⟨L, hL, hL9⟩ := limit_of hmb
      have hxe := matchesL_yes hq hA hF
      have hres : (if L = 0 ∨ (fa.filter (fitB l[q] vals)).length ≤ L then fa.filter (fitB l[q] vals) else respS (fa.filter (fitB l[q] vals)) (c.toNat % (fa.filter (fitB l[q] vals)).length) L) = respondL s l fa ⟨(q : Int), vals⟩ c := by
        by_cases h : L = 0 ∨ (fa.filter (fitB l[q] vals)).length ≤ L
        · rw [if_pos h, respondL_all hq hxe hL h]
        · rw [if_neg h, respondL_win hq hxe hL (fun e => h (.inl e)) (fun e => h (.inr e))]
      have hasc := factsB_filter hF (fitB l[q] vals)
      have hH : ∀ y ∈ fa, Fit l[q] vals y := fun y hy => hfit y (factB_of_facts hF y hy)
      have hresp := fun (W : World) (hb : Below (w.alloc (.cells #[.int .i64 (q : Int), .slice px vals.length cx] 87)).heap.size (w.alloc (.cells #[.int .i64 (q : Int), .slice px vals.length cx] 87)) W) => respond_any l fa q vals c _ _ _ fl ff fx W (hl0.below' hb) (hf0.below' hb) (hx0.below' hb) hq hH hn Hln.out _ rfl L hL hL9 hasc _ hres
      generalize hR : respondL s l fa ⟨(q : Int), vals⟩ c = R at hresp ⊢
      have Hresp := Lib.hid hresp
      have HF := Lib.hid hF
      have hIA2 := HIA.out
      clear hfit hH hm hA hF HIA hmb hL hL9 hxe hres hasc hresp hR
      have HIA := Lib.hid hIA2
      clear hIA2
      go_enter Try.func65, Try.ntmps65
      go_wp2_with (first
        | (go_at_call 102; refine HIA.out.mono ?_; rintro e w2 ⟨rfl, hb2⟩; have e0 := cell_below c0 hb2; have e1 := cell_below c1 hb2)
        | (go_at_call 103; refine (retBB (implAreFacts_any _ s fs _ fa ff _ (hs0.below' hb2) (hf0.below' hb2)) HF.out).mono ?_; rintro e w3 ⟨rfl, hb3⟩; have hb23 := bt hb2 hb3; have e2 := cell_below c0 hb23; have e3 := cell_below c1 hb23)
        | (go_at_call 109; refine (Hresp.out _ hb23).mono ?_; rintro e w4 ⟨v4, f4, rfl, hu4, hfr4, hb4⟩))
      have hb03 := bt hb0 hb23
      have hfr6 := hfr4.mono hb03.size
      have hbf := bt hb03 hb4
      go_ret
      first | exact ⟨v4, f4, rfl, hu4, hfr6, hbf⟩ | exact ⟨v4, rfl, f4, hu4, hfr6, hbf⟩
set_option maxRecDepth 100000 in
set_option maxHeartbeats 3200000 in
theorem specRespondTo_any (vs : Value) (s : List Int) (fs : List Nat) (vl : Value) (l : List MethD) (fl : List Nat) (vf : Value) (fa : List FactD) (ff : List Nat) (x : AccD) (vx : Value) (fx : List Nat) (c : Int) (w : World) (hs : ints w vs s fs) (hl : meths w vl l fl) (hf : facts w vf fa ff) (hx : ints w vx x.vals fx) (hn : fa.length ≤ 1048576) (hln : ∀ y ∈ fa, y.vals.length ≤ 1048576) :
    Calls Try.prog 64 #[vs, vl, vf, .agg #[.int .i64 x.meth, vx], .int .i64 c] w fun e w' => ∃ v' f', e = .returned v' ∧ facts w' v' (respondL s l fa x c) f' ∧ Fresh w.heap.size f' ∧ Below w.heap.size w w' := by
  obtain ⟨m, vals⟩ := x
  obtain ⟨ps, cs, rfl⟩ := slR.form hs
  obtain ⟨pl, cl, rfl⟩ := slR.form hl
  obtain ⟨pf, cf, rfl⟩ := slR.form hf
  obtain ⟨px, cx, rfl⟩ := slR.form hx
  have hla := slR.le_max hl
  have Hln := Lib.hid hln
  have hb0 : Below w.heap.size w (w.alloc (.cells #[.int .i64 m, .slice px vals.length cx] 87)) := ba (Below.refl _ _)
  have hs0 := hs.below' hb0
  have hl0 := hl.below' hb0
  have hf0 := hf.below' hb0
  have hx0 := hx.below' hb0
  have c0 : (w.alloc (.cells #[.int .i64 m, .slice px vals.length cx] 87)).cell? ⟨w.heap.size, 0, none⟩ = some (.int .i64 m) := cell_new w _ _ 0 _ rfl
  have c1 : (w.alloc (.cells #[.int .i64 m, .slice px vals.length cx] 87)).cell? ⟨w.heap.size, 1, none⟩ = some (.slice px vals.length cx) := cell_new w _ _ 1 _ rfl
  clear hln
  have hsub := matchesL_sub (s := s) (l := l) (fa := fa) (a := ⟨m, vals⟩)
  have hlen := matchesL_len (s := s) (l := l) (fa := fa) (a := ⟨m, vals⟩)
  have HM := Lib.hid (show Calls Try.prog 60 #[.slice ps s.length cs, .slice pl l.length cl, .slice pf fa.length cf, .agg #[.int .i64 m, .slice px vals.length cx]] (w.alloc (.cells #[.int .i64 m, .slice px vals.length cx] 87)) (fun e w' => ∃ v' f', e = .returned v' ∧ facts w' v' (matchesL s l fa ⟨m, vals⟩) f' ∧ Fresh (w.alloc (.cells #[.int .i64 m, .slice px vals.length cx] 87)).heap.size f' ∧ Below (w.alloc (.cells #[.int .i64 m, .slice px vals.length cx] 87)).heap.size (w.alloc (.cells #[.int .i64 m, .slice px vals.length cx] 87)) w') from specMatchesOf_any _ s fs _ l fl _ fa ff ⟨m, vals⟩ _ fx _ hs0 hl0 hf0 hx0 hn Hln.out)
  have hval := matchesL_valid (s := s) (l := l) (fa := fa) (a := ⟨m, vals⟩)
  have hasc0 : matchesL s l fa ⟨m, vals⟩ ≠ [] → AscC cmpFact (matchesL s l fa ⟨m, vals⟩) := fun h => by
    obtain ⟨h1, h2⟩ := hval h
    unfold matchesL; rw [h1, h2]; exact factsB_filter h2 _
  have hnone := respondL_none (s := s) (l := l) (fa := fa) (a := ⟨m, vals⟩) (c := c)
  obtain ⟨X, hX⟩ : ∃ X, X = matchesL s l fa ⟨m, vals⟩ := ⟨_, rfl⟩
  rw [← hX] at hsub hlen hval hasc0 hnone
  have HM2 := HM.out
  rw [← hX] at HM2
  have HM3 := Lib.hid HM2
  have hXn : X.length ≤ 1048576 := by omega
  clear HM HM2
  by_cases hXe : X = []
  · have Hf := Lib.hid (show respondL s l fa ⟨m, vals⟩ c = X by rw [hXe]; exact hnone hXe)
    have hX0 : X.length = 0 := by rw [hXe]; rfl
    have hX1 : ((X.length : Int) == 0) = true := by simp [hXe]
    have hX2 : (X.length : Int) = 0 := by omega
    generalize hR : respondL s l fa ⟨m, vals⟩ c = R at Hf ⊢
    have HX0 := Lib.hid hX0
    clear hX0 hXe hX hsub hlen hval hasc0 hnone hR hX2
    go_enter Try.func64, Try.ntmps64
    go_wp2_with fail
    refine HM3.out.mono ?_
    rintro e w2 ⟨v2, f2, rfl, hu2, hfr2', hb2⟩
    obtain ⟨a2, c2, rfl⟩ := slR.form hu2
    have hbw := bt hb0 hb2
    have hfr2 := hfr2'.mono hb0.size
    have hfin : facts w2 (.slice a2 X.length c2) R f2 := by rw [Hf.out]; exact hu2
    have hX2 : (X.length : Int) = 0 := by have := HX0.out; omega
    go_wp2
    go_ret
    first | exact ⟨.slice a2 X.length c2, f2, rfl, hfin, hfr2, hbw⟩ | exact ⟨.slice a2 X.length c2, rfl, f2, hfin, hfr2, hbw⟩
  · obtain ⟨hA, hF⟩ := hval hXe
    obtain ⟨q, hm, hq, hmb, hzz2, hfit⟩ := fit_of hA
    clear hzz2 hfit
    have hm' : m = (q : Int) := hm
    subst hm'
    obtain ⟨L, hL, hL9⟩ := limit_of hmb
    have Hall := Lib.hid (fun h => respondL_all (c := c) hq hX.symm hL h)
    have Hwin := Lib.hid (fun h0 h => respondL_win (c := c) hq hX.symm hL h0 h)
    have Hasc := Lib.hid (hasc0 hXe)
    have Hsub := Lib.hid hsub
    have hX0 : 0 < X.length := by
      cases X with
      | nil => exact absurd rfl hXe
      | cons _ _ => simp
    have hXne : ((X.length : Int) == 0) = false := by simp; omega
    have hXne2 : ¬ ((X.length : Int) = 0) := by omega
    have hk0 : (0 : Int) ≤ (q : Int) := Int.natCast_nonneg _
    have hk1 : (q : Int) < (l.length : Int) := by omega
    obtain ⟨g, vi, fi, hg, _, _, m2, _, _, _⟩ := hl0.get q hq
    subst hg
    rw [hL] at m2
    generalize hR : respondL s l fa ⟨(q : Int), vals⟩ c = R at Hall Hwin ⊢
    have HM4 := HM3.out
    clear hA hF hm hmb hL hX hXe hsub hval hasc0 hnone hR HM3
    have HM3 := Lib.hid HM4
    clear HM4
    go_enter Try.func64, Try.ntmps64
    go_wp2_with fail
    refine HM3.out.mono ?_
    rintro e w2 ⟨v2, f2, rfl, hu2, hfr2', hb2⟩
    obtain ⟨a2, c2, rfl⟩ := slR.form hu2
    have hbw := bt hb0 hb2
    have hfr2 := hfr2'.mono hb0.size
    have e0 := cell_below c0 hb2
    have e2 := cell_below m2 hb2
    by_cases hL0 : L = 0
    · subst hL0
      have hfin : facts w2 (.slice a2 X.length c2) R f2 := by rw [Hall.out (.inl rfl)]; exact hu2
      go_wp2
      go_ret
      first | exact ⟨.slice a2 X.length c2, f2, rfl, hfin, hfr2, hbw⟩ | exact ⟨.slice a2 X.length c2, rfl, f2, hfin, hfr2, hbw⟩
    · have hl0 : ((L : Int) == 0) = false := by simp; omega
      have hl1 : ¬ ((L : Int) = 0) := by omega
      by_cases hnl : X.length ≤ L
      · have hfin : facts w2 (.slice a2 X.length c2) R f2 := by rw [Hall.out (.inr hnl)]; exact hu2
        have hnl1 : (X.length : Int) ≤ (L : Int) := by omega
        go_wp2
        go_ret
        first | exact ⟨.slice a2 X.length c2, f2, rfl, hfin, hfr2, hbw⟩ | exact ⟨.slice a2 X.length c2, rfl, f2, hfin, hfr2, hbw⟩
      · have hc0 : c.toNat % X.length < X.length := Nat.mod_lt _ hX0
        have hnl1 : (L : Int) < (X.length : Int) := by omega
        have hnl2 : ¬ ((X.length : Int) ≤ (L : Int)) := by omega
        have HS := Lib.hid (Hwin.out hL0 hnl)
        obtain ⟨ch, hche⟩ : ∃ ch : Nat, ch = c.toNat := ⟨_, rfl⟩
        have hmx : (if c < 0 then 0 else c) = (ch : Int) := by split <;> omega
        have hmx2 : max c 0 = (ch : Int) := by omega
        have hmx3 : max 0 c = (ch : Int) := by omega
        have hmd : ((ch : Int)) % (X.length : Int) = ((ch % X.length : Nat) : Int) := by simp
        obtain ⟨k0, hk0e⟩ : ∃ k0, k0 = ch % X.length := ⟨_, rfl⟩
        have HS2 := Lib.hid (show R = respS X k0 L by rw [HS.out, hk0e, hche])
        have hc0' : k0 < X.length := by rw [hk0e, hche]; exact hc0
        rw [← hk0e] at hmd
        clear hk0e hche HS hc0 Hall Hwin
        have hch0 : (0 : Int) ≤ (ch : Int) := Int.natCast_nonneg _
        have hg0 := grR.lit (w := w2) (B := w.heap.size) (E := 38) (sz := 2) factR hbw.size (Nat.le_refl _)
        have hg1 : facts (w2.alloc (.cells #[] 38)) (.slice (some ⟨w2.heap.size, 0, none⟩) 0 0) [] [w2.heap.size] := hg0.sl
        go_wp2
        simp only [hmd]
        clear hmd hmx hmx2 hmx3
        go_loopw [12, 14] (fun u i wr => ∃ (j : Nat) (lo : List FactD) (fo : List Nat), i = .int .i64 j ∧ j ≤ L ∧ facts wr u lo fo ∧ Hid (lo = respS X k0 j) ∧ Hid (Fresh w.heap.size fo) ∧ Below w2.heap.size w2 wr) (fun _ i _ => L - (intOf i).toNat)
        case atStart => exact ⟨0, [], _, rfl, Nat.zero_le _, hg1, Lib.hid rfl, Lib.hid hg0.fresh, ba (Below.refl _ _)⟩
        case round =>
          obtain ⟨j, lo, fo, rfl, hj, hlo, Hlo, Hfr, hbel⟩ := hrel
          obtain ⟨ao, co, rfl⟩ := slR.form hlo
          have hbwr := bt hbw hbel
          have d0 := cell_below e0 hbel
          have d2 := cell_below e2 hbel
          have hll : lo.length ≤ j := by rw [Hlo.out]; exact respS_length _ _ _
          by_cases hlt : j < L
          · obtain ⟨r, hr⟩ : ∃ r, r = winAt X.length k0 j := ⟨_, rfl⟩
            have hrn : r < X.length := by rw [hr]; exact Nat.mod_lt _ hX0
            have hmod : ((k0 : Int) + (j : Int)) % (X.length : Int) = (r : Int) := by rw [hr]; unfold winAt; simp
            have hjl : (j : Int) < (L : Int) := by omega
            have hpos : (0 : Int) ≤ (k0 : Int) + (j : Int) := by omega
            have hr0 : (0 : Int) ≤ (r : Int) := Int.natCast_nonneg _
            have hrn' : (r : Int) < (X.length : Int) := by omega
            obtain ⟨gx, cc, fk, hgx, ⟨vy, rfl, iy, hy⟩, _, hc, _, _, _⟩ := slR.at (hu2.below' hbel) r hrn
            subst hgx
            obtain ⟨a', c', rfl⟩ := slR.form hy
            have x0 : wr.cell? ⟨gx, r * 2, none⟩ = some (.int .i64 X[r].rel) := hc 0 _ rfl
            have x1 : wr.cell? ⟨gx, r * 2 + 1, none⟩ = some (.slice a' X[r].vals.length c') := hc 1 _ rfl
            have HN := Lib.hid (show addFactL lo X[r] = respS X k0 (j + 1) by
              show _ = addFactL (respS X k0 j) (X.getD (winAt X.length k0 j) ⟨0, []⟩)
              rw [← hr, getD_lt hrn, ← Hlo.out])
            have Hlv := Lib.hid (show ∀ y ∈ lo, y.vals.length ≤ 1048576 from fun y hy => by
              rw [Hlo.out, respS_mem] at hy
              obtain ⟨t, _, rfl⟩ := hy
              have ht : winAt X.length k0 t < X.length := Nat.mod_lt _ hX0
              rw [getD_lt ht]
              exact Hln.out _ (Hsub.out _ (List.getElem_mem ht)))
            have hvn : X[r].vals.length ≤ 1048576 := Hln.out _ (Hsub.out _ (List.getElem_mem hrn))
            clear hc hr
            go_wp2_with fail
            refine (specAddFact_any _ lo fo X[r] _ fk _ hlo hy iy (by omega) Hlv.out hvn).mono ?_
            rintro e w4 ⟨v4, f4, rfl, hu4, hfr4, hb4⟩
            have hbel4 := bt hbel hb4
            have HF4 := Lib.hid (hfr4.mono hbwr.size)
            rw [HN.out] at hu4
            go_wp2
            go_roundw
            case rel => exact ⟨j + 1, _, f4, by go_num, by omega, hu4, Lib.hid rfl, HF4, hbel4⟩
            case measure => simp [intOf]; omega
          · have hjl : j = L := by omega
            have hfin : facts wr (.slice ao lo.length co) R fo := by rw [HS2.out, ← hjl, ← Hlo.out]; exact hlo
            have hfr := Hfr.out
            have hjl2 : ¬ ((j : Int) < (L : Int)) := by omega
            clear hjl
            go_wp2
            go_ret
            first | exact ⟨.slice ao lo.length co, fo, rfl, hfin, hfr, hbwr⟩ | exact ⟨.slice ao lo.length co, rfl, fo, hfin, hfr, hbwr⟩
end Go.Proofs.Ytjjkfhjkfoikbaa
