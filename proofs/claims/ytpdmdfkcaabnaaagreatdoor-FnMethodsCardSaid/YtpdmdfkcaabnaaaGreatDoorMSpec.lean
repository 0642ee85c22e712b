/- l2One, l5Fits, l5Matches and MatchesOf of the reference. Conditions: sizes up to 2^20; the reading goes through. -/
import Derived.Test.YtpdmdfkcaabnaaaGreatDoorMatchesL
import Derived.Test.YtpdmdfkcaabnaaaGreatDoorCopy
import Derived.Test.YtpdmdfkcaabnaaaGreatDoorMC
import Derived.Test.YtpdmdfkcaabnaaaGreatDoorAreFacts
import Derived.Test.YtpdmdfkcaabnaaaGreatDoorIsAccess
import Derived.Deep.RegionHeld3
namespace Go.Proofs.YtpdmdfkcaabnaaaGreatDoor
open Go.RowKit
set_option linter.unusedVariables false
set_option linter.unusedSimpArgs false
set_option maxRecDepth 100000 in
set_option maxHeartbeats 1600000 in
theorem l2One_any (r : Int) (v : Value) (l : List Int) (f : List Nat) (w : World) (h : ints w v l f) (hn : l.length ≤ 1048576) :
    Calls Tryz.prog 142 #[.int .i64 r, v] w fun e w' => ∃ v' f', e = .returned (.agg #[.int .i64 r, v']) ∧ ints w' v' l f' ∧ Fresh w.heap.size f' ∧ Below w.heap.size w w' := by
  obtain ⟨a, cap, rfl⟩ := slR.form h
  have h1 := h.al (.cells #[.int .i64 0, .slice none 0 0] 79)
  have hb0 : Below w.heap.size w (w.alloc (.cells #[.int .i64 0, .slice none 0 0] 79)) := ba (Below.refl _ _)
  have hs1 : (w.alloc (.cells #[.int .i64 0, .slice none 0 0] 79)).heap.size = w.heap.size + 1 := by simp only [World.alloc, Array.size_push]
  go_enter Tryz.func142, Tryz.ntmps142
  go_wp2_with (at_builtin; refine wpList_copy_ints (w := w.alloc (.cells #[.int .i64 0, .slice none 0 0] 79)) slInt rfl _ _ rfl (by first | rfl | (rw [hs1]; rfl)) _ l f rfl h1 hn ?_; intro u1 w1 f1 hu1 hfr1 hb1; obtain ⟨p1, q1, rfl⟩ := slR.form hu1; rw [hs1] at hfr1; have hz1 : w.heap.size < w1.heap.size := (by have := hb1.size; rw [hs1] at this; omega); obtain ⟨hc1, hzz1⟩ := bcell hb1)
  refine bodyPost_ret (v := .agg #[.int .i64 r, .slice p1 l.length q1]) (by simp [results, Tryz.results142, go_sem, hc1, hzz1, hz1]) rfl ⟨_, f1, rfl, ?_, ?_, ?_⟩
  · repeat (refine ints.far ?_ (hfr1.notin (by simp <;> omega)) _)
    exact hu1
  · exact hfr1.mono (by omega)
  · repeat (refine Below.setCell ?_ (by simp <;> omega) _)
    exact bt hb0 hb1
set_option maxRecDepth 100000 in
set_option maxHeartbeats 1600000 in
theorem l5Fits_any (m : MethD) (vals : List Int) (y : FactD) (vi vv vx : Value) (fi fv fx : List Nat) (w : World) (hi : ints w vi m.inputs fi) (hv : ints w vv vals fv) (hx : ints w vx y.vals fx) (H : Fit m vals y) :
    Calls Tryz.prog 159 #[.agg #[.int .i64 m.rel, vi, .int .i64 m.limit, .int .i64 m.cost, .int .i64 m.quota], vv, .agg #[.int .i64 y.rel, vx]] w fun e w' => e = .returned (.bool (fitB m vals y)) ∧ Below w.heap.size w w' := by
  obtain ⟨rel, inputs, limit, cost, quota⟩ := m
  obtain ⟨r, xs⟩ := y
  obtain ⟨p, cp, rfl⟩ := slR.form hi
  obtain ⟨v, cv, rfl⟩ := slR.form hv
  obtain ⟨x, cx, rfl⟩ := slR.form hx
  have hla := slR.le_max hi
  have HF := Lib.hid H
  clear H
  have hi2 := (hi.al (.cells #[.int .i64 rel, .slice p inputs.length cp, .int .i64 limit, .int .i64 cost, .int .i64 quota] 38)).al (.cells #[.int .i64 r, .slice x xs.length cx] 79)
  have hv2 := (hv.al (.cells #[.int .i64 rel, .slice p inputs.length cp, .int .i64 limit, .int .i64 cost, .int .i64 quota] 38)).al (.cells #[.int .i64 r, .slice x xs.length cx] 79)
  have hx2 := (hx.al (.cells #[.int .i64 rel, .slice p inputs.length cp, .int .i64 limit, .int .i64 cost, .int .i64 quota] 38)).al (.cells #[.int .i64 r, .slice x xs.length cx] 79)
  have hb0 : Below w.heap.size w ((w.alloc (.cells #[.int .i64 rel, .slice p inputs.length cp, .int .i64 limit, .int .i64 cost, .int .i64 quota] 38)).alloc (.cells #[.int .i64 r, .slice x xs.length cx] 79)) := ba (ba (Below.refl _ _))
  by_cases hr : r = rel
  · have Hr := Lib.hid hr
    have hne : (r != rel) = false := by simp [hr]
    clear hr
    go_enter Tryz.func159, Tryz.ntmps159
    go_wp2
    go_loopw [7] (fun i wr => ∃ k n : Nat, i = .int .i64 k ∧ k ≤ inputs.length ∧ Hid (∀ j, j < k → fitBad ⟨rel, inputs, limit, cost, quota⟩ vals ⟨r, xs⟩ j = false) ∧ wr = ((w.alloc (.cells #[.int .i64 rel, .slice p inputs.length cp, .int .i64 limit, .int .i64 cost, .int .i64 quota] 38)).alloc (.cells #[.int .i64 r, .slice x xs.length cx] 79)).drewN n) (fun i _ => inputs.length - (intOf i).toNat)
    case atStart => exact ⟨0, 0, rfl, Nat.zero_le _, Lib.hid (fun j h0 => by omega), rfl⟩
    case round =>
      obtain ⟨k, n, rfl, hk, HN, rfl⟩ := hrel
      by_cases hlt : k < inputs.length
      · obtain ⟨hl1, hq1⟩ := HF.out
        obtain ⟨q, hq, hqx⟩ := hq1 Hr.out k hlt
        have hkv : k < vals.length := Nat.lt_of_lt_of_le hlt hl1
        have Hb := Lib.hid (fitBad_at (m := ⟨rel, inputs, limit, cost, quota⟩) (vals := vals) (x := ⟨r, xs⟩) hlt hkv hq hqx)
        obtain ⟨g1, hg1, hc1, _, _, _⟩ := hi2.get k hlt
        obtain ⟨g2, hg2, hc2, _, _, _⟩ := hv2.get k hkv
        obtain ⟨g3, hg3, hc3, _, _, _⟩ := hx2.get q hqx
        rw [show inputs[k] = (q : Int) from hq] at hc1
        clear hl1 hq1 hq
        have hk1 : (k : Int) < (inputs.length : Int) := by omega
        have hk2 : (k : Int) < (vals.length : Int) := by omega
        have hk3 : (q : Int) < (xs.length : Int) := Int.ofNat_lt.2 hqx
        have hk0 : (0 : Int) ≤ (k : Int) := Int.natCast_nonneg _
        have hk00 : (0 : Int) ≤ (q : Int) := Int.natCast_nonneg _
        subst hg1 hg2 hg3
        cases hb : (xs[q] != vals[k]) with
        | true =>
          have Hf := Lib.hid (fitB_bad (m := ⟨rel, inputs, limit, cost, quota⟩) (vals := vals) (x := ⟨r, xs⟩) hlt (Hb.out.trans hb))
          go_wp2
          go_quiet (fail)
          go_wp2
          go_ret
          exact ⟨ret_bool (by rw [Hf.out]), by repeat (first | exact Below.refl _ _ | refine bdn ?_ | refine ba ?_)⟩
        | false =>
          have HN2 := Lib.hid (anyN_step HN.out (Hb.out.trans hb))
          go_wp2
          go_quiet (fail)
          go_wp2
          go_roundw
          case rel => exact ⟨k + 1, _, by go_num, by omega, HN2, rfl⟩
          case measure => simp [intOf]; omega
      · have hkl : k = inputs.length := by omega
        have Hf := Lib.hid (fitB_end (m := ⟨rel, inputs, limit, cost, quota⟩) (vals := vals) (x := ⟨r, xs⟩) Hr.out hkl HN.out)
        clear hkl
        go_wp2
        go_ret
        exact ⟨ret_bool (by rw [Hf.out]), by repeat (first | exact Below.refl _ _ | refine bdn ?_ | refine ba ?_)⟩
  · have Hf := Lib.hid (fitB_rel (m := ⟨rel, inputs, limit, cost, quota⟩) (vals := vals) (x := ⟨r, xs⟩) hr)
    have hne : (r != rel) = true := by simp [hr]
    go_enter Tryz.func159, Tryz.ntmps159
    go_wp2
    go_ret
    exact ⟨ret_bool (by rw [Hf.out]), hb0⟩
set_option maxRecDepth 100000 in
set_option maxHeartbeats 3200000 in
theorem l5Matches_any (m : MethD) (vals : List Int) (vi vv : Value) (fi fv : List Nat) (v : Value) (l : List FactD) (f : List Nat) (w : World) (hi : ints w vi m.inputs fi) (hv : ints w vv vals fv) (h : facts w v l f)
    (H : ∀ y ∈ l, Fit m vals y) (hn : l.length ≤ 1048576) (hln : ∀ y ∈ l, y.vals.length ≤ 1048576) :
    Calls Tryz.prog 85 #[.agg #[.int .i64 m.rel, vi, .int .i64 m.limit, .int .i64 m.cost, .int .i64 m.quota], vv, v] w fun e w' => ∃ v' f', e = .returned v' ∧ facts w' v' (l.filter (fitB m vals)) f' ∧ Fresh w.heap.size f' ∧ Below w.heap.size w w' := by
  obtain ⟨p, cp, rfl⟩ := slR.form hi
  obtain ⟨pv, cv, rfl⟩ := slR.form hv
  obtain ⟨b, cap, rfl⟩ := slR.form h
  have hla := slR.le_max h
  have HH := Lib.hid H
  have Hln := Lib.hid hln
  clear H hln
  have hb0 : Below w.heap.size w (w.alloc (.cells #[.int .i64 m.rel, .slice p m.inputs.length cp, .int .i64 m.limit, .int .i64 m.cost, .int .i64 m.quota] 38)) := ba (Below.refl _ _)
  have b0 : (w.alloc (.cells #[.int .i64 m.rel, .slice p m.inputs.length cp, .int .i64 m.limit, .int .i64 m.cost, .int .i64 m.quota] 38)).cell? ⟨w.heap.size, 0, none⟩ = some (.int .i64 m.rel) := cell_new w _ _ 0 _ rfl
  have b1 : (w.alloc (.cells #[.int .i64 m.rel, .slice p m.inputs.length cp, .int .i64 m.limit, .int .i64 m.cost, .int .i64 m.quota] 38)).cell? ⟨w.heap.size, 1, none⟩ = some (.slice p m.inputs.length cp) := cell_new w _ _ 1 _ rfl
  have b2 : (w.alloc (.cells #[.int .i64 m.rel, .slice p m.inputs.length cp, .int .i64 m.limit, .int .i64 m.cost, .int .i64 m.quota] 38)).cell? ⟨w.heap.size, 2, none⟩ = some (.int .i64 m.limit) := cell_new w _ _ 2 _ rfl
  have b3 : (w.alloc (.cells #[.int .i64 m.rel, .slice p m.inputs.length cp, .int .i64 m.limit, .int .i64 m.cost, .int .i64 m.quota] 38)).cell? ⟨w.heap.size, 3, none⟩ = some (.int .i64 m.cost) := cell_new w _ _ 3 _ rfl
  have b4 : (w.alloc (.cells #[.int .i64 m.rel, .slice p m.inputs.length cp, .int .i64 m.limit, .int .i64 m.cost, .int .i64 m.quota] 38)).cell? ⟨w.heap.size, 4, none⟩ = some (.int .i64 m.quota) := cell_new w _ _ 4 _ rfl
  have hi0 := hi.below' hb0
  have hv0 := hv.below' hb0
  have h0 := h.below' hb0
  obtain ⟨w1, hw1⟩ : ∃ w1, w1 = (w.alloc (.cells #[.int .i64 m.rel, .slice p m.inputs.length cp, .int .i64 m.limit, .int .i64 m.cost, .int .i64 m.quota] 38)) := ⟨_, rfl⟩
  rw [← hw1] at hb0 hi0 hv0 h0 b0 b1 b2 b3 b4
  have hsz : w1.heap.size = w.heap.size + 1 := by rw [hw1]; simp only [World.alloc, Array.size_push]
  have hg0 := grR.lit (w := w1) (B := w1.heap.size) (E := 79) (sz := 2) factR (Nat.le_refl _) (Nat.le_refl _)
  have hv1 : Value.slice (some ⟨w1.heap.size, 0, none⟩) 0 0 = .slice (some ⟨w.heap.size + 1, 0, none⟩) 0 0 := by rw [hsz]
  rw [hv1] at hg0
  have HW1 := Lib.hid hw1
  have hszl : w.heap.size ≤ w1.heap.size := by omega
  clear hsz hv1 hw1
  go_enter Tryz.func85, Tryz.ntmps85
  go_wp2
  go_loopw [7, 8] (fun u i wr => ∃ (k : Nat) (lo : List FactD) (fo : List Nat), i = .int .i64 k ∧ k ≤ l.length ∧ Hid (lo = (l.take k).filter (fitB m vals)) ∧ grR 79 2 factR w1.heap.size wr u lo fo ∧ Below w1.heap.size w1 wr) (fun _ i _ => l.length - (intOf i).toNat)
  case atStart =>
    rw [← HW1.out]
    exact ⟨0, [], _, rfl, Nat.zero_le _, Lib.hid rfl, hg0, ba (Below.refl _ _)⟩
  case round =>
    obtain ⟨k, lo, fo, rfl, hk, Hlo, hgr, hbel⟩ := hrel
    obtain ⟨ao, co, rfl⟩ := slR.form hgr.sl
    have hbw := bt hb0 hbel
    have hll : lo.length ≤ 1048576 := by
      have h0 := congrArg List.length Hlo.out
      exact h0 ▸ Nat.le_trans (filter_take_le _ l k) hn
    by_cases hlt : k < l.length
    · obtain ⟨g, c, fk, hg, ⟨vy, rfl, iy, hy⟩, _, hc, _, _, _⟩ := slR.at h0 k hlt
      obtain ⟨a', c', rfl⟩ := slR.form hy
      have hw0 : w1.cell? ⟨g, k * 2, none⟩ = some (.int .i64 l[k].rel) := hc 0 _ rfl
      have hw1 : w1.cell? ⟨g, k * 2 + 1, none⟩ = some (.slice a' l[k].vals.length c') := hc 1 _ rfl
      have hc0 : wr.cell? ⟨g, k * 2, none⟩ = some (.int .i64 l[k].rel) := cell_below hw0 hbel
      have hc1 : wr.cell? ⟨g, k * 2 + 1, none⟩ = some (.slice a' l[k].vals.length c') := cell_below hw1 hbel
      have hkl : (k : Int) < (l.length : Int) := by omega
      have hk0 : (0 : Int) ≤ (k : Int) := Int.natCast_nonneg _
      clear hc
      subst hg
      have Lb0 : ∀ x : Lat wr, x.wd.cell? ⟨w.heap.size, 0, none⟩ = some (.int .i64 m.rel) := fun x => x.cell (cell_below b0 hbel)
      have Lb1 : ∀ x : Lat wr, x.wd.cell? ⟨w.heap.size, 1, none⟩ = some (.slice p m.inputs.length cp) := fun x => x.cell (cell_below b1 hbel)
      have Lb2 : ∀ x : Lat wr, x.wd.cell? ⟨w.heap.size, 2, none⟩ = some (.int .i64 m.limit) := fun x => x.cell (cell_below b2 hbel)
      have Lb3 : ∀ x : Lat wr, x.wd.cell? ⟨w.heap.size, 3, none⟩ = some (.int .i64 m.cost) := fun x => x.cell (cell_below b3 hbel)
      have Lb4 : ∀ x : Lat wr, x.wd.cell? ⟨w.heap.size, 4, none⟩ = some (.int .i64 m.quota) := fun x => x.cell (cell_below b4 hbel)
      have Lc0 : ∀ x : Lat wr, x.wd.cell? ⟨g, k * 2, none⟩ = some (.int .i64 l[k].rel) := fun x => x.cell hc0
      have Lc1 : ∀ x : Lat wr, x.wd.cell? ⟨g, k * 2 + 1, none⟩ = some (.slice a' l[k].vals.length c') := fun x => x.cell hc1
      have hiL : ∀ x : Lat wr, ints x.wd (.slice p m.inputs.length cp) m.inputs fi := fun x => (hi0.below' hbel).below' x.ok
      have hvL : ∀ x : Lat wr, ints x.wd (.slice pv vals.length cv) vals fv := fun x => (hv0.below' hbel).below' x.ok
      have hyL : ∀ x : Lat wr, ints x.wd (.slice a' l[k].vals.length c') l[k].vals fk := fun x => (hy.below' hbel).below' x.ok
      have HFk := HH.out l[k] (List.getElem_mem hlt)
      have Hyn := Hln.out l[k] (List.getElem_mem hlt)
      cases hp : fitB m vals l[k] with
      | false =>
        have HN2 := Lib.hid (Hlo.out.trans (filter_take_no hlt hp).symm)
        go_wp2_with fail
        refine wp_region_lat wr (by kernel_rfl) (by kernel_rfl) ?_
        repeat (go_big_quiet_step ((go_at_call 159; exact Lat.of (retBB (l5Fits_any m vals l[k] _ _ _ fi fv fk _ (hiL _) (hvL _) (hyL _) HFk) hp))))
        refine wpQuiet_nil ?_
        intro _ hw'
        obtain ⟨x1, hw''⟩ := hw'
        subst hw''
        have hgr1 := hgr.below' good_fact x1.ok
        have hb1 := bt hbel x1.ok
        go_wp2
        go_roundw
        case rel => exact ⟨k + 1, lo, fo, by go_num, by omega, HN2, hgr1, hb1⟩
        case measure => simp [intOf]; omega
      | true =>
        have HN2 := Lib.hid (show lo ++ [l[k]] = _ from ((filter_take_yes hlt hp).trans (by rw [Hlo.out])).symm)
        go_wp2_with fail
        refine wp_region_lat wr (by kernel_rfl) (by kernel_rfl) ?_
        repeat (go_big_quiet_step ((go_at_call 159; exact Lat.of (retBB (l5Fits_any m vals l[k] _ _ _ fi fv fk _ (hiL _) (hvL _) (hyL _) HFk) hp))))
        refine wpQuiet_nil ?_
        intro _ hw'
        obtain ⟨x1, hw''⟩ := hw'
        subst hw''
        have hgr1 := hgr.below' good_fact x1.ok
        have hb1 := bt hbel x1.ok
        have e0 := Lc0 x1
        have e1 := Lc1 x1
        have hy1 := hyL x1
        clear Lc0 Lc1 hiL hvL hyL Lb0 Lb1 Lb2 Lb3 Lb4
        obtain ⟨W1, hW1⟩ : ∃ W1, W1 = x1.wd := ⟨_, rfl⟩
        rw [← hW1] at hgr1 hb1 e0 e1 hy1 ⊢
        clear hW1
        go_wp2_with fail
        go_region_held3 (fun w' => w'.cell? ⟨g, k * 2, none⟩ = some (.int .i64 l[k].rel) ∧ w'.cell? ⟨g, k * 2 + 1, none⟩ = some (.slice a' l[k].vals.length c')) (first | exact ⟨e0, e1⟩ | exact ⟨e2, e3⟩ | exact ⟨cell_al e2 _, cell_al e3 _⟩ | exact ⟨cell_below hw0 hb4, cell_below hw1 hb4⟩)
          (first
            | (go_at_call 142
               refine (l2One_any l[k].rel _ l[k].vals fk _ (hy1.below' ?_) Hyn).mono ?_
               · (repeat (first | exact Below.refl _ _ | refine bdr ?_))
               rintro e w2 ⟨v2, f2, rfl, hu2, hfr2, hb2⟩
               obtain ⟨p2, q2, rfl⟩ := slR.form hu2
               have D2 : Below W1.heap.size W1 w2 := bt (by (repeat (first | exact Below.refl _ _ | refine bdr ?_))) hb2
               have e2 : w2.cell? ⟨g, k * 2, none⟩ = some (.int .i64 l[k].rel) := cell_below e0 D2
               have e3 : w2.cell? ⟨g, k * 2 + 1, none⟩ = some (.slice a' l[k].vals.length c') := cell_below e1 D2
               have hgr2 := hgr1.below' good_fact D2
               have hbw2 := bt hb1 D2
               have hfr3 : Fresh W1.heap.size f2 := hfr2.mono (Nat.le_of_eq rfl))
            | ((refine step_gr slFactS good_fact (by rfl) _ _ (by rfl) hgr2 hbw2 (by rfl) #[.int .i64 l[k].rel, .slice p2 l[k].vals.length q2] l[k] f2 ⟨_, rfl, iy, hu2⟩ (by rfl) (hfr3.mono (Below.size hb1)) (fun g hg hm => (by have h1 := hfr3.2 g hg; have h2 := grR.lt good_fact hgr1 g hm; omega)) (by rfl) (by simp [Value.oneCell']) (by omega) (by unfold maxLen; omega) ?_; intro g4 cap4 w4 f4 hgr4 hb4 hg4)))
        go_wp2
        go_roundw
        case rel => exact ⟨k + 1, lo ++ [l[k]], f4, by go_num, by omega, HN2, by simpa using hgr4, hb4⟩
        case measure => simp [intOf]; omega
    · have hkl : k = l.length := by omega
      have HS := Lib.hid (show lo = l.filter (fitB m vals) by rw [Hlo.out, hkl, List.take_length])
      clear hkl
      have hfr := hgr.fresh.mono hszl
      go_wp2
      go_ret
      exact ⟨_, _, rfl, by rw [← HS.out]; exact hgr.sl, hfr, hbw⟩
end Go.Proofs.YtpdmdfkcaabnaaaGreatDoor
