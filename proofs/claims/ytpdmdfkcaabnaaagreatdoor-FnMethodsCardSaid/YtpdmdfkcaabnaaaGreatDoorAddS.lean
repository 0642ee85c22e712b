/- AddFact of the reference. Condition: sizes up to 2^20. -/
import Derived.Test.YtpdmdfkcaabnaaaGreatDoorMSpec
import Derived.Test.YtpdmdfkcaabnaaaGreatDoorHas
import Derived.Test.YtpdmdfkcaabnaaaGreatDoorOrder
import Derived.Test.YtpdmdfkcaabnaaaGreatDoorTuple
namespace Go.Proofs.YtpdmdfkcaabnaaaGreatDoor
open Go.RowKit
set_option linter.unusedVariables false
set_option linter.unusedSimpArgs false
theorem addFact_eq (l : List FactD) (x : FactD) : addFactL l x = if hasFactB l x then l else insF (fun y => decide (cmpFact x y < 0)) x l := by
  unfold addFactL addC hasFactB
  rw [insF_turned cmp_facts]
set_option maxRecDepth 100000 in
set_option maxHeartbeats 6400000 in
theorem specAddFact_own (v : Value) (l : List FactD) (f : List Nat) (x : FactD) (vx : Value) (fx : List Nat) (w : World) (h : facts w v l f) (hx : ints w vx x.vals fx) (hix : I64 x.rel) (hn : l.length ≤ 1048576) (hln : ∀ y ∈ l, y.vals.length ≤ 1048576) (hxn : x.vals.length ≤ 1048576) :
    Calls Tryz.prog 59 #[v, .agg #[.int .i64 x.rel, vx]] w fun e w' => ∃ v' f', e = .returned v' ∧ grR 79 2 factR w.heap.size w' v' (addFactL l x) f' ∧ Below w.heap.size w w' := by
  obtain ⟨b, cap, rfl⟩ := slR.form h
  obtain ⟨bx, cx, rfl⟩ := slR.form hx
  have hla := slR.le_max h
  have Hadd := Lib.hid (addFact_eq l x)
  have Hln := Lib.hid hln
  clear hln
  have hb0 : Below w.heap.size w (w.alloc (.cells #[.int .i64 x.rel, .slice bx x.vals.length cx] 79)) := ba (Below.refl _ _)
  have q0 : (w.alloc (.cells #[.int .i64 x.rel, .slice bx x.vals.length cx] 79)).cell? ⟨w.heap.size, 0, none⟩ = some (.int .i64 x.rel) := cell_new w _ _ 0 _ rfl
  have q1 : (w.alloc (.cells #[.int .i64 x.rel, .slice bx x.vals.length cx] 79)).cell? ⟨w.heap.size, 1, none⟩ = some (.slice bx x.vals.length cx) := cell_new w _ _ 1 _ rfl
  have hx0 := hx.below' hb0
  have h0 := h.below' hb0
  obtain ⟨w1, hw1⟩ : ∃ w1, w1 = (w.alloc (.cells #[.int .i64 x.rel, .slice bx x.vals.length cx] 79)) := ⟨_, rfl⟩
  rw [← hw1] at hb0 hx0 h0 q0 q1
  have hsz : w1.heap.size = w.heap.size + 1 := by rw [hw1]; simp only [World.alloc, Array.size_push]
  have hg0 := grR.lit (w := w1) (B := w1.heap.size) (E := 79) (sz := 2) factR (Nat.le_refl _) (Nat.le_refl _)
  have hv1 : Value.slice (some ⟨w1.heap.size, 0, none⟩) 0 0 = .slice (some ⟨w.heap.size + 1, 0, none⟩) 0 0 := by rw [hsz]
  rw [hv1] at hg0
  have hba : Below w1.heap.size w1 (w1.alloc (.cells #[] 79)) := ba (Below.refl _ _)
  have q0a := cell_below q0 hba
  have q1a := cell_below q1 hba
  have h0a := h0.below' hba
  have hx0a := hx0.below' hba
  have HW1 := Lib.hid hw1
  have hszl : w.heap.size ≤ w1.heap.size := by omega
  generalize hr : hasFactB l x = r at Hadd
  have Hr := Lib.hid hr
  clear hsz hv1 hw1 hr
  go_enter Tryz.func59, Tryz.ntmps59
  go_wp2_with fail
  rw [← HW1.out]
  refine (specHasFact_any _ l f x _ fx _ h0a hx0a).mono ?_
  rintro e w2 ⟨rfl, hb2⟩
  rw [Hr.out]
  have hg2 := hg0.below' good_fact hb2
  have hb12 := bt hba hb2
  clear hg0 hb2 hba q0a q1a h0a hx0a
  go_wp2
  go_loopw [5, 6, 7] (fun u p i wr => ∃ (k : Nat) (pl : Bool) (lo : List FactD) (fo : List Nat), i = .int .i64 k ∧ k ≤ l.length ∧ p = .bool pl ∧ grR 79 2 factR w1.heap.size wr u lo fo ∧ lo.length ≤ k + (if pl then 1 else 0) ∧
    Hid (addFactL l x = lo ++ (if pl then l.drop k else insF (fun y => decide (cmpFact x y < 0)) x (l.drop k))) ∧ Below w1.heap.size w1 wr) (fun _ _ i _ => l.length - (intOf i).toNat)
  case atStart =>
    refine ⟨0, r, [], _, rfl, Nat.zero_le _, rfl, hg2, by simp, Lib.hid ?_, hb12⟩
    rw [Hadd.out]; cases r <;> simp
  case round =>
    obtain ⟨k, pl, lo, fo, rfl, hk, rfl, hgr, hlo, HN, hbel⟩ := hrel
    obtain ⟨ao, co, rfl⟩ := slR.form hgr.sl
    have hbw := bt hb0 hbel
    have hlo1 : lo.length ≤ k + 1 := by cases pl <;> simp at hlo <;> omega
    have Hlo := Lib.hid hlo
    have hll : lo.length ≤ 1048577 := by omega
    clear hlo
    by_cases hlt : k < l.length
    · obtain ⟨g, c, fk, hg, ⟨vy, rfl, iy, hy⟩, _, hc, _, _, _⟩ := slR.at h0 k hlt
      obtain ⟨a', c', rfl⟩ := slR.form hy
      have hw0 : w1.cell? ⟨g, k * 2, none⟩ = some (.int .i64 l[k].rel) := hc 0 _ rfl
      have hw1 : w1.cell? ⟨g, k * 2 + 1, none⟩ = some (.slice a' l[k].vals.length c') := hc 1 _ rfl
      have hc0 : wr.cell? ⟨g, k * 2, none⟩ = some (.int .i64 l[k].rel) := cell_below hw0 hbel
      have hc1 : wr.cell? ⟨g, k * 2 + 1, none⟩ = some (.slice a' l[k].vals.length c') := cell_below hw1 hbel
      have hq0 := cell_below q0 hbel
      have hq1 := cell_below q1 hbel
      have hkl : (k : Int) < (l.length : Int) := by omega
      have hk0 : (0 : Int) ≤ (k : Int) := Int.natCast_nonneg _
      clear hc
      subst hg
      have Lb0 : ∀ y : Lat wr, y.wd.cell? ⟨w.heap.size, 0, none⟩ = some (.int .i64 x.rel) := fun y => y.cell hq0
      have Lb1 : ∀ y : Lat wr, y.wd.cell? ⟨w.heap.size, 1, none⟩ = some (.slice bx x.vals.length cx) := fun y => y.cell hq1
      have Lc0 : ∀ y : Lat wr, y.wd.cell? ⟨g, k * 2, none⟩ = some (.int .i64 l[k].rel) := fun y => y.cell hc0
      have Lc1 : ∀ y : Lat wr, y.wd.cell? ⟨g, k * 2 + 1, none⟩ = some (.slice a' l[k].vals.length c') := fun y => y.cell hc1
      have hxL : ∀ y : Lat wr, ints y.wd (.slice bx x.vals.length cx) x.vals fx := fun y => (hx0.below' hbel).below' y.ok
      have hyL : ∀ y : Lat wr, ints y.wd (.slice a' l[k].vals.length c') l[k].vals fk := fun y => (hy.below' hbel).below' y.ok
      have Hyn := Hln.out l[k] (List.getElem_mem hlt)
      have Hd := Lib.hid (insF_drop' (p := fun y => decide (cmpFact x y < 0)) (x := x) hlt)
      cases pl with
      | true =>
        have HN2 := Lib.hid (show addFactL l x = (lo ++ [l[k]]) ++ (if true then l.drop (k + 1) else insF (fun y => decide (cmpFact x y < 0)) x (l.drop (k + 1))) by
          rw [HN.out]; simp only [if_true]; rw [List.drop_eq_getElem_cons hlt]; simp)
        go_wp2_with fail
        refine wp_region_lat wr (by kernel_rfl) (by kernel_rfl) ?_
        repeat (go_big_quiet_step ((go_at_call 71; exact Lat.of (specCompareFacts_any x l[k] _ _ fx fk _ (hxL _) (hyL _)))))
        refine wpQuiet_nil ?_
        intro _ hw'
        obtain ⟨x1, hw''⟩ := hw'
        subst hw''
        have hgr1 := hgr.below' good_fact x1.ok
        have hb1 := bt hbel x1.ok
        have e0 := Lc0 x1
        have e1 := Lc1 x1
        have r0 := Lb0 x1
        have r1 := Lb1 x1
        have hy1 := hyL x1
        have hx1 := hxL x1
        clear Lc0 Lc1 hxL hyL Lb0 Lb1
        obtain ⟨W1, hW1⟩ : ∃ W1, W1 = x1.wd := ⟨_, rfl⟩
        rw [← hW1] at hgr1 hb1 e0 e1 hy1 hx1 r0 r1 ⊢
        clear hW1
        go_wp2_with fail
        go_region_held3 (fun w' => w'.cell? ⟨g, k * 2, none⟩ = some (.int .i64 l[k].rel) ∧ w'.cell? ⟨g, k * 2 + 1, none⟩ = some (.slice a' l[k].vals.length c')) (first | exact ⟨e0, e1⟩ | exact ⟨e2, e3⟩ | exact ⟨cell_al e2 _, cell_al e3 _⟩ | exact ⟨cell_below hw0 hb4, cell_below hw1 hb4⟩)
          (first
            | (go_at_call 142
               refine (l2One_any l[k].rel _ l[k].vals fk _ (hy1.below' ?_) Hyn).mono ?_
               · (repeat (first | exact Below.refl _ _ | refine bdr ?_))
               rintro e w2 ⟨v2, f2, rfl, hu2, hfr2, hb2⟩
               obtain ⟨p2, q2, rfl⟩ := slR.form hu2
               have D2 : Below W1.heap.size W1 w2 := bt (by (repeat (first | exact Below.refl _ _ | refine bdr ?_))) hb2
               have e2 : w2.cell? ⟨g, k * 2, none⟩ = some (.int .i64 l[k].rel) := cell_below e0 D2
               have e3 : w2.cell? ⟨g, k * 2 + 1, none⟩ = some (.slice a' l[k].vals.length c') := cell_below e1 D2
               have hgr2 := hgr1.below' good_fact D2
               have hbw2 := bt hb1 D2
               have hfr3 : Fresh W1.heap.size f2 := hfr2.mono (Nat.le_of_eq rfl))
            | ((refine step_gr slFactS good_fact (by rfl) _ _ (by rfl) hgr2 hbw2 (by rfl) #[.int .i64 l[k].rel, .slice p2 l[k].vals.length q2] l[k] f2 ⟨_, rfl, iy, hu2⟩ (by rfl) (hfr3.mono (Below.size hb1)) (fun g hg hm => (by have h1 := hfr3.2 g hg; have h2 := grR.lt good_fact hgr1 g hm; omega)) (by rfl) (by simp [Value.oneCell']) (by first | omega | (simp; omega)) (by unfold maxLen; first | omega | (simp; omega)) ?_; intro g4 cap4 w4 f4 hgr4 hb4 hg4)))
        go_wp2
        go_roundw
        case rel => exact ⟨k + 1, true, lo ++ [l[k]], f4, by go_num, by omega, rfl, by simpa using hgr4, by simp; omega, HN2, hb4⟩
        case measure => simp [intOf]; omega
      | false =>
        have hlo0 : lo.length ≤ k := by simpa using Hlo.out
        cases hp : decide (cmpFact x l[k] < 0) with
        | false =>
          have HN2 := Lib.hid (show addFactL l x = (lo ++ [l[k]]) ++ (if false then l.drop (k + 1) else insF (fun y => decide (cmpFact x y < 0)) x (l.drop (k + 1))) by
            rw [HN.out]; simp only [Bool.false_eq_true, if_false]; rw [Hd.out, hp]; simp)
          go_wp2_with fail
          refine wp_region_lat wr (by kernel_rfl) (by kernel_rfl) ?_
          repeat (go_big_quiet_step ((go_at_call 71; exact Lat.of (specCompareFacts_any x l[k] _ _ fx fk _ (hxL _) (hyL _)))))
          refine wpQuiet_nil ?_
          intro _ hw'
          obtain ⟨x1, hw''⟩ := hw'
          subst hw''
          have hgr1 := hgr.below' good_fact x1.ok
          have hb1 := bt hbel x1.ok
          have e0 := Lc0 x1
          have e1 := Lc1 x1
          have r0 := Lb0 x1
          have r1 := Lb1 x1
          have hy1 := hyL x1
          have hx1 := hxL x1
          clear Lc0 Lc1 hxL hyL Lb0 Lb1
          obtain ⟨W1, hW1⟩ : ∃ W1, W1 = x1.wd := ⟨_, rfl⟩
          rw [← hW1] at hgr1 hb1 e0 e1 hy1 hx1 r0 r1 ⊢
          clear hW1
          clear hp
          go_wp2_with fail
          go_region_held3 (fun w' => w'.cell? ⟨g, k * 2, none⟩ = some (.int .i64 l[k].rel) ∧ w'.cell? ⟨g, k * 2 + 1, none⟩ = some (.slice a' l[k].vals.length c')) (first | exact ⟨e0, e1⟩ | exact ⟨e2, e3⟩ | exact ⟨cell_al e2 _, cell_al e3 _⟩ | exact ⟨cell_below hw0 hb4, cell_below hw1 hb4⟩)
            (first
              | (go_at_call 142
                 refine (l2One_any l[k].rel _ l[k].vals fk _ (hy1.below' ?_) Hyn).mono ?_
                 · (repeat (first | exact Below.refl _ _ | refine bdr ?_))
                 rintro e w2 ⟨v2, f2, rfl, hu2, hfr2, hb2⟩
                 obtain ⟨p2, q2, rfl⟩ := slR.form hu2
                 have D2 : Below W1.heap.size W1 w2 := bt (by (repeat (first | exact Below.refl _ _ | refine bdr ?_))) hb2
                 have e2 : w2.cell? ⟨g, k * 2, none⟩ = some (.int .i64 l[k].rel) := cell_below e0 D2
                 have e3 : w2.cell? ⟨g, k * 2 + 1, none⟩ = some (.slice a' l[k].vals.length c') := cell_below e1 D2
                 have hgr2 := hgr1.below' good_fact D2
                 have hbw2 := bt hb1 D2
                 have hfr3 : Fresh W1.heap.size f2 := hfr2.mono (Nat.le_of_eq rfl))
              | ((refine step_gr slFactS good_fact (by rfl) _ _ (by rfl) hgr2 hbw2 (by rfl) #[.int .i64 l[k].rel, .slice p2 l[k].vals.length q2] l[k] f2 ⟨_, rfl, iy, hu2⟩ (by rfl) (hfr3.mono (Below.size hb1)) (fun g hg hm => (by have h1 := hfr3.2 g hg; have h2 := grR.lt good_fact hgr1 g hm; omega)) (by rfl) (by simp [Value.oneCell']) (by first | omega | (simp; omega)) (by unfold maxLen; first | omega | (simp; omega)) ?_; intro g4 cap4 w4 f4 hgr4 hb4 hg4)))
          go_wp2
          go_roundw
          case rel => exact ⟨k + 1, false, lo ++ [l[k]], f4, by go_num, by omega, rfl, by simpa using hgr4, by simp; omega, HN2, hb4⟩
          case measure => simp [intOf]; omega
        | true =>
          have HN2 := Lib.hid (show addFactL l x = ((lo ++ [x]) ++ [l[k]]) ++ (if true then l.drop (k + 1) else insF (fun y => decide (cmpFact x y < 0)) x (l.drop (k + 1))) by
            rw [HN.out]; simp only [Bool.false_eq_true, if_false, if_true]; rw [Hd.out, hp]; simp)
          go_wp2_with fail
          refine wp_region_lat wr (by kernel_rfl) (by kernel_rfl) ?_
          repeat (go_big_quiet_step ((go_at_call 71; exact Lat.of (specCompareFacts_any x l[k] _ _ fx fk _ (hxL _) (hyL _)))))
          refine wpQuiet_nil ?_
          intro _ hw'
          obtain ⟨x1, hw''⟩ := hw'
          subst hw''
          have hgr1 := hgr.below' good_fact x1.ok
          have hb1 := bt hbel x1.ok
          have e0 := Lc0 x1
          have e1 := Lc1 x1
          have r0 := Lb0 x1
          have r1 := Lb1 x1
          have hy1 := hyL x1
          have hx1 := hxL x1
          clear Lc0 Lc1 hxL hyL Lb0 Lb1
          obtain ⟨W1, hW1⟩ : ∃ W1, W1 = x1.wd := ⟨_, rfl⟩
          rw [← hW1] at hgr1 hb1 e0 e1 hy1 hx1 r0 r1 ⊢
          clear hW1
          clear hp
          go_wp2_with (first
            | (go_at_call 142; refine (l2One_any x.rel _ x.vals fx _ hx1 hxn).mono ?_; rintro e w3 ⟨v3, f3, rfl, hu3, hfr3, hb3⟩; obtain ⟨p3, q3, rfl⟩ := slR.form hu3; have hgr3 := hgr1.below' good_fact hb3; have hbw3 := bt hb1 hb3)
            | (at_builtin; refine wpList_gr slFactS good_fact rfl _ _ rfl hgr3 hbw3 rfl #[.int .i64 x.rel, .slice p3 x.vals.length q3] x f3 ⟨_, rfl, hix, hu3⟩ rfl (hfr3.mono (Below.size hb1)) (fun g hg hm => (by have h1 := hfr3.2 g hg; have h2 := grR.lt good_fact hgr1 g hm; omega)) rfl (by simp [Value.oneCell']) (by omega) (by unfold maxLen; omega) ?_; intro g5 cap5 w5 f5 hgr5 hb5 hg5; have e5 := cell_below hw0 hb5; have e6 := cell_below hw1 hb5; have hy5 := hy.below' hb5))
          obtain ⟨W5, hW5⟩ : ∃ W5, W5 = w5 := ⟨_, rfl⟩
          go_wp2_with fail
          go_region_held3 (fun w' => w'.cell? ⟨g, k * 2, none⟩ = some (.int .i64 l[k].rel) ∧ w'.cell? ⟨g, k * 2 + 1, none⟩ = some (.slice a' l[k].vals.length c')) (first | exact ⟨e5, e6⟩ | exact ⟨e72, e73⟩ | exact ⟨cell_al e72 _, cell_al e73 _⟩ | exact ⟨cell_below hw0 hb74, cell_below hw1 hb74⟩)
            (first
              | (go_at_call 142
                 refine (l2One_any l[k].rel _ l[k].vals fk _ (hy5.below' ?_) Hyn).mono ?_
                 · (repeat (first | exact Below.refl _ _ | refine bdr ?_))
                 rintro e w72 ⟨v72, f72, rfl, hu72, hfr72, hb72⟩
                 obtain ⟨p72, q72, rfl⟩ := slR.form hu72
                 have D72 : Below w5.heap.size w5 w72 := bt (by (repeat (first | exact Below.refl _ _ | refine bdr ?_))) hb72
                 have e72 : w72.cell? ⟨g, k * 2, none⟩ = some (.int .i64 l[k].rel) := cell_below e5 D72
                 have e73 : w72.cell? ⟨g, k * 2 + 1, none⟩ = some (.slice a' l[k].vals.length c') := cell_below e6 D72
                 have hgr72 := hgr5.below' good_fact D72
                 have hbw72 := bt hb5 D72
                 have hfr73 : Fresh w5.heap.size f72 := hfr72.mono (Nat.le_of_eq rfl))
              | ((refine step_gr slFactS good_fact (by rfl) _ _ (by rfl) hgr72 hbw72 (by rfl) #[.int .i64 l[k].rel, .slice p72 l[k].vals.length q72] l[k] f72 ⟨_, rfl, iy, hu72⟩ (by rfl) (hfr73.mono (Below.size hb5)) (fun g hg hm => (by have h1 := hfr73.2 g hg; have h2 := grR.lt good_fact hgr5 g hm; omega)) (by rfl) (by simp [Value.oneCell']) (by first | omega | (simp; omega)) (by unfold maxLen; first | omega | (simp; omega)) ?_; intro g74 cap74 w74 f74 hgr74 hb74 hg74)))
          go_wp2
          go_roundw
          case rel => exact ⟨k + 1, true, (lo ++ [x]) ++ [l[k]], f74, by go_num, by omega, rfl, by simpa using hgr74, by simp; omega, HN2, hb74⟩
          case measure => simp [intOf]; omega
    · have hkl : k = l.length := by omega
      have hxr := hx0.below' hbel
      have hq0 := cell_below q0 hbel
      have hq1 := cell_below q1 hbel
      cases pl with
      | true =>
        have HS := Lib.hid (show lo = addFactL l x by rw [HN.out, hkl]; simp)
        clear hkl
        have hfin : grR 79 2 factR w.heap.size wr (.slice ao lo.length co) (addFactL l x) fo := by rw [← HS.out]; exact hgr.less hszl
        go_wp2
        go_ret
        first | exact ⟨.slice ao lo.length co, rfl, fo, hfin, hbw⟩ | exact ⟨_, _, rfl, hfin, hbw⟩ | exact ⟨_, rfl, ⟨_, hfin⟩, hbw⟩
      | false =>
        have HS := Lib.hid (show lo ++ [x] = addFactL l x by rw [HN.out, hkl]; simp [insF])
        clear hkl
        go_wp2_with (first
          | (go_at_call 142; refine (l2One_any x.rel _ x.vals fx _ hxr hxn).mono ?_; rintro e w3 ⟨v3, f3, rfl, hu3, hfr3, hb3⟩; obtain ⟨p3, q3, rfl⟩ := slR.form hu3; have hgr3 := hgr.below' good_fact hb3; have hbw3 := bt hbel hb3)
          | (at_builtin; refine wpList_gr slFactS good_fact rfl _ _ rfl hgr3 hbw3 rfl #[.int .i64 x.rel, .slice p3 x.vals.length q3] x f3 ⟨_, rfl, hix, hu3⟩ rfl (hfr3.mono (Below.size hbel)) (fun g hg hm => (by have h1 := hfr3.2 g hg; have h2 := grR.lt good_fact hgr g hm; omega)) rfl (by simp [Value.oneCell']) (by omega) (by unfold maxLen; omega) ?_; intro g5 cap5 w5 f5 hgr5 hb5 hg5))
        have hbf := bt hb0 hb5
        have hfin : grR 79 2 factR w.heap.size w5 (.slice (some ⟨g5, 0, none⟩) (lo.length + 1) cap5) (addFactL l x) f5 := by rw [← HS.out]; exact hgr5.less hszl
        go_ret
        first | exact ⟨_, _, rfl, hfin, hbf⟩ | exact ⟨_, rfl, ⟨_, hfin⟩, hbf⟩
theorem specAddFact_any (v : Value) (l : List FactD) (f : List Nat) (x : FactD) (vx : Value) (fx : List Nat) (w : World) (h : facts w v l f) (hx : ints w vx x.vals fx) (hix : I64 x.rel) (hn : l.length ≤ 1048576) (hln : ∀ y ∈ l, y.vals.length ≤ 1048576) (hxn : x.vals.length ≤ 1048576) :
    Calls Tryz.prog 59 #[v, .agg #[.int .i64 x.rel, vx]] w fun e w' => ∃ v' f', e = .returned v' ∧ facts w' v' (addFactL l x) f' ∧ Fresh w.heap.size f' ∧ Below w.heap.size w w' := by
  refine (specAddFact_own v l f x vx fx w h hx hix hn hln hxn).mono ?_
  rintro e w' ⟨v', f', rfl, hg, hb⟩
  exact ⟨v', f', rfl, hg.sl, hg.fresh, hb⟩
end Go.Proofs.YtpdmdfkcaabnaaaGreatDoor
