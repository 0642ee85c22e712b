/- HasFact, of the program and of the reference. No condition. -/
import Derived.Test.YtpdmdfkcaabnaaaGreatDoorCmpFact
import Derived.Test.YtpdmdfkcaabnaaaGreatDoorIdxS
import Derived.Test.YtpdmdfkcaabnaaaGreatDoorMB
namespace Go.Proofs.YtpdmdfkcaabnaaaGreatDoor
open Go.RowKit
set_option linter.unusedVariables false
set_option linter.unusedSimpArgs false
theorem hasFact1_any (x y : FactD) (vx vy : Value) (fx fy : List Nat) (g : Nat) (w : World) (hx : ints w vx x.vals fx) (hy : ints w vy y.vals fy)
    (c0 : w.cell? ⟨g, 0, none⟩ = some (.int .i64 y.rel)) (c1 : w.cell? ⟨g, 1, none⟩ = some vy) :
    Calls Tryz.prog 143 #[.agg #[.int .i64 x.rel, vx], .pointer (some ⟨g, 0, none⟩)] w fun e w' => e = .returned (.bool (decide (cmpFact x y = 0))) ∧ Below w.heap.size w w' := by
  obtain ⟨a, cap, rfl⟩ := slR.form hx
  obtain ⟨b, cap', rfl⟩ := slR.form hy
  have d0 := fun o => cell_al c0 o
  have d1 := fun o => cell_al c1 o
  have hf := lt_of_cell c0
  have Hd := Lib.hid (show (cmpFact x y == 0) = decide (cmpFact x y = 0) from rfl)
  go_enter Tryz.func143, Tryz.ntmps143
  go_wp2_with fail
  refine (implCompareFacts_any x y _ _ fx fy _ (hx.al _) (hy.al _)).mono ?_
  rintro e w1 ⟨rfl, hb1⟩
  go_wp2
  go_ret
  exact ⟨ret_bool (by rw [← Hd.out]), bt (ba (Below.refl _ _)) hb1⟩
set_option maxRecDepth 100000 in
set_option maxHeartbeats 800000 in
theorem implHasFact_any (v : Value) (l : List FactD) (f : List Nat) (x : FactD) (vx : Value) (fx : List Nat) (w : World) (h : facts w v l f) (hx : ints w vx x.vals fx) :
    Calls Tryz.prog 60 #[v, .agg #[.int .i64 x.rel, vx]] w fun e w' => e = .returned (.bool (hasFactB l x)) ∧ Below w.heap.size w w' := by
  obtain ⟨a, cap, rfl⟩ := slR.form h
  obtain ⟨b, cap', rfl⟩ := slR.form hx
  have hP := plain_of Tryz.func143 (by kernel_rfl) (by kernel_rfl)
  have Hd := Lib.hid (show hasFactB l x = l.any fun y => decide (cmpFact y x = 0) from rfl)
  go_enter Tryz.func60, Tryz.ntmps60
  go_wp2_with fail
  refine (containsFuncFact_any _ hP #[.pointer (some ⟨w.heap.size, 0, none⟩)] (fun y vy => #[.agg #[.int .i64 y.rel, vy], .pointer (some ⟨w.heap.size, 0, none⟩)]) (fun _ _ => rfl) (fun y => decide (cmpFact y x = 0)) _ l f _ (h.al _)
    (fun i hi w' vy fy hb hy => hasFact1_any _ _ _ _ _ _ _ _ hy ((hx.al _).below' hb) (cell_below (cell_new _ _ _ 0 _ rfl) hb) (cell_below (cell_new _ _ _ 1 _ rfl) hb))).mono ?_
  rintro e w1 ⟨rfl, hb1⟩
  go_wp2
  go_ret
  exact ⟨ret_bool (by rw [Hd.out]), bt (ba (Below.refl _ _)) hb1⟩
set_option maxRecDepth 100000 in
set_option maxHeartbeats 800000 in
theorem specHasFact_any (v : Value) (l : List FactD) (f : List Nat) (x : FactD) (vx : Value) (fx : List Nat) (w : World) (h : facts w v l f) (hx : ints w vx x.vals fx) :
    Calls Tryz.prog 61 #[v, .agg #[.int .i64 x.rel, vx]] w fun e w' => e = .returned (.bool (hasFactB l x)) ∧ Below w.heap.size w w' := by
  obtain ⟨a, cap, rfl⟩ := slR.form h
  obtain ⟨b, cap', rfl⟩ := slR.form hx
  have hla := slR.le_max h
  go_enter Tryz.func61, Tryz.ntmps61
  go_wp2
  go_loopw [5] (fun i wr => ∃ k : Nat, i = .int .i64 k ∧ k ≤ l.length ∧ Hid (∀ j (hj : j < l.length), j < k → decide (cmpFact l[j] x = 0) = false) ∧ Below (w.alloc (.cells #[.int .i64 x.rel, .slice b x.vals.length cap'] 79)).heap.size (w.alloc (.cells #[.int .i64 x.rel, .slice b x.vals.length cap'] 79)) wr) (fun i _ => l.length - (intOf i).toNat)
  case atStart => exact ⟨0, rfl, Nat.zero_le _, Lib.hid (fun j hj h0 => by omega), Below.refl _ _⟩
  case round =>
    obtain ⟨k, rfl, hk, HN, hbel⟩ := hrel
    by_cases hlt : k < l.length
    · obtain ⟨g, c, fi, rfl, ⟨vv, rfl, vi, hv⟩, _, hc, _, _, _⟩ := slR.at ((h.al (.cells #[.int .i64 x.rel, .slice b x.vals.length cap'] 79)).below' hbel) k hlt
      have hc0 : wr.cell? ⟨g, k * 2, none⟩ = _ := hc 0 _ rfl
      have hc1 : wr.cell? ⟨g, k * 2 + 1, none⟩ = _ := hc 1 _ rfl
      clear hc
      have hb0 : wr.cell? ⟨w.heap.size, 0, none⟩ = some (.int .i64 x.rel) := cell_below (cell_new _ _ _ 0 _ rfl) hbel
      have hb1 : wr.cell? ⟨w.heap.size, 1, none⟩ = some (.slice b x.vals.length cap') := cell_below (cell_new _ _ _ 1 _ rfl) hbel
      have hkl : (k : Int) < (l.length : Int) := by omega
      have hxr := (hx.al (.cells #[.int .i64 x.rel, .slice b x.vals.length cap'] 79)).below' hbel
      cases hp : decide (cmpFact l[k] x = 0) with
      | true =>
        have Hf := Lib.hid (show hasFactB l x = true from any_true_of (p := fun y => decide (cmpFact y x = 0)) hlt hp)
        have hq : (cmpFact l[k] x == 0) = true := hp
        clear hp
        go_wp2
        have Hla := Lib.hid hla; clear hla
        refine wp_region_still_tail 5 (by kernel_rfl) (by kernel_rfl) ?_
        change wpStill _ _ (World.drew _) _ _ _
        simp only [List.take_succ_cons, List.take_zero, List.drop_succ_cons, List.drop_zero]
        iterate 5 still_step
        refine wpStill_nil ?_
        have hla := Hla.out
        change wpList _ _ _ _ _ wr.drew
        go_wp2_with fail
        refine (specCompareFacts_any l[k] x _ _ _ _ _ (hv.below' (Below.drew (Below.refl _ _))) (hxr.below' (Below.drew (Below.refl _ _)))).mono ?_
        rintro e w1 ⟨rfl, hb2⟩
        go_wp2
        go_ret
        exact ⟨ret_bool (by rw [Hf.out]), bt (bdr (bt (ba (Below.refl _ _)) hbel)) hb2⟩
      | false =>
        have HN2 := Lib.hid (none_step (p := fun y => decide (cmpFact y x = 0)) HN.out hlt hp)
        have hq : (cmpFact l[k] x == 0) = false := hp
        clear hp
        go_wp2
        have Hla := Lib.hid hla; clear hla
        refine wp_region_still_tail 5 (by kernel_rfl) (by kernel_rfl) ?_
        change wpStill _ _ (World.drew _) _ _ _
        simp only [List.take_succ_cons, List.take_zero, List.drop_succ_cons, List.drop_zero]
        iterate 5 still_step
        refine wpStill_nil ?_
        have hla := Hla.out
        change wpList _ _ _ _ _ wr.drew
        go_wp2_with fail
        refine (specCompareFacts_any l[k] x _ _ _ _ _ (hv.below' (Below.drew (Below.refl _ _))) (hxr.below' (Below.drew (Below.refl _ _)))).mono ?_
        rintro e w1 ⟨rfl, hb2⟩
        have hb3 := bt (bdr hbel) hb2
        go_wp2
        go_roundw
        case rel => exact ⟨k + 1, by go_num, by omega, HN2, hb3⟩
        case measure => simp [intOf]; omega
    · have hkl : k = l.length := by omega
      have Hf := Lib.hid (show hasFactB l x = false from any_false_of (p := fun y => decide (cmpFact y x = 0)) (fun i hi => HN.out i hi (by omega)))
      go_wp2
      go_ret
      exact ⟨ret_bool (by rw [Hf.out]), bt (ba (Below.refl _ _)) hbel⟩
end Go.Proofs.YtpdmdfkcaabnaaaGreatDoor
