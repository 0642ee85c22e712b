/- greedy$1, greedyWhere$1$1, greedyWhere$1 of the program. No condition. -/
import Derived.Test.YtjjkfhjkfoikbaaGreatAsked
import Derived.Test.YtjjkfhjkfoikbaaGreatGreedL
import Derived.Test.YtjjkfhjkfoikbaaGreatOrdB
import Derived.Test.YtjjkfhjkfoikbaaGreatFirstS
import Derived.Test.YtjjkfhjkfoikbaaGreatIdxS
import Derived.Laws.ResultCell
import Derived.IntWalk
namespace Go.Proofs.YtjjkfhjkfoikbaaGreat
open Go.RowKit
set_option linter.unusedVariables false
set_option linter.unusedSimpArgs false
set_option maxRecDepth 100000 in
theorem greedy1_any (m : MethD) (a : AtomD) (vi vt : Value) (w : World) :
    Calls Tryz.prog 53 #[.agg #[.int .i64 m.rel, vi, .int .i64 m.limit, .int .i64 m.cost, .int .i64 m.quota], .agg #[.int .i64 a.rel, vt]] w fun e w' => e = .returned (.bool true) ∧ Below w.heap.size w w' := by
  go_enter Tryz.func53, Tryz.ntmps53
  go_wp2
  go_ret
  exact ⟨rfl, ba (ba (Below.refl _ _))⟩
set_option maxRecDepth 100000 in
set_option maxHeartbeats 1600000 in
theorem where11_any (m : MethD) (a : AtomD) (bound : List Int) (vi vt vb : Value) (fi ft fb : List Nat) (gA gB gI : Nat) (w : World) (hi : ints w vi m.inputs fi) (ht : ints w vt a.terms ft) (hb : ints w vb bound fb)
    (a0 : w.cell? ⟨gA, 0, none⟩ = some (.int .i64 a.rel)) (a1 : w.cell? ⟨gA, 1, none⟩ = some vt) (b0 : w.cell? ⟨gB, 0, none⟩ = some vb) (i0 : w.cell? ⟨gI, 0, none⟩ = some (.func (.func 53) #[] #[])) :
    Calls Tryz.prog 77 #[.agg #[.int .i64 m.rel, vi, .int .i64 m.limit, .int .i64 m.cost, .int .i64 m.quota], .pointer (some ⟨gA, 0, none⟩), .pointer (some ⟨gB, 0, none⟩), .pointer (some ⟨gI, 0, none⟩)] w fun e w' => e = .returned (.bool (canCallB m a bound)) ∧ Below w.heap.size w w' := by
  obtain ⟨p, cap, rfl⟩ := slR.form hi
  obtain ⟨p2, cap2, rfl⟩ := slR.form ht
  obtain ⟨p3, cap3, rfl⟩ := slR.form hb
  have hP := plain_of Tryz.func53 (by kernel_rfl) (by kernel_rfl)
  unfold Plain at hP
  have hb0 : Below w.heap.size w (w.alloc (.cells #[.int .i64 m.rel, .slice p m.inputs.length cap, .int .i64 m.limit, .int .i64 m.cost, .int .i64 m.quota] 59)) := ba (Below.refl _ _)
  have m0 : (w.alloc (.cells #[.int .i64 m.rel, .slice p m.inputs.length cap, .int .i64 m.limit, .int .i64 m.cost, .int .i64 m.quota] 59)).cell? ⟨w.heap.size, 0, none⟩ = some (.int .i64 m.rel) := cell_new w _ _ 0 _ rfl
  have m1 : (w.alloc (.cells #[.int .i64 m.rel, .slice p m.inputs.length cap, .int .i64 m.limit, .int .i64 m.cost, .int .i64 m.quota] 59)).cell? ⟨w.heap.size, 1, none⟩ = some (.slice p m.inputs.length cap) := cell_new w _ _ 1 _ rfl
  have m2 : (w.alloc (.cells #[.int .i64 m.rel, .slice p m.inputs.length cap, .int .i64 m.limit, .int .i64 m.cost, .int .i64 m.quota] 59)).cell? ⟨w.heap.size, 2, none⟩ = some (.int .i64 m.limit) := cell_new w _ _ 2 _ rfl
  have m3 : (w.alloc (.cells #[.int .i64 m.rel, .slice p m.inputs.length cap, .int .i64 m.limit, .int .i64 m.cost, .int .i64 m.quota] 59)).cell? ⟨w.heap.size, 3, none⟩ = some (.int .i64 m.cost) := cell_new w _ _ 3 _ rfl
  have m4 : (w.alloc (.cells #[.int .i64 m.rel, .slice p m.inputs.length cap, .int .i64 m.limit, .int .i64 m.cost, .int .i64 m.quota] 59)).cell? ⟨w.heap.size, 4, none⟩ = some (.int .i64 m.quota) := cell_new w _ _ 4 _ rfl
  have A0 := cell_below a0 hb0
  have A1 := cell_below a1 hb0
  have B0 := cell_below b0 hb0
  have I0 := cell_below i0 hb0
  have hi0 := hi.below' hb0
  have ht0 := ht.below' hb0
  have hbo0 := hb.below' hb0
  obtain ⟨w1, hw1⟩ : ∃ w1, w1 = (w.alloc (.cells #[.int .i64 m.rel, .slice p m.inputs.length cap, .int .i64 m.limit, .int .i64 m.cost, .int .i64 m.quota] 59)) := ⟨_, rfl⟩
  rw [← hw1] at hb0 A0 A1 B0 I0 hi0 ht0 hbo0 m0 m1 m2 m3 m4
  have HW1 := Lib.hid hw1
  clear a0 a1 b0 i0
  cases hc : canCallB m a bound with
  | false =>
    have HC := Lib.hid (retBB (implCanCall_any m a _ _ fi ft _ bound fb w1 hi0 ht0 hbo0) hc)
    clear hc
    rw [hw1] at A0 A1 B0 I0 m0 m1 m2 m3 m4
    clear hw1
    go_enter Tryz.func77, Tryz.ntmps77
    go_wp2_with (go_at_call 58; rw [← HW1.out]; refine HC.out.mono ?_; rintro e w2 ⟨rfl, hb2⟩)
    go_ret
    exact ⟨rfl, bt hb0 hb2⟩
  | true =>
    have HC := Lib.hid (retBB (implCanCall_any m a _ _ fi ft _ bound fb w1 hi0 ht0 hbo0) hc)
    clear hc
    have HA0 := Lib.hid A0
    have HA1 := Lib.hid A1
    have HI0 := Lib.hid I0
    have HM0 := Lib.hid m0
    have HM1 := Lib.hid m1
    have HM2 := Lib.hid m2
    have HM3 := Lib.hid m3
    have HM4 := Lib.hid m4
    rw [hw1] at A0 A1 B0 I0 m0 m1 m2 m3 m4
    clear hw1
    go_enter Tryz.func77, Tryz.ntmps77
    go_wp2_with (first
      | (go_at_call 58; rw [← HW1.out]; refine HC.out.mono ?_; rintro e w2 ⟨rfl, hb2⟩; have n0 := cell_below HM0.out hb2; have n1 := cell_below HM1.out hb2; have n2 := cell_below HM2.out hb2; have n3 := cell_below HM3.out hb2; have n4 := cell_below HM4.out hb2; have z0 := cell_below HA0.out hb2; have z1 := cell_below HA1.out hb2; have z2 := cell_below HI0.out hb2)
      | (refine (greedy1_any m a _ _ _).mono ?_; rintro e w3 ⟨rfl, hb3⟩; have hb23 := bt hb2 hb3))
    go_ret
    exact ⟨rfl, bt hb0 hb23⟩
def pickV : Option StepD → Value
  | none => .agg #[.int .i64 0, .int .i64 0]
  | some x => .agg #[.int .i64 x.atom, .int .i64 x.meth]
theorem run_load_step {P : Program} {w : World} {g ty : Nat} {a m : Value} {d : TypeDesc} (h0 : w.cell? ⟨g, 0, none⟩ = some a) (h1 : w.cell? ⟨g, 1, none⟩ = some m)
    (hu : P.underlying ty = some d) (hd : (match d with | .struct _ | .array _ _ => true | _ => false) = true) (hi : (P.info? ty).map (·.size) = some 2) :
    (loadVar ty ⟨g, 0, none⟩).run P w = .ok (.agg #[a, m]) w := by
  have hl : (loadCells ⟨g, 0, none⟩ 2).run P w = .ok #[a, m] w :=
    run_loadCells_list (P := P) w ⟨g, 0, none⟩ [a, m] (fun j v hv => by
      have hadd : (⟨g, 0, none⟩ : Addr).add j = ⟨g, j, none⟩ := by unfold Addr.add; split <;> simp_all
      rw [hadd]
      match j, hv with
      | 0, hv => simp at hv; rw [h0, hv]
      | 1, hv => simp at hv; rw [h1, hv])
  cases hq : P.info? ty with
  | none => simp [hq] at hi
  | some i =>
    have hs : i.size = 2 := by simpa [hq] using hi
    have hagg : (isAgg ty).run P w = .ok true w := by
      unfold isAgg
      rw [Sem.run_bind, run_underlying hu w]
      cases d <;> simp_all
    simp [loadVar, Sem.run_bind, hagg, sizeOf, typeInfo, hq, hs, hl]
theorem run_load_set {P : Program} {w : World} {g ty : Nat} {a m x0 x1 : Value} {d : TypeDesc} (h0 : w.cell? ⟨g, 0, none⟩ = some x0) (h1 : w.cell? ⟨g, 1, none⟩ = some x1)
    (hu : P.underlying ty = some d) (hd : (match d with | .struct _ | .array _ _ => true | _ => false) = true) (hi : (P.info? ty).map (·.size) = some 2) :
    (loadVar ty ⟨g, 0, none⟩).run P ((w.setCell ⟨g, 0, none⟩ a).setCell ⟨g, 1, none⟩ m) = .ok (.agg #[a, m]) ((w.setCell ⟨g, 0, none⟩ a).setCell ⟨g, 1, none⟩ m) := by
  refine run_load_step ?_ ?_ hu hd hi
  · rw [World.cell?_setCell_other _ _ _ _ (by simp)]
    exact World.cell?_setCell_same _ _ _ h0
  · obtain ⟨y, hy⟩ := cell?_setCell_some (p := ⟨g, 0, none⟩) (x := a) h1
    exact World.cell?_setCell_same _ _ _ hy
set_option maxRecDepth 100000 in
set_option maxHeartbeats 3200000 in
theorem where1_any (l : List MethD) (ats : List AtomD) (st : List StepD) (ds : List Bool) (vl va vb vd : Value) (fl fa fb : List Nat) (gd : Nat) (g0 g1 g2 g3 g4 : Nat) (w : World) (hl : meths w vl l fl) (ha : atoms w va ats fa) (hb : ints w vb (bnd ats st) fb)
    (hd : Row w 4 1 vd ats.length (bcells ds) (some gd)) (hds : ∀ a, a < ats.length → ds[a]? = some (memB (used st) (a : Int)))
    (a0 : w.cell? ⟨g0, 0, none⟩ = some va) (a1 : w.cell? ⟨g1, 0, none⟩ = some vl) (a2 : w.cell? ⟨g2, 0, none⟩ = some vb) (a3 : w.cell? ⟨g3, 0, none⟩ = some (.func (.func 53) #[] #[])) (a4 : w.cell? ⟨g4, 0, none⟩ = some vd) :
    Calls Tryz.prog 75 #[.pointer (some ⟨g0, 0, none⟩), .pointer (some ⟨g1, 0, none⟩), .pointer (some ⟨g2, 0, none⟩), .pointer (some ⟨g3, 0, none⟩), .pointer (some ⟨g4, 0, none⟩)] w fun e w' => e = .returned (.tuple #[pickV (pick l ats st), .bool (pick l ats st).isSome]) ∧ Below w.heap.size w w' := by
  obtain ⟨pl, cl, rfl⟩ := slR.form hl
  obtain ⟨pa, ca, rfl⟩ := slR.form ha
  obtain ⟨pb, cb, rfl⟩ := slR.form hb
  obtain ⟨pd, cd, rfl⟩ := hd.form
  have hla := slR.le_max ha
  have hll := slR.le_max hl
  have hP := plain_of Tryz.func77 (by kernel_rfl) (by kernel_rfl)
  have HDs := Lib.hid hds
  have HD := Lib.hid hd
  have hb0 : Below w.heap.size w (w.alloc (.cells #[.int .i64 0, .int .i64 0] 58)) := ba (Below.refl _ _)
  have x0 : (w.alloc (.cells #[.int .i64 0, .int .i64 0] 58)).cell? ⟨w.heap.size, 0, none⟩ = some (.int .i64 0) := cell_new w _ _ 0 _ rfl
  have x1 : (w.alloc (.cells #[.int .i64 0, .int .i64 0] 58)).cell? ⟨w.heap.size, 1, none⟩ = some (.int .i64 0) := cell_new w _ _ 1 _ rfl
  have y0 := cell_below a0 hb0
  obtain ⟨w1, hw1⟩ : ∃ w1, w1 = w.alloc (.cells #[.int .i64 0, .int .i64 0] 58) := ⟨_, rfl⟩
  have HW1 := Lib.hid hw1
  have hb0' := hb0
  have x0' := x0
  have x1' := x1
  rw [← hw1] at hb0' x0' x1'
  have hsz : w1.heap.size = w.heap.size + 1 := by rw [hw1]; simp only [World.alloc, Array.size_push]
  have hfz : ∀ j, w1.frozen? ⟨w.heap.size, j, none⟩ = false := fun j => by
    have h := heap_alloc_new w (.cells #[.int .i64 0, .int .i64 0] 58)
    rw [← hw1] at h
    simp [World.frozen?, h]
  have Hfz := Lib.hid (fun (w2 : World) (hb : Below w1.heap.size w1 w2) (j : Nat) => (hb.frozen (p := ⟨w.heap.size, j, none⟩) (by show w.heap.size < _; omega)).trans (hfz j))
  have Hsz := Lib.hid hsz
  clear hw1 hd hds hsz hfz
  go_enter Tryz.func75, Tryz.ntmps75
  go_wp2
  rw [← HW1.out]
  clear x0 x1 y0 hb0
  go_loopw [12] (fun i wr => ∃ k : Nat, i = .int .i64 k ∧ k ≤ ats.length ∧ Hid (∀ i, i < k → good l ats st i = false) ∧ Below w1.heap.size w1 wr) (fun i _ => ats.length - (intOf i).toNat)
  case atStart => exact ⟨0, rfl, Nat.zero_le _, Lib.hid (fun i h0 => by omega), Below.refl _ _⟩
  case round =>
    obtain ⟨k, rfl, hk, HN, hbel⟩ := hrel
    have hbw := bt hb0' hbel
    by_cases hlt : k < ats.length
    · have hkl : (k : Int) < (ats.length : Int) := by omega
      have hk0 : (0 : Int) ≤ (k : Int) := Int.natCast_nonneg _
      obtain ⟨ga, ccc, ft, hga, ⟨vt, rfl, ita, hvt⟩, _, hca, _, _, _⟩ := slR.at ha k hlt
      subst hga
      obtain ⟨pv, cv, rfl⟩ := slR.form hvt
      have A0 : w.cell? ⟨ga, k * 2, none⟩ = some (.int .i64 ats[k].rel) := hca 0 _ rfl
      have A1 : w.cell? ⟨ga, k * 2 + 1, none⟩ = some (.slice pv ats[k].terms.length cv) := hca 1 _ rfl
      have z0 := cell_below A0 hbw
      have z1 := cell_below A1 hbw
      have y1 := fun o => cell_al (cell_below a1 hbw) o
      clear hca
      obtain ⟨gd', hgd, hgd2, hdc, hdz⟩ := HD.out.at (by omega)
      cases hgd
      have hdq := hdc k _ (bcells_get (HDs.out k hlt))
      have y2 := fun o => cell_al (cell_below a2 hbw) o
      have y3 := fun o => cell_al (cell_below a3 hbw) o
      have y4 := fun o => cell_al (cell_below a4 hbw) o
      have yd := fun o => cell_al (cell_below hdq hbw) o
      have hba := fun (o : Obj) => (ba (o := o) hbw)
      clear hdc hdz hgd2 hdq
      obtain ⟨m, hm⟩ : ∃ m, m = firstM l ats[k] (bnd ats st) := ⟨_, rfl⟩
      have HM := Lib.hid (show m = firstM l (atomAt ats (k : Int)) (bnd ats st) by rw [hm, atomAt_nat hlt])
      have Hm := Lib.hid (show idxI (fun m => canCallB m ats[k] (bnd ats st)) l = m from hm.symm)
      clear hm
      cases hu : memB (used st) (k : Int) with
      | true =>
        have HG := Lib.hid (all_step HN.out (show good l ats st k = false by unfold good; rw [hu]; rfl))
        rw [hu] at yd
        go_wp2_with (go_at_call 76; refine (indexFuncMethod_any _ hP #[.pointer (some ⟨wr.heap.size, 0, none⟩), .pointer (some ⟨g2, 0, none⟩), .pointer (some ⟨g3, 0, none⟩)] (fun m vi => #[.agg #[.int .i64 m.rel, vi, .int .i64 m.limit, .int .i64 m.cost, .int .i64 m.quota], .pointer (some ⟨wr.heap.size, 0, none⟩), .pointer (some ⟨g2, 0, none⟩), .pointer (some ⟨g3, 0, none⟩)]) (fun _ _ => rfl) (fun m => canCallB m ats[k] (bnd ats st)) _ l fl _ (hl.below' (hba _)) (fun i hi w' vi fi hbq hvi => where11_any l[i] ats[k] (bnd ats st) vi _ _ fi ft fb _ _ _ w' hvi ((hvt.below' (hba _)).below' hbq) ((hb.below' (hba _)).below' hbq) (cell_below (cell_new _ _ _ 0 _ rfl) hbq) (cell_below (cell_new _ _ _ 1 _ rfl) hbq) (cell_below (y2 _) hbq) (cell_below (y3 _) hbq))).mono ?_; rintro e w2 ⟨rfl, hb2⟩; rw [Hm.out]; have hb12 := bt (ba hbel) hb2; have v4 := cell_below (y4 _) hb2; have vd := cell_below (yd _) hb2; have v0 := cell_below x0' hb12; have v1 := cell_below x1' hb12; have z0' := Hfz.out _ hb12 0; have z1' := Hfz.out _ hb12 1)
        go_roundw
        case rel => exact ⟨k + 1, by go_num, by omega, HG, hb12⟩
        case measure => simp [intOf]; omega
      | false =>
        rw [hu] at yd
        by_cases hm0 : 0 ≤ m
        · have HG := Lib.hid (show pick l ats st = some ⟨(k : Int), m⟩ by
            rw [HM.out]; exact pick_some hlt (show good l ats st k = true by unfold good; rw [hu, ← HM.out]; simp [hm0]) HN.out)
          go_wp2_with (go_at_call 76; refine (indexFuncMethod_any _ hP #[.pointer (some ⟨wr.heap.size, 0, none⟩), .pointer (some ⟨g2, 0, none⟩), .pointer (some ⟨g3, 0, none⟩)] (fun m vi => #[.agg #[.int .i64 m.rel, vi, .int .i64 m.limit, .int .i64 m.cost, .int .i64 m.quota], .pointer (some ⟨wr.heap.size, 0, none⟩), .pointer (some ⟨g2, 0, none⟩), .pointer (some ⟨g3, 0, none⟩)]) (fun _ _ => rfl) (fun m => canCallB m ats[k] (bnd ats st)) _ l fl _ (hl.below' (hba _)) (fun i hi w' vi fi hbq hvi => where11_any l[i] ats[k] (bnd ats st) vi _ _ fi ft fb _ _ _ w' hvi ((hvt.below' (hba _)).below' hbq) ((hb.below' (hba _)).below' hbq) (cell_below (cell_new _ _ _ 0 _ rfl) hbq) (cell_below (cell_new _ _ _ 1 _ rfl) hbq) (cell_below (y2 _) hbq) (cell_below (y3 _) hbq))).mono ?_; rintro e w2 ⟨rfl, hb2⟩; rw [Hm.out]; have hb12 := bt (ba hbel) hb2; have v4 := cell_below (y4 _) hb2; have vd := cell_below (yd _) hb2; have v0 := cell_below x0' hb12; have v1 := cell_below x1' hb12; have z0' := Hfz.out _ hb12 0; have z1' := Hfz.out _ hb12 1)
          (try simp only [Exit.inBlock, Exit.then])
          refine bodyPost_ret (v := .tuple #[.agg #[.int .i64 (k : Int), .int .i64 m], .bool true]) ?_ rfl ?_
          · rw [results_cell_tmp rfl]
            simp [asAddr, Result.andThen, run_load_set (P := Tryz.prog) (ty := 58) v0 v1 Tryz.underlying58 rfl (by kernel_rfl)]
          · rw [HG.out]
            exact ⟨rfl, bs (bs (bt hb0' hb12) (by simp)) (by simp)⟩
        · have HG := Lib.hid (all_step HN.out (show good l ats st k = false by unfold good; rw [← HM.out]; simp [hm0]))
          go_wp2_with (go_at_call 76; refine (indexFuncMethod_any _ hP #[.pointer (some ⟨wr.heap.size, 0, none⟩), .pointer (some ⟨g2, 0, none⟩), .pointer (some ⟨g3, 0, none⟩)] (fun m vi => #[.agg #[.int .i64 m.rel, vi, .int .i64 m.limit, .int .i64 m.cost, .int .i64 m.quota], .pointer (some ⟨wr.heap.size, 0, none⟩), .pointer (some ⟨g2, 0, none⟩), .pointer (some ⟨g3, 0, none⟩)]) (fun _ _ => rfl) (fun m => canCallB m ats[k] (bnd ats st)) _ l fl _ (hl.below' (hba _)) (fun i hi w' vi fi hbq hvi => where11_any l[i] ats[k] (bnd ats st) vi _ _ fi ft fb _ _ _ w' hvi ((hvt.below' (hba _)).below' hbq) ((hb.below' (hba _)).below' hbq) (cell_below (cell_new _ _ _ 0 _ rfl) hbq) (cell_below (cell_new _ _ _ 1 _ rfl) hbq) (cell_below (y2 _) hbq) (cell_below (y3 _) hbq))).mono ?_; rintro e w2 ⟨rfl, hb2⟩; rw [Hm.out]; have hb12 := bt (ba hbel) hb2; have v4 := cell_below (y4 _) hb2; have vd := cell_below (yd _) hb2; have v0 := cell_below x0' hb12; have v1 := cell_below x1' hb12; have z0' := Hfz.out _ hb12 0; have z1' := Hfz.out _ hb12 1)
          go_roundw
          case rel => exact ⟨k + 1, by go_num, by omega, HG, hb12⟩
          case measure => simp [intOf]; omega
    · have hkn : k = ats.length := by omega
      have HG := Lib.hid (show pick l ats st = none from pick_none (by rw [← hkn]; exact HN.out))
      have v0 := cell_below x0' hbel
      have v1 := cell_below x1' hbel
      have z0' := Hfz.out _ hbel 0
      have z1' := Hfz.out _ hbel 1
      clear hkn
      go_wp2
      (try simp only [Exit.inBlock, Exit.then])
      refine bodyPost_ret (v := .tuple #[.agg #[.int .i64 0, .int .i64 0], .bool false]) ?_ rfl ?_
      · rw [results_cell_tmp rfl]
        simp [asAddr, Result.andThen, run_load_set (P := Tryz.prog) (ty := 58) v0 v1 Tryz.underlying58 rfl (by kernel_rfl)]
      · rw [HG.out]
        exact ⟨rfl, bs (bs hbw (by simp)) (by simp)⟩
end Go.Proofs.YtjjkfhjkfoikbaaGreat
