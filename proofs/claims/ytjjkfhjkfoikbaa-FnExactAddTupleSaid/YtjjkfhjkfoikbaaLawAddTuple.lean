/- The walk of the law FnExactAddTuple: it returns true, whatever the input. -/
import Derived.Test.YtjjkfhjkfoikbaaAddI
import Derived.Test.YtjjkfhjkfoikbaaTuple
import Derived.Test.YtjjkfhjkfoikbaaAddB
import Derived.Test.YtjjkfhjkfoikbaaFacts0
namespace Go.Proofs.Ytjjkfhjkfoikbaa
open Go.RowKit
set_option linter.unusedVariables false
set_option linter.unusedSimpArgs false
set_option maxRecDepth 100000 in
set_option maxHeartbeats 8000000 in
theorem fnExactAddTuple_walk (v0 : Value) (l0 : List (List Int)) (v1 : Value) (l1 : List Int) (w : World) (g0 : intssV w v0 l0) (g1 : intsV w v1 l1)  :
    Calls Try.prog 4 #[v0, v1] w fun e w' => e = .returned (.bool true) ∧ Below w.heap.size w w' := by
  obtain ⟨p0, q0, rfl⟩ := slW.form g0
  obtain ⟨p1, q1, rfl⟩ := slW.form g1
  by_cases n1 : l1.length ≤ 1048576
  case neg =>
    go_enter Try.func4, Try.ntmps4
    go_wp2
    go_ret
    exact ⟨rfl, by (repeat (first | exact Below.refl _ _ | refine ba ?_ | refine bdr ?_ | refine bs ?_ (by simp)))⟩
  have rr : decide (addTupleL l0 l1 = addTupleL l0 l1) = true := by simp
  have rd0 : decide (l0 = l0) = true := by simp
  have rd1 : decide (l1 = l1) = true := by simp
  go_enter Try.func4, Try.ntmps4
  go_wp2_with fail
  refine (szIntSS_any _ l0 (1048576) _ (intssV.below' g0 ?_) ⟨by omega, by omega⟩).mono ?_
  · (repeat (first | exact Below.refl _ _ | refine ba ?_ | refine bdr ?_ | refine bs ?_ (by simp)))
  rintro e w1 ⟨rfl, hb1⟩
  have D1 : Below w.heap.size w w1 := bt (by (repeat (first | exact Below.refl _ _ | refine ba ?_ | refine bdr ?_ | refine bs ?_ (by simp)))) hb1
  have B1 : Below w.heap.size w w1 := D1
  rcases left_cases (bulkIntSS l0) (1048576) (by omega) with ⟨t0, t1⟩ | ⟨t0, t1⟩
  case inl =>
    have T1 := Lib.hid t1; clear t1
    go_wp2
    go_ret
    exact ⟨rfl, B1⟩
  have T1 := Lib.hid t1; clear t1
  obtain ⟨ql0, el01, el02⟩ := left_bd t0 (by omega) (by omega)
  clear t0
  have nl0 : l0.length ≤ 1048576 := by have h9 := ql0; unfold bulkIntSS at h9; omega
  have nl0i : ∀ y ∈ l0, y.length ≤ 1048576 := fun y hy => by have h9 := ql0; unfold bulkIntSS at h9; have h8 := sum_ge_mem (f := fun x : List Int => x.length) hy; omega
  have nC : (l0.map cntIntS).sum ≤ 1048576 := cntIntSS_bulk ql0
  have nR : ((addTupleL l0 l1).map cntIntS).sum ≤ 2097152 := cntIntSS_add ql0 n1
  go_wp2_with fail
  refine (toIntSS_any _ l0 _ (intssV.below' g0 ?_) nl0 nl0i).mono ?_
  · (repeat (first | exact B1 | refine ba ?_ | refine bdr ?_ | refine bs ?_ (by simp)))
  rintro e w2 ⟨d1v, d1f, rfl, d1h_2, d1fr, hb2⟩
  obtain ⟨d1a, d1c, rfl⟩ := slR.form d1h_2
  have D2 : Below w1.heap.size w1 w2 := bt (by (repeat (first | exact Below.refl _ _ | refine ba ?_ | refine bdr ?_ | refine bs ?_ (by simp)))) hb2
  have B2 : Below w.heap.size w w2 := bt B1 D2
  go_wp2_with fail
  refine (toIntS_any _ l1 _ (intsV.below' g1 ?_) n1).mono ?_
  · (repeat (first | exact B2 | refine ba ?_ | refine bdr ?_ | refine bs ?_ (by simp)))
  rintro e w3 ⟨d2v, d2f, rfl, d2h_3, d2fr, hb3⟩
  obtain ⟨d2a, d2c, rfl⟩ := slR.form d2h_3
  have D3 : Below w2.heap.size w2 w3 := bt (by (repeat (first | exact Below.refl _ _ | refine ba ?_ | refine bdr ?_ | refine bs ?_ (by simp)))) hb3
  have B3 : Below w.heap.size w w3 := bt B2 D3
  have d1h_3 := d1h_2.below' D3
  clear d1h_2
  go_wp2_with fail
  refine (specAddTuple_any _ l0 _ _ l1 _ _ (intss.below' d1h_3 ?_) (ints.below' d2h_3 ?_) nl0 n1 nl0i).mono ?_
  · (repeat (first | exact Below.refl _ _ | refine ba ?_ | refine bdr ?_ | refine bs ?_ (by simp)))
  · (repeat (first | exact Below.refl _ _ | refine ba ?_ | refine bdr ?_ | refine bs ?_ (by simp)))
  rintro e w4 ⟨d3v, d3f, rfl, d3h_4, hb4⟩
  obtain ⟨d3a, d3c, rfl⟩ := slR.form d3h_4
  have D4 : Below w3.heap.size w3 w4 := bt (by (repeat (first | exact Below.refl _ _ | refine ba ?_ | refine bdr ?_ | refine bs ?_ (by simp)))) hb4
  have B4 : Below w.heap.size w w4 := bt B3 D4
  clear d1h_3 d2h_3
  go_wp2_with fail
  refine (toIntSS_any _ l0 _ (intssV.below' g0 ?_) nl0 nl0i).mono ?_
  · (repeat (first | exact B4 | refine ba ?_ | refine bdr ?_ | refine bs ?_ (by simp)))
  rintro e w5 ⟨d4v, d4f, rfl, d4h_5, d4fr, hb5⟩
  obtain ⟨d4a, d4c, rfl⟩ := slR.form d4h_5
  have d4F : Fresh w4.heap.size (d4f) := d4fr.mono (Below.size (B := w4.heap.size) (by (repeat (first | exact Below.refl _ _ | refine ba ?_ | refine bdr ?_ | refine bs ?_ (by simp)))))
  have Xd3f_d4 : ∀ g ∈ d3f, g ∉ d4f := fun g hg => d4F.notin (d3h_4.lt g hg)
  have d4L : ∀ g ∈ d4f, w.heap.size ≤ g := fun g hg => Nat.le_trans (Below.size B4) (d4F.2 g hg)
  have D5 : Below w4.heap.size w4 w5 := bt (by (repeat (first | exact Below.refl _ _ | refine ba ?_ | refine bdr ?_ | refine bs ?_ (by simp)))) hb5
  have B5 : Below w.heap.size w w5 := bt B4 D5
  have d3h_5 := d3h_4.below' D5
  clear d3h_4
  go_wp2_with fail
  refine (toIntS_any _ l1 _ (intsV.below' g1 ?_) n1).mono ?_
  · (repeat (first | exact B5 | refine ba ?_ | refine bdr ?_ | refine bs ?_ (by simp)))
  rintro e w6 ⟨d5v, d5f, rfl, d5h_6, d5fr, hb6⟩
  obtain ⟨d5a, d5c, rfl⟩ := slR.form d5h_6
  have d5F : Fresh w5.heap.size (d5f) := d5fr.mono (Below.size (B := w5.heap.size) (by (repeat (first | exact Below.refl _ _ | refine ba ?_ | refine bdr ?_ | refine bs ?_ (by simp)))))
  have Xd3f_d5 : ∀ g ∈ d3f, g ∉ d5f := fun g hg => d5F.notin (d3h_5.lt g hg)
  have Xd4f_d5 : ∀ g ∈ d4f, g ∉ d5f := fun g hg => d5F.notin (d4h_5.lt g hg)
  have d5L : ∀ g ∈ d5f, w.heap.size ≤ g := fun g hg => Nat.le_trans (Below.size B5) (d5F.2 g hg)
  have D6 : Below w5.heap.size w5 w6 := bt (by (repeat (first | exact Below.refl _ _ | refine ba ?_ | refine bdr ?_ | refine bs ?_ (by simp)))) hb6
  have B6 : Below w.heap.size w w6 := bt B5 D6
  have d3h_6 := d3h_5.below' D6
  have d4h_6 := d4h_5.below' D6
  clear d3h_5 d4h_5
  go_wp2_with fail
  refine (implAddTuple_any _ l0 _ _ l1 _ _ (intss.below' d4h_6 ?_) (ints.below' d5h_6 ?_) nl0 nl0i n1).mono ?_
  · (repeat (first | exact Below.refl _ _ | refine ba ?_ | refine bdr ?_ | refine bs ?_ (by simp)))
  · (repeat (first | exact Below.refl _ _ | refine ba ?_ | refine bdr ?_ | refine bs ?_ (by simp)))
  rintro e w7 ⟨d6v, d6f, rfl, d6h_7, d6fr, hb7⟩
  obtain ⟨d6a, d6c, rfl⟩ := slR.form d6h_7
  have d6F : Fresh w6.heap.size (d6f) := d6fr.mono (Below.size (B := w6.heap.size) (by (repeat (first | exact Below.refl _ _ | refine ba ?_ | refine bdr ?_ | refine bs ?_ (by simp)))))
  have Xd3f_d6 : ∀ g ∈ d3f, g ∉ d6f := fun g hg => d6F.notin (d3h_6.lt g hg)
  have Xd4f_d6 : ∀ g ∈ d4f, g ∉ d6f := fun g hg => d6F.notin (d4h_6.lt g hg)
  have Xd5f_d6 : ∀ g ∈ d5f, g ∉ d6f := fun g hg => d6F.notin (d5h_6.lt g hg)
  have d6L : ∀ g ∈ d6f, w.heap.size ≤ g := fun g hg => Nat.le_trans (Below.size B6) (d6F.2 g hg)
  have D7 : Below w6.heap.size w6 w7 := bt (by (repeat (first | exact Below.refl _ _ | refine ba ?_ | refine bdr ?_ | refine bs ?_ (by simp)))) hb7
  have B7 : Below w.heap.size w w7 := bt B6 D7
  have d3h_7 := d3h_6.below' D7
  have d4h_7 := d4h_6.below' D7
  have d5h_7 := d5h_6.below' D7
  clear d3h_6 d4h_6 d5h_6
  go_wp2_with fail
  refine (eqIntSS_any _ _ (addTupleL l0 l1) (addTupleL l0 l1) _ _ _ (intss.below' d6h_7 ?_) (intss.below' d3h_7 ?_)).mono ?_
  · (repeat (first | exact Below.refl _ _ | refine ba ?_ | refine bdr ?_ | refine bs ?_ (by simp)))
  · (repeat (first | exact Below.refl _ _ | refine ba ?_ | refine bdr ?_ | refine bs ?_ (by simp)))
  rintro e w8 ⟨rfl, hb8⟩
  have D8 : Below w7.heap.size w7 w8 := bt (by (repeat (first | exact Below.refl _ _ | refine ba ?_ | refine bdr ?_ | refine bs ?_ (by simp)))) hb8
  have B8 : Below w.heap.size w w8 := bt B7 D8
  have d3h_8 := d3h_7.below' D8
  have d4h_8 := d4h_7.below' D8
  have d5h_8 := d5h_7.below' D8
  have d6h_8 := d6h_7.below' D8
  clear d3h_7 d4h_7 d5h_7 d6h_7
  go_wp2_with fail
  refine (toIntSS_any _ l0 _ (intssV.below' g0 ?_) nl0 nl0i).mono ?_
  · (repeat (first | exact B8 | refine ba ?_ | refine bdr ?_ | refine bs ?_ (by simp)))
  rintro e w9 ⟨d7v, d7f, rfl, d7h_9, d7fr, hb9⟩
  obtain ⟨d7a, d7c, rfl⟩ := slR.form d7h_9
  have d7F : Fresh w8.heap.size (d7f) := d7fr.mono (Below.size (B := w8.heap.size) (by (repeat (first | exact Below.refl _ _ | refine ba ?_ | refine bdr ?_ | refine bs ?_ (by simp)))))
  have Xd4f_d7 : ∀ g ∈ d4f, g ∉ d7f := fun g hg => d7F.notin (d4h_8.lt g hg)
  have Xd5f_d7 : ∀ g ∈ d5f, g ∉ d7f := fun g hg => d7F.notin (d5h_8.lt g hg)
  have Xd6f_d7 : ∀ g ∈ d6f, g ∉ d7f := fun g hg => d7F.notin (d6h_8.lt g hg)
  have D9 : Below w8.heap.size w8 w9 := bt (by (repeat (first | exact Below.refl _ _ | refine ba ?_ | refine bdr ?_ | refine bs ?_ (by simp)))) hb9
  have B9 : Below w.heap.size w w9 := bt B8 D9
  have d3h_9 := d3h_8.below' D9
  have d4h_9 := d4h_8.below' D9
  have d5h_9 := d5h_8.below' D9
  have d6h_9 := d6h_8.below' D9
  clear d3h_8 d4h_8 d5h_8 d6h_8
  go_wp2_with fail
  refine (eqIntSS_any _ _ l0 l0 _ _ _ (intss.below' d4h_9 ?_) (intss.below' d7h_9 ?_)).mono ?_
  · (repeat (first | exact Below.refl _ _ | refine ba ?_ | refine bdr ?_ | refine bs ?_ (by simp)))
  · (repeat (first | exact Below.refl _ _ | refine ba ?_ | refine bdr ?_ | refine bs ?_ (by simp)))
  rintro e w10 ⟨rfl, hb10⟩
  have D10 : Below w9.heap.size w9 w10 := bt (by (repeat (first | exact Below.refl _ _ | refine ba ?_ | refine bdr ?_ | refine bs ?_ (by simp)))) hb10
  have B10 : Below w.heap.size w w10 := bt B9 D10
  have d3h_10 := d3h_9.below' D10
  have d4h_10 := d4h_9.below' D10
  have d5h_10 := d5h_9.below' D10
  have d6h_10 := d6h_9.below' D10
  clear d3h_9 d4h_9 d5h_9 d6h_9 d7h_9
  go_wp2_with fail
  refine (toIntS_any _ l1 _ (intsV.below' g1 ?_) n1).mono ?_
  · (repeat (first | exact B10 | refine ba ?_ | refine bdr ?_ | refine bs ?_ (by simp)))
  rintro e w11 ⟨d8v, d8f, rfl, d8h_11, d8fr, hb11⟩
  obtain ⟨d8a, d8c, rfl⟩ := slR.form d8h_11
  have d8F : Fresh w10.heap.size (d8f) := d8fr.mono (Below.size (B := w10.heap.size) (by (repeat (first | exact Below.refl _ _ | refine ba ?_ | refine bdr ?_ | refine bs ?_ (by simp)))))
  have Xd4f_d8 : ∀ g ∈ d4f, g ∉ d8f := fun g hg => d8F.notin (d4h_10.lt g hg)
  have Xd5f_d8 : ∀ g ∈ d5f, g ∉ d8f := fun g hg => d8F.notin (d5h_10.lt g hg)
  have Xd6f_d8 : ∀ g ∈ d6f, g ∉ d8f := fun g hg => d8F.notin (d6h_10.lt g hg)
  have D11 : Below w10.heap.size w10 w11 := bt (by (repeat (first | exact Below.refl _ _ | refine ba ?_ | refine bdr ?_ | refine bs ?_ (by simp)))) hb11
  have B11 : Below w.heap.size w w11 := bt B10 D11
  have d3h_11 := d3h_10.below' D11
  have d4h_11 := d4h_10.below' D11
  have d5h_11 := d5h_10.below' D11
  have d6h_11 := d6h_10.below' D11
  clear d3h_10 d4h_10 d5h_10 d6h_10
  go_wp2_with fail
  refine (eqIntS_any _ _ l1 l1 _ _ _ (ints.below' d5h_11 ?_) (ints.below' d8h_11 ?_)).mono ?_
  · (repeat (first | exact Below.refl _ _ | refine ba ?_ | refine bdr ?_ | refine bs ?_ (by simp)))
  · (repeat (first | exact Below.refl _ _ | refine ba ?_ | refine bdr ?_ | refine bs ?_ (by simp)))
  rintro e w12 ⟨rfl, hb12⟩
  have D12 : Below w11.heap.size w11 w12 := bt (by (repeat (first | exact Below.refl _ _ | refine ba ?_ | refine bdr ?_ | refine bs ?_ (by simp)))) hb12
  have B12 : Below w.heap.size w w12 := bt B11 D12
  have d3h_12 := d3h_11.below' D12
  have d4h_12 := d4h_11.below' D12
  have d5h_12 := d5h_11.below' D12
  have d6h_12 := d6h_11.below' D12
  clear d3h_11 d4h_11 d5h_11 d6h_11 d8h_11
  go_wp2_with fail
  refine (markIntSS_any _ l0 d4f (1) _ (intss.below' d4h_12 ?_) d4F.1 (by omega) (by omega)).mono ?_
  · (repeat (first | exact Below.refl _ _ | refine ba ?_ | refine bdr ?_ | refine bs ?_ (by simp)))
  rintro e w13 ⟨rfl, d4hm, hw13⟩
  have B13 : Below w.heap.size w w13 := bw B12 hw13 d4L
  have d3h_13 := intss.frame d3h_12 fun g hg => hw13.block g (d3h_12.lt g hg) (Xd3f_d4 g hg)
  have d5h_13 := ints.frame d5h_12 fun g hg => hw13.block g (d5h_12.lt g hg) ((fun hgx => Xd4f_d5 g hgx (by simp [hg])))
  have d6h_13 := intss.frame d6h_12 fun g hg => hw13.block g (d6h_12.lt g hg) ((fun hgx => Xd4f_d6 g hgx (by simp [hg])))
  clear d3h_12 d4h_12 d5h_12 d6h_12
  go_wp2_with fail
  refine (markIntS_any _ l1 d5f (1 + ((l0.map cntIntS).sum : Nat)) _ (ints.below' d5h_13 ?_) ⟨by omega, by omega⟩ (by omega)).mono ?_
  · (repeat (first | exact Below.refl _ _ | refine ba ?_ | refine bdr ?_ | refine bs ?_ (by simp)))
  rintro e w14 ⟨rfl, d5hm, hw14⟩
  have B14 : Below w.heap.size w w14 := bw B13 hw14 d5L
  have d3h_14 := intss.frame d3h_13 fun g hg => hw14.block g (d3h_13.lt g hg) (Xd3f_d5 g hg)
  have d6h_14 := intss.frame d6h_13 fun g hg => hw14.block g (d6h_13.lt g hg) ((fun hgx => Xd5f_d6 g hgx (by simp [hg])))
  clear d3h_13 d5h_13 d6h_13
  go_wp2_with fail
  refine (eqIntSS_any _ _ (addTupleL l0 l1) (addTupleL l0 l1) _ _ _ (intss.below' d6h_14 ?_) (intss.below' d3h_14 ?_)).mono ?_
  · (repeat (first | exact Below.refl _ _ | refine ba ?_ | refine bdr ?_ | refine bs ?_ (by simp)))
  · (repeat (first | exact Below.refl _ _ | refine ba ?_ | refine bdr ?_ | refine bs ?_ (by simp)))
  rintro e w15 ⟨rfl, hb15⟩
  have D15 : Below w14.heap.size w14 w15 := bt (by (repeat (first | exact Below.refl _ _ | refine ba ?_ | refine bdr ?_ | refine bs ?_ (by simp)))) hb15
  have B15 : Below w.heap.size w w15 := bt B14 D15
  have d3h_15 := d3h_14.below' D15
  have d6h_15 := d6h_14.below' D15
  clear d3h_14 d6h_14
  go_wp2_with fail
  refine (markIntSS_any _ (addTupleL l0 l1) d6f (1) _ (intss.below' d6h_15 ?_) d6F.1 (by omega) (by omega)).mono ?_
  · (repeat (first | exact Below.refl _ _ | refine ba ?_ | refine bdr ?_ | refine bs ?_ (by simp)))
  rintro e w16 ⟨rfl, d6hm, hw16⟩
  have B16 : Below w.heap.size w w16 := bw B15 hw16 d6L
  have d3h_16 := intss.frame d3h_15 fun g hg => hw16.block g (d3h_15.lt g hg) (Xd3f_d6 g hg)
  have d6h_16 := d6hm
  clear d3h_15 d6h_15
  go_wp2_with fail
  refine (heldIntSS_any _ (addTupleL l0 l1) _ (1) _ (intss.below' d6h_16 ?_) (by omega) (by omega)).mono ?_
  · (repeat (first | exact Below.refl _ _ | refine ba ?_ | refine bdr ?_ | refine bs ?_ (by simp)))
  rintro e w17 ⟨rfl, hb17⟩
  have D17 : Below w16.heap.size w16 w17 := bt (by (repeat (first | exact Below.refl _ _ | refine ba ?_ | refine bdr ?_ | refine bs ?_ (by simp)))) hb17
  have B17 : Below w.heap.size w w17 := bt B16 D17
  have d3h_17 := d3h_16.below' D17
  have d6h_17 := d6h_16.below' D17
  clear d3h_16 d6h_16
  go_wp2_with fail
  refine (toIntSS_any _ l0 _ (intssV.below' g0 ?_) nl0 nl0i).mono ?_
  · (repeat (first | exact B17 | refine ba ?_ | refine bdr ?_ | refine bs ?_ (by simp)))
  rintro e w18 ⟨d9v, d9f, rfl, d9h_18, d9fr, hb18⟩
  obtain ⟨d9a, d9c, rfl⟩ := slR.form d9h_18
  have D18 : Below w17.heap.size w17 w18 := bt (by (repeat (first | exact Below.refl _ _ | refine ba ?_ | refine bdr ?_ | refine bs ?_ (by simp)))) hb18
  have B18 : Below w.heap.size w w18 := bt B17 D18
  have d3h_18 := d3h_17.below' D18
  have d6h_18 := d6h_17.below' D18
  clear d3h_17 d6h_17
  go_wp2_with fail
  refine (toIntS_any _ l1 _ (intsV.below' g1 ?_) n1).mono ?_
  · (repeat (first | exact B18 | refine ba ?_ | refine bdr ?_ | refine bs ?_ (by simp)))
  rintro e w19 ⟨d10v, d10f, rfl, d10h_19, d10fr, hb19⟩
  obtain ⟨d10a, d10c, rfl⟩ := slR.form d10h_19
  have D19 : Below w18.heap.size w18 w19 := bt (by (repeat (first | exact Below.refl _ _ | refine ba ?_ | refine bdr ?_ | refine bs ?_ (by simp)))) hb19
  have B19 : Below w.heap.size w w19 := bt B18 D19
  have d3h_19 := d3h_18.below' D19
  have d6h_19 := d6h_18.below' D19
  have d9h_19 := d9h_18.below' D19
  clear d3h_18 d6h_18 d9h_18
  go_wp2_with fail
  refine (implAddTuple_any _ l0 _ _ l1 _ _ (intss.below' d9h_19 ?_) (ints.below' d10h_19 ?_) nl0 nl0i n1).mono ?_
  · (repeat (first | exact Below.refl _ _ | refine ba ?_ | refine bdr ?_ | refine bs ?_ (by simp)))
  · (repeat (first | exact Below.refl _ _ | refine ba ?_ | refine bdr ?_ | refine bs ?_ (by simp)))
  rintro e w20 ⟨d11v, d11f, rfl, d11h_20, d11fr, hb20⟩
  obtain ⟨d11a, d11c, rfl⟩ := slR.form d11h_20
  have D20 : Below w19.heap.size w19 w20 := bt (by (repeat (first | exact Below.refl _ _ | refine ba ?_ | refine bdr ?_ | refine bs ?_ (by simp)))) hb20
  have B20 : Below w.heap.size w w20 := bt B19 D20
  have d3h_20 := d3h_19.below' D20
  have d6h_20 := d6h_19.below' D20
  clear d3h_19 d6h_19 d9h_19 d10h_19
  go_wp2_with fail
  refine (eqIntSS_any _ _ (addTupleL l0 l1) (addTupleL l0 l1) _ _ _ (intss.below' d11h_20 ?_) (intss.below' d3h_20 ?_)).mono ?_
  · (repeat (first | exact Below.refl _ _ | refine ba ?_ | refine bdr ?_ | refine bs ?_ (by simp)))
  · (repeat (first | exact Below.refl _ _ | refine ba ?_ | refine bdr ?_ | refine bs ?_ (by simp)))
  rintro e w21 ⟨rfl, hb21⟩
  have D21 : Below w20.heap.size w20 w21 := bt (by (repeat (first | exact Below.refl _ _ | refine ba ?_ | refine bdr ?_ | refine bs ?_ (by simp)))) hb21
  have B21 : Below w.heap.size w w21 := bt B20 D21
  have d6h_21 := d6h_20.below' D21
  clear d3h_20 d6h_20 d11h_20
  go_wp2_with fail
  refine (heldIntSS_any _ (addTupleL l0 l1) _ (1) _ (intss.below' d6h_21 ?_) (by omega) (by omega)).mono ?_
  · (repeat (first | exact Below.refl _ _ | refine ba ?_ | refine bdr ?_ | refine bs ?_ (by simp)))
  rintro e w22 ⟨rfl, hb22⟩
  have D22 : Below w21.heap.size w21 w22 := bt (by (repeat (first | exact Below.refl _ _ | refine ba ?_ | refine bdr ?_ | refine bs ?_ (by simp)))) hb22
  have B22 : Below w.heap.size w w22 := bt B21 D22
  clear d6h_21
  go_wp2
  go_ret
  exact ⟨rfl, B22⟩
end Go.Proofs.Ytjjkfhjkfoikbaa
