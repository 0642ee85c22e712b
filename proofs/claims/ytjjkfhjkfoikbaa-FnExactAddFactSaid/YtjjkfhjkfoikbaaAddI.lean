/- AddTuple and AddFact of the program, and what they call. Condition: sizes up to 2^20. -/
import Derived.Test.YtjjkfhjkfoikbaaIns
import Derived.Test.YtjjkfhjkfoikbaaCopyF
import Derived.Test.YtjjkfhjkfoikbaaHas
import Derived.Test.YtjjkfhjkfoikbaaOrder
import Derived.Test.YtjjkfhjkfoikbaaCompare
import Derived.Test.YtjjkfhjkfoikbaaIdxS
import Derived.Test.YtjjkfhjkfoikbaaTuple
import Derived.Deep.RegionHeld3
namespace Go.Proofs.Ytjjkfhjkfoikbaa
open Go.RowKit
set_option linter.unusedVariables false
set_option linter.unusedSimpArgs false
theorem idxI_cases {α : Type} (p : α → Bool) (l : List α) : (idxI p l = -1 ∧ insAt p l = l.length) ∨ ∃ q : Nat, idxI p l = (q : Int) ∧ insAt p l = q ∧ q ≤ l.length := by
  unfold insAt idxI
  cases h : l.findIdx? p with
  | none => left; exact ⟨rfl, rfl⟩
  | some i =>
    right
    rw [List.findIdx?_eq_some_iff_getElem] at h
    obtain ⟨hi, _⟩ := h
    exact ⟨i, rfl, by simp; omega, by omega⟩
theorem addC_has {α : Type} {c : α → α → Int} {l : List α} {x : α} (h : (l.any fun y => decide (c y x = 0)) = true) : addC c l x = l := by unfold addC; rw [h]; rfl
theorem addC_ins {α : Type} {c : α → α → Int} {l : List α} {x : α} (h : (l.any fun y => decide (c y x = 0)) = false) : addC c l x = l.take (insAt (fun y => decide (0 < c y x)) l) ++ x :: l.drop (insAt (fun y => decide (0 < c y x)) l) := by
  unfold addC; rw [h]; exact insF_at _ _ _
theorem any_tuple (l : List (List Int)) (x : List Int) : (l.any fun y => decide (cmpL y x = 0)) = l.any fun y => decide (y = x) := by
  congr 1; funext y; rw [Bool.eq_iff_iff]; simp [cmpL_zero]
set_option maxRecDepth 100000 in
set_option maxHeartbeats 1600000 in
theorem copyTuples_any (v : Value) (l : List (List Int)) (f : List Nat) (w : World) (h : intss w v l f) (hn : l.length ≤ 1048576) (hln : ∀ y ∈ l, y.length ≤ 1048576) :
    Calls Try.prog 85 #[v] w fun e w' => ∃ v' f', e = .returned v' ∧ grR 22 1 intsR w.heap.size w' v' l f' ∧ Below w.heap.size w w' := by
  obtain ⟨b, cap, rfl⟩ := slR.form h
  have hla := slR.le_max h
  have Hln := Lib.hid hln
  clear hln
  go_enter Try.func85, Try.ntmps85
  go_wp2
  go_loopw [3, 9] (fun u i wr => ∃ (k : Nat) (lo : List (List Int)) (fo : List Nat), i = .int .i64 k ∧ k ≤ l.length ∧ Hid (lo = l.take k) ∧ grR 22 1 intsR w.heap.size wr u lo fo ∧ Below w.heap.size w wr) (fun _ i _ => l.length - (intOf i).toNat)
  case atStart => exact ⟨0, [], _, rfl, Nat.zero_le _, Lib.hid rfl, grR.lit intsR (Nat.le_refl _) (Nat.le_refl _), ba (Below.refl _ _)⟩
  case round =>
    obtain ⟨k, lo, fo, rfl, hk, Hlo, hgr, hbel⟩ := hrel
    obtain ⟨ao, co, rfl⟩ := slR.form hgr.sl
    have hll : lo.length ≤ 1048576 := by
      have h0 := congrArg List.length Hlo.out
      rw [List.length_take] at h0
      omega
    by_cases hlt : k < l.length
    · obtain ⟨g, c, fk, hg, ⟨vy, rfl, hy⟩, _, hc, _, _, _⟩ := slR.at h k hlt
      obtain ⟨a', c', rfl⟩ := slR.form hy
      have hc0 : wr.cell? ⟨g, k, none⟩ = some (.slice a' l[k].length c') := cell_below (by have := hc 0 _ rfl; simpa using this) hbel
      have hkl : (k : Int) < (l.length : Int) := by omega
      have hk0 : (0 : Int) ≤ (k : Int) := Int.natCast_nonneg _
      clear hc
      subst hg
      have Hyn := Hln.out l[k] (List.getElem_mem hlt)
      have HS := Lib.hid (show lo ++ [l[k]] = l.take (k + 1) by rw [List.take_succ_eq_append_getElem hlt, Hlo.out])
      have hy1 := hy.below' hbel
      go_wp2_with fail
      refine (clone_any _ l[k] fk _ hy1 Hyn).mono ?_
      rintro e w1 ⟨v1, f1, rfl, hu1, hfr1, hb2⟩
      have hgr1 := hgr.below' good_ints hb2
      have hbw := bt hbel hb2
      have hdis : ∀ g ∈ f1, g ∉ fo := fun g hg hm => by
        have h1 := hfr1.2 g hg
        have h2 := grR.lt good_ints hgr g hm
        omega
      have hfr3 := hfr1.mono hbel.size
      obtain ⟨p1, q1, rfl⟩ := slR.form hu1
      clear hb2 hfr1
      go_wp2_with (at_builtin; refine wpList_gr slIntSS good_ints rfl _ _ rfl hgr1 hbw rfl #[.slice p1 l[k].length q1] l[k] f1 ⟨_, rfl, hu1⟩ rfl hfr3 hdis rfl (by simp [Value.oneCell']) (by omega) (by unfold maxLen; omega) ?_; intro g3 cap3 w2 f2 hgr3 hb4 hg3)
      go_roundw
      case rel => exact ⟨k + 1, lo ++ [l[k]], f2, by go_num, by omega, HS, by simpa using hgr3, hb4⟩
      case measure => simp [intOf]; omega
    · have hkl : k = l.length := by omega
      have HS := Lib.hid (show lo = l by rw [Hlo.out, hkl, List.take_length])
      clear hkl
      go_wp2
      go_ret
      exact ⟨_, _, rfl, by rw [← HS.out]; exact hgr, hbel⟩
set_option maxHeartbeats 800000 in
theorem hasTuple1_any (x y : List Int) (vx vy : Value) (fx fy : List Nat) (g : Nat) (w : World) (hx : ints w vx x fx) (hy : ints w vy y fy) (c0 : w.cell? ⟨g, 0, none⟩ = some vy) :
    Calls Try.prog 150 #[vx, .pointer (some ⟨g, 0, none⟩)] w fun e w' => e = .returned (.bool (decide (x = y))) ∧ Below w.heap.size w w' := by
  obtain ⟨a, cap, rfl⟩ := slR.form hx
  obtain ⟨b, cap', rfl⟩ := slR.form hy
  generalize hd : decide (x = y) = r
  have Hd := Lib.hid hd
  clear hd
  go_enter Try.func150, Try.ntmps150
  go_wp2_with fail
  refine (slicesEqual_any _ _ x y fx fy _ hx hy).mono ?_
  rintro e w1 ⟨rfl, hq⟩
  rw [Hd.out]
  have hb1 := hq.below
  clear hq
  go_wp2
  go_ret
  exact ⟨rfl, hb1⟩
set_option maxRecDepth 100000 in
set_option maxHeartbeats 800000 in
theorem hasTuple_any (v : Value) (l : List (List Int)) (f : List Nat) (vx : Value) (x : List Int) (fx : List Nat) (w : World) (h : intss w v l f) (hx : ints w vx x fx) :
    Calls Try.prog 122 #[v, vx] w fun e w' => e = .returned (.bool (l.any fun y => decide (y = x))) ∧ Below w.heap.size w w' := by
  obtain ⟨a, cap, rfl⟩ := slR.form h
  obtain ⟨b, cap', rfl⟩ := slR.form hx
  have hP := plain_of Try.func150 (by kernel_rfl) (by kernel_rfl)
  generalize hd : (l.any fun y => decide (y = x)) = r
  have Hd := Lib.hid hd
  clear hd
  go_enter Try.func122, Try.ntmps122
  go_wp2_with fail
  refine (containsFuncInts_any _ hP #[.pointer (some ⟨w.heap.size, 0, none⟩)] (fun y vy => #[vy, .pointer (some ⟨w.heap.size, 0, none⟩)]) (fun _ _ => rfl) (fun y => decide (y = x)) _ l f _ (h.al _)
    (fun i hi w' vy fy hb hy => hasTuple1_any _ _ _ _ _ _ _ _ hy ((hx.al _).below' hb) (cell_below (cell_new _ _ _ 0 _ rfl) hb))).mono ?_
  rintro e w1 ⟨rfl, hb1⟩
  rw [Hd.out]
  go_wp2
  go_ret
  exact ⟨rfl, bt (ba (Below.refl _ _)) hb1⟩
set_option maxHeartbeats 800000 in
theorem addedTuple1_any (x y : List Int) (vx vy : Value) (fx fy : List Nat) (g : Nat) (w : World) (hx : ints w vx x fx) (hy : ints w vy y fy) (c0 : w.cell? ⟨g, 0, none⟩ = some vy) :
    Calls Try.prog 124 #[vx, .pointer (some ⟨g, 0, none⟩)] w fun e w' => e = .returned (.bool (decide (0 < cmpL x y))) ∧ Below w.heap.size w w' := by
  obtain ⟨a, cap, rfl⟩ := slR.form hx
  obtain ⟨b, cap', rfl⟩ := slR.form hy
  generalize hd : cmpL x y = r
  have Hd := Lib.hid hd
  clear hd
  go_enter Try.func124, Try.ntmps124
  go_wp2_with fail
  refine (slicesCompare_any _ _ x y fx fy _ hx hy).mono ?_
  rintro e w1 ⟨rfl, rfl⟩
  rw [Hd.out]
  go_wp2
  go_ret
  exact ⟨rfl, Below.refl _ _⟩
set_option maxRecDepth 100000 in
set_option maxHeartbeats 3200000 in
theorem addedTuple_any (B : Nat) (v : Value) (l : List (List Int)) (f : List Nat) (vx : Value) (x : List Int) (fx : List Nat) (w : World) (h : grR 22 1 intsR B w v l f) (hx : ints w vx x fx) (hB : B ≤ w.heap.size) (hn : l.length ≤ 1048576) (hxn : x.length ≤ 1048576) :
    Calls Try.prog 84 #[v, vx] w fun e w' => ∃ v' f', e = .returned v' ∧ grR 22 1 intsR B w' v' (addTupleL l x) f' ∧ Below B w w' := by
  obtain ⟨a, cap, rfl⟩ := slR.form h.sl
  obtain ⟨b, cap', rfl⟩ := slR.form hx
  have hP := plain_of Try.func124 (by kernel_rfl) (by kernel_rfl)
  have hb0 : Below w.heap.size w (w.alloc (.cells #[.slice b x.length cap'] 22)) := ba (Below.refl _ _)
  have hx1 := hx.al (.cells #[.slice b x.length cap'] 22)
  have h1 := h.below' good_ints hb0
  cases ha : (l.any fun y => decide (y = x)) with
  | true =>
    have Hf := Lib.hid (show addTupleL l x = l from addC_has ((any_tuple l x).trans ha))
    have Ha := Lib.hid ha
    clear ha
    go_enter Try.func84, Try.ntmps84
    go_wp2_with (go_at_call 122; refine (hasTuple_any _ l f _ x fx _ h1.sl hx1).mono ?_; rintro e w2 ⟨rfl, hb2⟩; rw [Ha.out])
    have hfin := h1.below' good_ints hb2
    have hbf := (bt hb0 hb2).mono hB
    go_ret
    exact ⟨_, _, rfl, by rw [Hf.out]; exact hfin, hbf⟩
  | false =>
    have Hf := Lib.hid (show addTupleL l x = _ from addC_ins ((any_tuple l x).trans ha))
    have Ha := Lib.hid ha
    clear ha
    have hc0 : (w.alloc (.cells #[.slice b x.length cap'] 22)).cell? ⟨w.heap.size, 0, none⟩ = some (.slice b x.length cap') := cell_new w _ _ 0 _ rfl
    have hins : ∀ (q : Nat), q ≤ l.length → insAt (fun y => decide (0 < cmpL y x)) l = q → ∀ W : World, Below w.heap.size w W → ∀ (v4 : Value) (f4 : List Nat), ints W v4 x f4 → Fresh w.heap.size f4 →
        Calls Try.prog 126 #[.slice a l.length cap, .int .i64 q, .slice (some ⟨W.heap.size, 0, none⟩) 1 1] (W.alloc (.cells #[v4] 22)) fun e w' => ∃ v' f', e = .returned v' ∧ grR 22 1 intsR B w' v' (addTupleL l x) f' ∧ Below B w w' := by
      intro q hq hqi W hbW v4 f4 hv4 hf4
      obtain ⟨a4, c4, rfl⟩ := slR.form hv4
      have hgW := h.below' good_ints (ba (o := .cells #[.slice a4 x.length c4] 22) hbW)
      have hlt := h.lt good_ints
      refine (insertInts_any B _ l f x [.slice a4 x.length c4] f4 W.heap.size q _ hgW ⟨_, rfl, hv4.al _⟩ rfl (hf4.mono hB) (fun g hg hm => by have h1 := hf4.2 g hg; have h2 := hlt g hm; omega) (heap_alloc_new W _) (fun hm => by have h2 := hlt _ hm; have := hbW.size; omega) hq hn (by simp [Value.oneCell']) (by have := hbW.size; simp; omega)).mono ?_
      rintro e w' ⟨v', f', he, hg', hb'⟩
      refine ⟨v', f', he, ?_, ((ba hbW).mono hB).trans hb'⟩
      rw [Hf.out, hqi]; exact hg'
    have Hins := Lib.hid hins
    clear hins
    rcases idxI_cases (fun y => decide (0 < cmpL y x)) l with ⟨hq, hi⟩ | ⟨q, hq, hi, hql⟩
    · have Hq := Lib.hid hq
      have Hi := Lib.hid hi
      clear hq hi
      go_enter Try.func84, Try.ntmps84
      go_wp2_with (first
        | (go_at_call 122; refine (hasTuple_any _ l f _ x fx _ h1.sl hx1).mono ?_; rintro e w2 ⟨rfl, hb2⟩; rw [Ha.out])
        | (go_at_call 123; refine (indexFuncInts_any _ hP #[.pointer (some ⟨w.heap.size, 0, none⟩)] (fun y vy => #[vy, .pointer (some ⟨w.heap.size, 0, none⟩)]) (fun _ _ => rfl) (fun y => decide (0 < cmpL y x)) _ l f _ (h1.below' good_ints hb2).sl (fun i hi w' vy fy hb hy => addedTuple1_any _ _ _ _ _ _ _ _ hy ((hx1.below' hb2).below' hb) (cell_below (cell_below hc0 hb2) hb))).mono ?_; rintro e w3 ⟨rfl, hb3⟩; rw [Hq.out]; have hc3 := cell_below (cell_below hc0 hb2) hb3)
        | (go_at_call 120; refine (clone_any _ x fx _ ((hx1.below' hb2).below' hb3) hxn).mono ?_; rintro e w4 ⟨v4, f4, rfl, hu4, hfr4, hb4⟩; obtain ⟨p4, q4, rfl⟩ := slR.form hu4; have hbW := bt (bt (bt hb0 hb2) hb3) hb4; have hfr5 : Fresh w.heap.size f4 := hfr4.mono (bt (bt hb0 hb2) hb3).size)
        | (go_at_call 126; refine (Hins.out l.length (Nat.le_refl _) Hi.out _ hbW _ f4 hu4 hfr5).mono ?_; rintro e w6 ⟨v6, f6, rfl, hg6, hb6⟩))
      go_ret
      first | exact ⟨_, _, rfl, hg6, hb6⟩ | exact ⟨_, rfl, ⟨_, hg6⟩, hb6⟩
    · have Hq := Lib.hid hq
      have Hi := Lib.hid hi
      have hq0 : ¬ ((q : Int) < 0) := by omega
      clear hq hi
      go_enter Try.func84, Try.ntmps84
      go_wp2_with (first
        | (go_at_call 122; refine (hasTuple_any _ l f _ x fx _ h1.sl hx1).mono ?_; rintro e w2 ⟨rfl, hb2⟩; rw [Ha.out])
        | (go_at_call 123; refine (indexFuncInts_any _ hP #[.pointer (some ⟨w.heap.size, 0, none⟩)] (fun y vy => #[vy, .pointer (some ⟨w.heap.size, 0, none⟩)]) (fun _ _ => rfl) (fun y => decide (0 < cmpL y x)) _ l f _ (h1.below' good_ints hb2).sl (fun i hi w' vy fy hb hy => addedTuple1_any _ _ _ _ _ _ _ _ hy ((hx1.below' hb2).below' hb) (cell_below (cell_below hc0 hb2) hb))).mono ?_; rintro e w3 ⟨rfl, hb3⟩; rw [Hq.out]; have hc3 := cell_below (cell_below hc0 hb2) hb3)
        | (go_at_call 120; refine (clone_any _ x fx _ ((hx1.below' hb2).below' hb3) hxn).mono ?_; rintro e w4 ⟨v4, f4, rfl, hu4, hfr4, hb4⟩; obtain ⟨p4, q4, rfl⟩ := slR.form hu4; have hbW := bt (bt (bt hb0 hb2) hb3) hb4; have hfr5 : Fresh w.heap.size f4 := hfr4.mono (bt (bt hb0 hb2) hb3).size)
        | (go_at_call 126; refine (Hins.out q hql Hi.out _ hbW _ f4 hu4 hfr5).mono ?_; rintro e w6 ⟨v6, f6, rfl, hg6, hb6⟩))
      go_ret
      first | exact ⟨_, _, rfl, hg6, hb6⟩ | exact ⟨_, rfl, ⟨_, hg6⟩, hb6⟩
set_option maxRecDepth 100000 in
set_option maxHeartbeats 800000 in
theorem implAddTuple_any (v : Value) (l : List (List Int)) (f : List Nat) (vx : Value) (x : List Int) (fx : List Nat) (w : World) (h : intss w v l f) (hx : ints w vx x fx) (hn : l.length ≤ 1048576) (hln : ∀ y ∈ l, y.length ≤ 1048576) (hxn : x.length ≤ 1048576) :
    Calls Try.prog 30 #[v, vx] w fun e w' => ∃ v' f', e = .returned v' ∧ intss w' v' (addTupleL l x) f' ∧ Fresh w.heap.size f' ∧ Below w.heap.size w w' := by
  obtain ⟨a, cap, rfl⟩ := slR.form h
  obtain ⟨b, cap', rfl⟩ := slR.form hx
  have Hln := Lib.hid hln
  clear hln
  go_enter Try.func30, Try.ntmps30
  go_wp2_with (first
    | (go_at_call 85; refine (copyTuples_any _ l f _ h hn Hln.out).mono ?_; rintro e w1 ⟨v1, f1, rfl, hg1, hb1⟩)
    | (go_at_call 84; refine (addedTuple_any w.heap.size _ l f1 _ x fx _ hg1 (hx.below' hb1) hb1.size hn hxn).mono ?_; rintro e w2 ⟨v2, f2, rfl, hg2, hb2⟩))
  have hfin := hg2.sl
  have hfr := hg2.fresh
  have hbf := hb1.trans hb2
  go_ret
  first | exact ⟨_, _, rfl, hfin, hfr, hbf⟩ | exact ⟨_, rfl, ⟨_, hfin, hfr⟩, hbf⟩
set_option maxHeartbeats 800000 in
theorem added1_any (x y : FactD) (vx vy : Value) (fx fy : List Nat) (g : Nat) (w : World) (hx : ints w vx x.vals fx) (hy : ints w vy y.vals fy)
    (c0 : w.cell? ⟨g, 0, none⟩ = some (.int .i64 y.rel)) (c1 : w.cell? ⟨g, 1, none⟩ = some vy) :
    Calls Try.prog 128 #[.agg #[.int .i64 x.rel, vx], .pointer (some ⟨g, 0, none⟩)] w fun e w' => e = .returned (.bool (decide (0 < cmpFact x y))) ∧ Below w.heap.size w w' := by
  obtain ⟨a, cap, rfl⟩ := slR.form hx
  obtain ⟨b, cap', rfl⟩ := slR.form hy
  have d0 := fun o => cell_al c0 o
  have d1 := fun o => cell_al c1 o
  have hf := lt_of_cell c0
  generalize hd : cmpFact x y = r
  have Hd := Lib.hid hd
  clear hd
  go_enter Try.func128, Try.ntmps128
  go_wp2_with fail
  refine (implCompareFacts_any x y _ _ fx fy _ (hx.al _) (hy.al _)).mono ?_
  rintro e w1 ⟨rfl, hb1⟩
  rw [Hd.out]
  go_wp2
  go_ret
  exact ⟨rfl, bt (ba (Below.refl _ _)) hb1⟩
set_option maxRecDepth 100000 in
set_option maxHeartbeats 3200000 in
theorem added_any (B : Nat) (v : Value) (l : List FactD) (f : List Nat) (x : FactD) (vx : Value) (fx : List Nat) (w : World) (h : grR 38 2 factR B w v l f) (hx : ints w vx x.vals fx) (hix : I64 x.rel) (hB : B ≤ w.heap.size) (hn : l.length ≤ 1048576) (hxn : x.vals.length ≤ 1048576) :
    Calls Try.prog 95 #[v, .agg #[.int .i64 x.rel, vx]] w fun e w' => ∃ v' f', e = .returned v' ∧ grR 38 2 factR B w' v' (addFactL l x) f' ∧ Below B w w' := by
  obtain ⟨a, cap, rfl⟩ := slR.form h.sl
  obtain ⟨b, cap', rfl⟩ := slR.form hx
  have hP := plain_of Try.func128 (by kernel_rfl) (by kernel_rfl)
  have hb0 : Below w.heap.size w (w.alloc (.cells #[.int .i64 x.rel, .slice b x.vals.length cap'] 38)) := ba (Below.refl _ _)
  have hx1 := hx.al (.cells #[.int .i64 x.rel, .slice b x.vals.length cap'] 38)
  have h1 := h.below' good_fact hb0
  have hc0 : (w.alloc (.cells #[.int .i64 x.rel, .slice b x.vals.length cap'] 38)).cell? ⟨w.heap.size, 0, none⟩ = some (.int .i64 x.rel) := cell_new w _ _ 0 _ rfl
  have hd0 : (w.alloc (.cells #[.int .i64 x.rel, .slice b x.vals.length cap'] 38)).cell? ⟨w.heap.size, 1, none⟩ = some (.slice b x.vals.length cap') := cell_new w _ _ 1 _ rfl
  cases ha : hasFactB l x with
  | true =>
    have Hf := Lib.hid (show addFactL l x = l from addC_has ha)
    have Ha := Lib.hid ha
    clear ha
    go_enter Try.func95, Try.ntmps95
    go_wp2_with (go_at_call 107; refine (implHasFact_any _ l f x _ fx _ h1.sl hx1).mono ?_; rintro e w2 ⟨rfl, hb2⟩; rw [Ha.out])
    have hfin := h1.below' good_fact hb2
    have hbf := (bt hb0 hb2).mono hB
    go_ret
    exact ⟨_, _, rfl, by rw [Hf.out]; exact hfin, hbf⟩
  | false =>
    have Hf := Lib.hid (show addFactL l x = _ from addC_ins ha)
    have Ha := Lib.hid ha
    clear ha
    have hins : ∀ (q : Nat), q ≤ l.length → insAt (fun y => decide (0 < cmpFact y x)) l = q → ∀ W : World, Below w.heap.size w W → ∀ (v4 : Value) (f4 : List Nat), ints W v4 x.vals f4 → Fresh w.heap.size f4 →
        Calls Try.prog 130 #[.slice a l.length cap, .int .i64 q, .slice (some ⟨W.heap.size, 0, none⟩) 1 1] (W.alloc (.cells #[.int .i64 x.rel, v4] 38)) fun e w' => ∃ v' f', e = .returned v' ∧ grR 38 2 factR B w' v' (addFactL l x) f' ∧ Below B w w' := by
      intro q hq hqi W hbW v4 f4 hv4 hf4
      obtain ⟨a4, c4, rfl⟩ := slR.form hv4
      have hgW := h.below' good_fact (ba (o := .cells #[.int .i64 x.rel, .slice a4 x.vals.length c4] 38) hbW)
      have hlt := h.lt good_fact
      refine (insertFact_any B _ l f x [.int .i64 x.rel, .slice a4 x.vals.length c4] f4 W.heap.size q _ hgW ⟨_, rfl, hix, hv4.al _⟩ rfl (hf4.mono hB) (fun g hg hm => by have h1 := hf4.2 g hg; have h2 := hlt g hm; omega) (heap_alloc_new W _) (fun hm => by have h2 := hlt _ hm; have := hbW.size; omega) hq hn (by simp [Value.oneCell']) (by have := hbW.size; simp; omega)).mono ?_
      rintro e w' ⟨v', f', he, hg', hb'⟩
      refine ⟨v', f', he, ?_, ((ba hbW).mono hB).trans hb'⟩
      rw [Hf.out, hqi]; exact hg'
    have Hins := Lib.hid hins
    clear hins
    rcases idxI_cases (fun y => decide (0 < cmpFact y x)) l with ⟨hq, hi⟩ | ⟨q, hq, hi, hql⟩
    · have Hq := Lib.hid hq
      have Hi := Lib.hid hi
      clear hq hi
      go_enter Try.func95, Try.ntmps95
      go_wp2_with (first
        | (go_at_call 107; refine (implHasFact_any _ l f x _ fx _ h1.sl hx1).mono ?_; rintro e w2 ⟨rfl, hb2⟩; rw [Ha.out])
        | (go_at_call 127; refine (indexFuncFact_any _ hP #[.pointer (some ⟨w.heap.size, 0, none⟩)] (fun y vy => #[.agg #[.int .i64 y.rel, vy], .pointer (some ⟨w.heap.size, 0, none⟩)]) (fun _ _ => rfl) (fun y => decide (0 < cmpFact y x)) _ l f _ (h1.below' good_fact hb2).sl (fun i hi w' vy fy hb hy => added1_any _ _ _ _ _ _ _ _ hy ((hx1.below' hb2).below' hb) (cell_below (cell_below hc0 hb2) hb) (cell_below (cell_below hd0 hb2) hb))).mono ?_; rintro e w3 ⟨rfl, hb3⟩; rw [Hq.out]; have hc3 := cell_below (cell_below hc0 hb2) hb3; have hd3 := cell_below (cell_below hd0 hb2) hb3)
        | (go_at_call 131; refine (copyFact_any x _ fx _ ((hx1.below' hb2).below' hb3) hxn).mono ?_; rintro e w4 ⟨v4, f4, rfl, hu4, hfr4, hb4⟩; have hbW := bt (bt (bt hb0 hb2) hb3) hb4; have hfr5 : Fresh w.heap.size f4 := hfr4.mono (bt (bt hb0 hb2) hb3).size)
        | (go_at_call 130; refine (Hins.out l.length (Nat.le_refl _) Hi.out _ hbW _ f4 hu4 hfr5).mono ?_; rintro e w6 ⟨v6, f6, rfl, hg6, hb6⟩))
      go_ret
      first | exact ⟨_, _, rfl, hg6, hb6⟩ | exact ⟨_, rfl, ⟨_, hg6⟩, hb6⟩
    · have Hq := Lib.hid hq
      have Hi := Lib.hid hi
      have hq0 : ¬ ((q : Int) < 0) := by omega
      clear hq hi
      go_enter Try.func95, Try.ntmps95
      go_wp2_with (first
        | (go_at_call 107; refine (implHasFact_any _ l f x _ fx _ h1.sl hx1).mono ?_; rintro e w2 ⟨rfl, hb2⟩; rw [Ha.out])
        | (go_at_call 127; refine (indexFuncFact_any _ hP #[.pointer (some ⟨w.heap.size, 0, none⟩)] (fun y vy => #[.agg #[.int .i64 y.rel, vy], .pointer (some ⟨w.heap.size, 0, none⟩)]) (fun _ _ => rfl) (fun y => decide (0 < cmpFact y x)) _ l f _ (h1.below' good_fact hb2).sl (fun i hi w' vy fy hb hy => added1_any _ _ _ _ _ _ _ _ hy ((hx1.below' hb2).below' hb) (cell_below (cell_below hc0 hb2) hb) (cell_below (cell_below hd0 hb2) hb))).mono ?_; rintro e w3 ⟨rfl, hb3⟩; rw [Hq.out]; have hc3 := cell_below (cell_below hc0 hb2) hb3; have hd3 := cell_below (cell_below hd0 hb2) hb3)
        | (go_at_call 131; refine (copyFact_any x _ fx _ ((hx1.below' hb2).below' hb3) hxn).mono ?_; rintro e w4 ⟨v4, f4, rfl, hu4, hfr4, hb4⟩; have hbW := bt (bt (bt hb0 hb2) hb3) hb4; have hfr5 : Fresh w.heap.size f4 := hfr4.mono (bt (bt hb0 hb2) hb3).size)
        | (go_at_call 130; refine (Hins.out q hql Hi.out _ hbW _ f4 hu4 hfr5).mono ?_; rintro e w6 ⟨v6, f6, rfl, hg6, hb6⟩))
      go_ret
      first | exact ⟨_, _, rfl, hg6, hb6⟩ | exact ⟨_, rfl, ⟨_, hg6⟩, hb6⟩
set_option maxRecDepth 100000 in
set_option maxHeartbeats 1600000 in
theorem implAddFact_any (v : Value) (l : List FactD) (f : List Nat) (x : FactD) (vx : Value) (fx : List Nat) (w : World) (h : facts w v l f) (hx : ints w vx x.vals fx) (hix : I64 x.rel) (hn : l.length ≤ 1048576) (hln : ∀ y ∈ l, y.vals.length ≤ 1048576) (hxn : x.vals.length ≤ 1048576) :
    Calls Try.prog 50 #[v, .agg #[.int .i64 x.rel, vx]] w fun e w' => ∃ v' f', e = .returned v' ∧ facts w' v' (addFactL l x) f' ∧ Fresh w.heap.size f' ∧ Below w.heap.size w w' := by
  obtain ⟨a, cap, rfl⟩ := slR.form h
  obtain ⟨b, cap', rfl⟩ := slR.form hx
  have Hln := Lib.hid hln
  clear hln
  have hn' : l.length ≤ 1048576 := by omega
  obtain ⟨W1, hW1⟩ : ∃ W1, W1 = w.alloc (.cells #[.int .i64 x.rel, .slice b x.vals.length cap'] 38) := ⟨_, rfl⟩
  have hb0 : Below w.heap.size w W1 := by rw [hW1]; exact ba (Below.refl _ _)
  have hx1 : ints W1 (.slice b x.vals.length cap') x.vals fx := hx.below' hb0
  have h1 : facts W1 (.slice a l.length cap) l f := h.below' hb0
  have c0 : W1.cell? ⟨w.heap.size, 0, none⟩ = some (.int .i64 x.rel) := by rw [hW1]; exact cell_new w _ _ 0 _ rfl
  have c1 : W1.cell? ⟨w.heap.size, 1, none⟩ = some (.slice b x.vals.length cap') := by rw [hW1]; exact cell_new w _ _ 1 _ rfl
  have HW := Lib.hid hW1
  clear hW1
  go_enter Try.func50, Try.ntmps50
  go_wp2
  rw [← HW.out]
  go_region_held3 (fun w' => w'.cell? ⟨w.heap.size, 0, none⟩ = some (.int .i64 x.rel) ∧ w'.cell? ⟨w.heap.size, 1, none⟩ = some (.slice b x.vals.length cap')) (first | exact ⟨c0, c1⟩ | exact ⟨d0, d1⟩ | go_keep)
    (first
      | (go_at_call 96
         refine (copyFacts_any _ l f _ (h1.below' ?_) hn' Hln.out).mono ?_
         · (repeat (first | exact Below.refl _ _ | refine bdr ?_))
         rintro e w1 ⟨v1, f1, rfl, hg1, hb1⟩
         have D1 : Below W1.heap.size W1 w1 := bt (by (repeat (first | exact Below.refl _ _ | refine bdr ?_))) hb1
         have d0 : w1.cell? ⟨w.heap.size, 0, none⟩ = some (.int .i64 x.rel) := cell_below c0 D1
         have d1 : w1.cell? ⟨w.heap.size, 1, none⟩ = some (.slice b x.vals.length cap') := cell_below c1 D1
         have hg1' : grR 38 2 factR W1.heap.size w1 v1 l f1 := hg1)
      | (go_at_call 95
         refine (added_any W1.heap.size _ l f1 x _ fx _ (hg1'.below' good_fact ?_) (hx1.below' ?_) hix ?_ hn' hxn).mono ?_
         · (repeat (first | exact Below.refl _ _ | refine bdr ?_))
         · (repeat (first | exact D1 | refine bdr ?_))
         · exact D1.size
         rintro e w2 ⟨v2, f2, rfl, hg2, hb2⟩
         have D2 : Below W1.heap.size W1 w2 := D1.trans (Below.trans (by (repeat (first | exact Below.refl _ _ | refine Below.drew ?_))) hb2)
         have d0 : w2.cell? ⟨w.heap.size, 0, none⟩ = some (.int .i64 x.rel) := cell_below c0 D2
         have d1 : w2.cell? ⟨w.heap.size, 1, none⟩ = some (.slice b x.vals.length cap') := cell_below c1 D2))
  have hfin := hg2.sl
  have hfr := hg2.fresh.mono hb0.size
  have hbf := bt hb0 D2
  go_wp2
  go_ret
  first | exact ⟨_, _, rfl, hfin, hfr, hbf⟩ | exact ⟨_, rfl, ⟨_, hfin, hfr⟩, hbf⟩
end Go.Proofs.Ytjjkfhjkfoikbaa
