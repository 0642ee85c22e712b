/- AddTuple and AddFact of the program, and what they call. Condition: sizes up to 2^20. -/
import Derived.Test.YtapapnaljjnhnaaGreatDoorIns
import Derived.Test.YtapapnaljjnhnaaGreatDoorCopyF
import Derived.Test.YtapapnaljjnhnaaGreatDoorHas
import Derived.Test.YtapapnaljjnhnaaGreatDoorOrder
import Derived.Test.YtapapnaljjnhnaaGreatDoorCompare
import Derived.Test.YtapapnaljjnhnaaGreatDoorIdxS
import Derived.Test.YtapapnaljjnhnaaGreatDoorTuple
import Derived.Deep.RegionHeld3
namespace Go.Proofs.YtapapnaljjnhnaaGreatDoor
open Go.RowKit
set_option linter.unusedVariables false
set_option linter.unusedSimpArgs false
theorem idxI_cases {α : Type} (p : α → Bool) (l : List α) : (idxI p l = -1 ∧ insAt p l = l.length) ∨ ∃ q : Nat, idxI p l = (q : Int) ∧ insAt p l = q ∧ q ≤ l.length := by
  unfold insAt idxI
  cases h : l.findIdx? p with
  | none => left; exact ⟨rfl, rfl⟩
  | some i =>
    right
    rw [List.findIdx?_eq_some_iff_getElem] at h
    obtain ⟨hi, _⟩ := h
    exact ⟨i, rfl, by simp; omega, by omega⟩
theorem addC_has {α : Type} {c : α → α → Int} {l : List α} {x : α} (h : (l.any fun y => decide (c y x = 0)) = true) : addC c l x = l := by unfold addC; rw [h]; rfl
theorem addC_ins {α : Type} {c : α → α → Int} {l : List α} {x : α} (h : (l.any fun y => decide (c y x = 0)) = false) : addC c l x = l.take (insAt (fun y => decide (0 < c y x)) l) ++ x :: l.drop (insAt (fun y => decide (0 < c y x)) l) := by
  unfold addC; rw [h]; exact insF_at _ _ _
theorem any_tuple (l : List (List Int)) (x : List Int) : (l.any fun y => decide (cmpL y x = 0)) = l.any fun y => decide (y = x) := by
  congr 1; funext y; rw [Bool.eq_iff_iff]; simp [cmpL_zero]
set_option maxHeartbeats 800000 in
theorem added1_any (x y : FactD) (vx vy : Value) (fx fy : List Nat) (g : Nat) (w : World) (hx : ints w vx x.vals fx) (hy : ints w vy y.vals fy)
    (c0 : w.cell? ⟨g, 0, none⟩ = some (.int .i64 y.rel)) (c1 : w.cell? ⟨g, 1, none⟩ = some vy) :
    Calls Tryz.prog 192 #[.agg #[.int .i64 x.rel, vx], .pointer (some ⟨g, 0, none⟩)] w fun e w' => e = .returned (.bool (decide (0 < cmpFact x y))) ∧ Below w.heap.size w w' := by
  obtain ⟨a, cap, rfl⟩ := slR.form hx
  obtain ⟨b, cap', rfl⟩ := slR.form hy
  have d0 := fun o => cell_al c0 o
  have d1 := fun o => cell_al c1 o
  have hf := lt_of_cell c0
  generalize hd : cmpFact x y = r
  have Hd := Lib.hid hd
  clear hd
  go_enter Tryz.func192, Tryz.ntmps192
  go_wp2_with fail
  refine (implCompareFacts_any x y _ _ fx fy _ (hx.al _) (hy.al _)).mono ?_
  rintro e w1 ⟨rfl, hb1⟩
  rw [Hd.out]
  go_wp2
  go_ret
  exact ⟨rfl, bt (ba (Below.refl _ _)) hb1⟩
set_option maxRecDepth 100000 in
set_option maxHeartbeats 3200000 in
theorem added_any (B : Nat) (v : Value) (l : List FactD) (f : List Nat) (x : FactD) (vx : Value) (fx : List Nat) (w : World) (h : grR 79 2 factR B w v l f) (hx : ints w vx x.vals fx) (hix : I64 x.rel) (hB : B ≤ w.heap.size) (hn : l.length ≤ 1048576) (hxn : x.vals.length ≤ 1048576) :
    Calls Tryz.prog 140 #[v, .agg #[.int .i64 x.rel, vx]] w fun e w' => ∃ v' f', e = .returned v' ∧ grR 79 2 factR B w' v' (addFactL l x) f' ∧ Below B w w' := by
  obtain ⟨a, cap, rfl⟩ := slR.form h.sl
  obtain ⟨b, cap', rfl⟩ := slR.form hx
  have hP := plain_of Tryz.func192 (by kernel_rfl) (by kernel_rfl)
  have hb0 : Below w.heap.size w (w.alloc (.cells #[.int .i64 x.rel, .slice b x.vals.length cap'] 79)) := ba (Below.refl _ _)
  have hx1 := hx.al (.cells #[.int .i64 x.rel, .slice b x.vals.length cap'] 79)
  have h1 := h.below' good_fact hb0
  have hc0 : (w.alloc (.cells #[.int .i64 x.rel, .slice b x.vals.length cap'] 79)).cell? ⟨w.heap.size, 0, none⟩ = some (.int .i64 x.rel) := cell_new w _ _ 0 _ rfl
  have hd0 : (w.alloc (.cells #[.int .i64 x.rel, .slice b x.vals.length cap'] 79)).cell? ⟨w.heap.size, 1, none⟩ = some (.slice b x.vals.length cap') := cell_new w _ _ 1 _ rfl
  cases ha : hasFactB l x with
  | true =>
    have Hf := Lib.hid (show addFactL l x = l from addC_has ha)
    have Ha := Lib.hid ha
    clear ha
    go_enter Tryz.func140, Tryz.ntmps140
    go_wp2_with (go_at_call 60; refine (implHasFact_any _ l f x _ fx _ h1.sl hx1).mono ?_; rintro e w2 ⟨rfl, hb2⟩; rw [Ha.out])
    have hfin := h1.below' good_fact hb2
    have hbf := (bt hb0 hb2).mono hB
    go_ret
    exact ⟨_, _, rfl, by rw [Hf.out]; exact hfin, hbf⟩
  | false =>
    have Hf := Lib.hid (show addFactL l x = _ from addC_ins ha)
    have Ha := Lib.hid ha
    clear ha
    have hins : ∀ (q : Nat), q ≤ l.length → insAt (fun y => decide (0 < cmpFact y x)) l = q → ∀ W : World, Below w.heap.size w W → ∀ (v4 : Value) (f4 : List Nat), ints W v4 x.vals f4 → Fresh w.heap.size f4 →
        Calls Tryz.prog 193 #[.slice a l.length cap, .int .i64 q, .slice (some ⟨W.heap.size, 0, none⟩) 1 1] (W.alloc (.cells #[.int .i64 x.rel, v4] 79)) fun e w' => ∃ v' f', e = .returned v' ∧ grR 79 2 factR B w' v' (addFactL l x) f' ∧ Below B w w' := by
      intro q hq hqi W hbW v4 f4 hv4 hf4
      obtain ⟨a4, c4, rfl⟩ := slR.form hv4
      have hgW := h.below' good_fact (ba (o := .cells #[.int .i64 x.rel, .slice a4 x.vals.length c4] 79) hbW)
      have hlt := h.lt good_fact
      refine (insertFact_any B _ l f x [.int .i64 x.rel, .slice a4 x.vals.length c4] f4 W.heap.size q _ hgW ⟨_, rfl, hix, hv4.al _⟩ rfl (hf4.mono hB) (fun g hg hm => by have h1 := hf4.2 g hg; have h2 := hlt g hm; omega) (heap_alloc_new W _) (fun hm => by have h2 := hlt _ hm; have := hbW.size; omega) hq hn (by simp [Value.oneCell']) (by have := hbW.size; simp; omega)).mono ?_
      rintro e w' ⟨v', f', he, hg', hb'⟩
      refine ⟨v', f', he, ?_, ((ba hbW).mono hB).trans hb'⟩
      rw [Hf.out, hqi]; exact hg'
    have Hins := Lib.hid hins
    clear hins
    rcases idxI_cases (fun y => decide (0 < cmpFact y x)) l with ⟨hq, hi⟩ | ⟨q, hq, hi, hql⟩
    · have Hq := Lib.hid hq
      have Hi := Lib.hid hi
      clear hq hi
      go_enter Tryz.func140, Tryz.ntmps140
      go_wp2_with (first
        | (go_at_call 60; refine (implHasFact_any _ l f x _ fx _ h1.sl hx1).mono ?_; rintro e w2 ⟨rfl, hb2⟩; rw [Ha.out])
        | (go_at_call 160; refine (indexFuncFact_any _ hP #[.pointer (some ⟨w.heap.size, 0, none⟩)] (fun y vy => #[.agg #[.int .i64 y.rel, vy], .pointer (some ⟨w.heap.size, 0, none⟩)]) (fun _ _ => rfl) (fun y => decide (0 < cmpFact y x)) _ l f _ (h1.below' good_fact hb2).sl (fun i hi w' vy fy hb hy => added1_any _ _ _ _ _ _ _ _ hy ((hx1.below' hb2).below' hb) (cell_below (cell_below hc0 hb2) hb) (cell_below (cell_below hd0 hb2) hb))).mono ?_; rintro e w3 ⟨rfl, hb3⟩; rw [Hq.out]; have hc3 := cell_below (cell_below hc0 hb2) hb3; have hd3 := cell_below (cell_below hd0 hb2) hb3)
        | (go_at_call 194; refine (copyFact_any x _ fx _ ((hx1.below' hb2).below' hb3) hxn).mono ?_; rintro e w4 ⟨v4, f4, rfl, hu4, hfr4, hb4⟩; have hbW := bt (bt (bt hb0 hb2) hb3) hb4; have hfr5 : Fresh w.heap.size f4 := hfr4.mono (bt (bt hb0 hb2) hb3).size)
        | (go_at_call 193; refine (Hins.out l.length (Nat.le_refl _) Hi.out _ hbW _ f4 hu4 hfr5).mono ?_; rintro e w6 ⟨v6, f6, rfl, hg6, hb6⟩))
      go_ret
      first | exact ⟨_, _, rfl, hg6, hb6⟩ | exact ⟨_, rfl, ⟨_, hg6⟩, hb6⟩
    · have Hq := Lib.hid hq
      have Hi := Lib.hid hi
      have hq0 : ¬ ((q : Int) < 0) := by omega
      clear hq hi
      go_enter Tryz.func140, Tryz.ntmps140
      go_wp2_with (first
        | (go_at_call 60; refine (implHasFact_any _ l f x _ fx _ h1.sl hx1).mono ?_; rintro e w2 ⟨rfl, hb2⟩; rw [Ha.out])
        | (go_at_call 160; refine (indexFuncFact_any _ hP #[.pointer (some ⟨w.heap.size, 0, none⟩)] (fun y vy => #[.agg #[.int .i64 y.rel, vy], .pointer (some ⟨w.heap.size, 0, none⟩)]) (fun _ _ => rfl) (fun y => decide (0 < cmpFact y x)) _ l f _ (h1.below' good_fact hb2).sl (fun i hi w' vy fy hb hy => added1_any _ _ _ _ _ _ _ _ hy ((hx1.below' hb2).below' hb) (cell_below (cell_below hc0 hb2) hb) (cell_below (cell_below hd0 hb2) hb))).mono ?_; rintro e w3 ⟨rfl, hb3⟩; rw [Hq.out]; have hc3 := cell_below (cell_below hc0 hb2) hb3; have hd3 := cell_below (cell_below hd0 hb2) hb3)
        | (go_at_call 194; refine (copyFact_any x _ fx _ ((hx1.below' hb2).below' hb3) hxn).mono ?_; rintro e w4 ⟨v4, f4, rfl, hu4, hfr4, hb4⟩; have hbW := bt (bt (bt hb0 hb2) hb3) hb4; have hfr5 : Fresh w.heap.size f4 := hfr4.mono (bt (bt hb0 hb2) hb3).size)
        | (go_at_call 193; refine (Hins.out q hql Hi.out _ hbW _ f4 hu4 hfr5).mono ?_; rintro e w6 ⟨v6, f6, rfl, hg6, hb6⟩))
      go_ret
      first | exact ⟨_, _, rfl, hg6, hb6⟩ | exact ⟨_, rfl, ⟨_, hg6⟩, hb6⟩
set_option maxRecDepth 100000 in
set_option maxHeartbeats 1600000 in
theorem implAddFact_any (v : Value) (l : List FactD) (f : List Nat) (x : FactD) (vx : Value) (fx : List Nat) (w : World) (h : facts w v l f) (hx : ints w vx x.vals fx) (hix : I64 x.rel) (hn : l.length ≤ 1048576) (hln : ∀ y ∈ l, y.vals.length ≤ 1048576) (hxn : x.vals.length ≤ 1048576) :
    Calls Tryz.prog 58 #[v, .agg #[.int .i64 x.rel, vx]] w fun e w' => ∃ v' f', e = .returned v' ∧ facts w' v' (addFactL l x) f' ∧ Fresh w.heap.size f' ∧ Below w.heap.size w w' := by
  obtain ⟨a, cap, rfl⟩ := slR.form h
  obtain ⟨b, cap', rfl⟩ := slR.form hx
  have Hln := Lib.hid hln
  clear hln
  have hn' : l.length ≤ 1048576 := by omega
  obtain ⟨W1, hW1⟩ : ∃ W1, W1 = w.alloc (.cells #[.int .i64 x.rel, .slice b x.vals.length cap'] 79) := ⟨_, rfl⟩
  have hb0 : Below w.heap.size w W1 := by rw [hW1]; exact ba (Below.refl _ _)
  have hx1 : ints W1 (.slice b x.vals.length cap') x.vals fx := hx.below' hb0
  have h1 : facts W1 (.slice a l.length cap) l f := h.below' hb0
  have c0 : W1.cell? ⟨w.heap.size, 0, none⟩ = some (.int .i64 x.rel) := by rw [hW1]; exact cell_new w _ _ 0 _ rfl
  have c1 : W1.cell? ⟨w.heap.size, 1, none⟩ = some (.slice b x.vals.length cap') := by rw [hW1]; exact cell_new w _ _ 1 _ rfl
  have HW := Lib.hid hW1
  clear hW1
  go_enter Tryz.func58, Tryz.ntmps58
  go_wp2
  rw [← HW.out]
  go_region_held3 (fun w' => w'.cell? ⟨w.heap.size, 0, none⟩ = some (.int .i64 x.rel) ∧ w'.cell? ⟨w.heap.size, 1, none⟩ = some (.slice b x.vals.length cap')) (first | exact ⟨c0, c1⟩ | exact ⟨d0, d1⟩ | go_keep)
    (first
      | (go_at_call 141
         refine (copyFacts_any _ l f _ (h1.below' ?_) hn' Hln.out).mono ?_
         · (repeat (first | exact Below.refl _ _ | refine bdr ?_))
         rintro e w1 ⟨v1, f1, rfl, hg1, hb1⟩
         have D1 : Below W1.heap.size W1 w1 := bt (by (repeat (first | exact Below.refl _ _ | refine bdr ?_))) hb1
         have d0 : w1.cell? ⟨w.heap.size, 0, none⟩ = some (.int .i64 x.rel) := cell_below c0 D1
         have d1 : w1.cell? ⟨w.heap.size, 1, none⟩ = some (.slice b x.vals.length cap') := cell_below c1 D1
         have hg1' : grR 79 2 factR W1.heap.size w1 v1 l f1 := hg1)
      | (go_at_call 140
         refine (added_any W1.heap.size _ l f1 x _ fx _ (hg1'.below' good_fact ?_) (hx1.below' ?_) hix ?_ hn' hxn).mono ?_
         · (repeat (first | exact Below.refl _ _ | refine bdr ?_))
         · (repeat (first | exact D1 | refine bdr ?_))
         · exact D1.size
         rintro e w2 ⟨v2, f2, rfl, hg2, hb2⟩
         have D2 : Below W1.heap.size W1 w2 := D1.trans (Below.trans (by (repeat (first | exact Below.refl _ _ | refine Below.drew ?_))) hb2)
         have d0 : w2.cell? ⟨w.heap.size, 0, none⟩ = some (.int .i64 x.rel) := cell_below c0 D2
         have d1 : w2.cell? ⟨w.heap.size, 1, none⟩ = some (.slice b x.vals.length cap') := cell_below c1 D2))
  have hfin := hg2.sl
  have hfr := hg2.fresh.mono hb0.size
  have hbf := bt hb0 D2
  go_wp2
  go_ret
  first | exact ⟨_, _, rfl, hfin, hfr, hbf⟩ | exact ⟨_, rfl, ⟨_, hfin, hfr⟩, hbf⟩
end Go.Proofs.YtapapnaljjnhnaaGreatDoor
