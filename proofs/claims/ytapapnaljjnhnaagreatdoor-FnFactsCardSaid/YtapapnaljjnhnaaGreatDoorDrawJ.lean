/- l2Copy of the reference; the draws of two lists of facts and of two facts. Condition: the code is no longer than 2^20. -/
import Derived.Test.YtapapnaljjnhnaaGreatDoorDrawH
namespace Go.Proofs.YtapapnaljjnhnaaGreatDoor
open Go.RowKit
set_option linter.unusedVariables false
set_option linter.unusedSimpArgs false
def CpE (l : List FactD) (w : World) (e : Ending) (w' : World) : Prop := ∃ (v : Value) (f : List Nat), e = .returned v ∧ facts w' v l f ∧ Below w.heap.size w w'
theorem CpE.mk {l : List FactD} {w : World} {e : Ending} {w' : World} (v : Value) (f : List Nat) (he : e = .returned v) (h1 : facts w' v l f) (h2 : Below w.heap.size w w') : CpE l w e w' := ⟨v, f, he, h1, h2⟩
set_option maxRecDepth 100000 in
set_option maxHeartbeats 3200000 in
theorem l2Copy_any (v : Value) (l : List FactD) (f : List Nat) (w : World) (h : facts w v l f) (hn : l.length ≤ 1048576) (hln : ∀ y ∈ l, y.vals.length ≤ 1048576) :
    Calls Tryz.prog 145 #[v] w (CpE l w) := by
  obtain ⟨b, cap, rfl⟩ := slR.form h
  have hla := slR.le_max h
  have Hln := Lib.hid hln
  clear hln
  have hb0 : Below w.heap.size w (w.alloc (.cells #[] 79)) := ba (Below.refl _ _)
  have hg0 := grR.lit (w := w) (B := w.heap.size) (E := 79) (sz := 2) factR (Nat.le_refl _) (Nat.le_refl _)
  go_enter Tryz.func145, Tryz.ntmps145
  go_wp2
  go_loopw [3, 4] (fun u i wr => ∃ (k : Nat) (lo : List FactD) (fo : List Nat), i = .int .i64 (k : Int) ∧ k ≤ l.length ∧ lo.length = k ∧ Hid (lo = l.take k) ∧ grR 79 2 factR w.heap.size wr u lo fo ∧ Below w.heap.size w wr) (fun _ i _ => l.length - (intOf i).toNat)
  case atStart => exact ⟨0, [], _, rfl, Nat.zero_le _, rfl, Lib.hid rfl, hg0, hb0⟩
  case round =>
    obtain ⟨k, lo, fo, rfl, hk, hlk, HT, hgr, hbel⟩ := hrel
    obtain ⟨ao, co, rfl⟩ := slR.form hgr.sl
    have Hlk := Lib.hid hlk
    have hll : lo.length ≤ 1048576 := by omega
    clear hlk
    by_cases hlt : k < l.length
    · obtain ⟨g, c, fk, hg, ⟨vy, rfl, iy, hy⟩, _, hc, _, _, _⟩ := slR.at h k hlt
      obtain ⟨a', c', rfl⟩ := slR.form hy
      have hw0 : w.cell? ⟨g, k * 2, none⟩ = some (.int .i64 l[k].rel) := hc 0 _ rfl
      have hw1 : w.cell? ⟨g, k * 2 + 1, none⟩ = some (.slice a' l[k].vals.length c') := hc 1 _ rfl
      have e0 : wr.cell? ⟨g, k * 2, none⟩ = some (.int .i64 l[k].rel) := cell_below hw0 hbel
      have e1 : wr.cell? ⟨g, k * 2 + 1, none⟩ = some (.slice a' l[k].vals.length c') := cell_below hw1 hbel
      have hy1 := hy.below' hbel
      have hkl : (k : Int) < (l.length : Int) := by omega
      have hk0 : (0 : Int) ≤ (k : Int) := Int.natCast_nonneg _
      have Hyn := Hln.out l[k] (List.getElem_mem hlt)
      have HT2 := Lib.hid (show lo ++ [l[k]] = l.take (k + 1) by rw [HT.out, List.take_succ_eq_append_getElem hlt])
      clear hc
      subst hg
      go_wp2_with fail
      go_region_held3 (fun w' => w'.cell? ⟨g, k * 2, none⟩ = some (.int .i64 l[k].rel) ∧ w'.cell? ⟨g, k * 2 + 1, none⟩ = some (.slice a' l[k].vals.length c')) (first | exact ⟨e0, e1⟩ | exact ⟨e2, e3⟩ | exact ⟨cell_al e2 _, cell_al e3 _⟩ | exact ⟨cell_below hw0 hb4, cell_below hw1 hb4⟩)
        (first
          | (go_at_call 142
             refine (l2One_any l[k].rel _ l[k].vals fk _ (hy1.below' ?_) Hyn).mono ?_
             · (repeat (first | exact Below.refl _ _ | refine bdr ?_))
             rintro e w2 ⟨v2, f2, rfl, hu2, hfr2, hb2⟩
             obtain ⟨p2, q2, rfl⟩ := slR.form hu2
             have D2 : Below wr.heap.size wr w2 := bt (by (repeat (first | exact Below.refl _ _ | refine bdr ?_))) hb2
             have e2 : w2.cell? ⟨g, k * 2, none⟩ = some (.int .i64 l[k].rel) := cell_below e0 D2
             have e3 : w2.cell? ⟨g, k * 2 + 1, none⟩ = some (.slice a' l[k].vals.length c') := cell_below e1 D2
             have hgr2 := hgr.below' good_fact D2
             have hbw2 := bt hbel D2
             have hfr3 : Fresh wr.heap.size f2 := hfr2.mono (Nat.le_of_eq rfl))
          | ((refine step_gr slFactS good_fact (by rfl) _ _ (by rfl) hgr2 hbw2 (by rfl) #[.int .i64 l[k].rel, .slice p2 l[k].vals.length q2] l[k] f2 ⟨_, rfl, iy, hu2⟩ (by rfl) (hfr3.mono (Below.size hbel)) (fun g hg hm => (by have h1 := hfr3.2 g hg; have h2 := grR.lt good_fact hgr g hm; omega)) (by rfl) (by simp [Value.oneCell']) (by first | omega | (simp; omega)) (by unfold maxLen; first | omega | (simp; omega)) ?_; intro g4 cap4 w4 f4 hgr4 hb4 hg4)))
      go_wp2
      go_roundw
      case rel => exact ⟨k + 1, lo ++ [l[k]], f4, by go_num, by omega, by simp [Hlk.out], HT2, by simpa using hgr4, hb4⟩
      case measure => simp [intOf]; omega
    · have hkl : k = l.length := by omega
      have HS := Lib.hid (show lo = l by rw [HT.out, hkl, List.take_length])
      clear hkl
      go_wp2
      go_ret
      exact CpE.mk _ fo rfl (by have h9 := hgr.sl; rw [HS.out] at h9; rw [HS.out]; exact h9) hbel
def DsfE (w : World) (e : Ending) (w' : World) : Prop := ∃ (v : Value) (l : List FactD) (f : List Nat) (u : Value) (m : List FactD) (g : List Nat), e = .returned (.tuple #[v, u]) ∧ facts w' v l f ∧ (l.length ≤ 9 ∧ ∀ y ∈ l, y.vals.length ≤ 4) ∧ facts w' u m g ∧ (m.length ≤ 9 ∧ ∀ y ∈ m, y.vals.length ≤ 4) ∧ Below w.heap.size w w'
theorem DsfE.mk {w : World} {e : Ending} {w' : World} (v : Value) (l : List FactD) (f : List Nat) (u : Value) (m : List FactD) (g : List Nat) (he : e = .returned (.tuple #[v, u])) (h1 : facts w' v l f) (h2 : l.length ≤ 9 ∧ ∀ y ∈ l, y.vals.length ≤ 4) (h3 : facts w' u m g) (h4 : m.length ≤ 9 ∧ ∀ y ∈ m, y.vals.length ≤ 4) (h6 : Below w.heap.size w w') : DsfE w e w' := ⟨v, l, f, u, m, g, he, h1, h2, h3, h4, h6⟩
set_option maxRecDepth 100000 in
set_option maxHeartbeats 1600000 in
theorem DrawSameFacts_any (b : Option Addr) (cap : Nat) (l : List Int) (w : World) (hl : bytesV w (.slice b l.length cap) l) (hn : l.length ≤ 1048576) :
    Calls Tryz.prog 68 #[.slice b l.length cap] w (DsfE w) := by
  go_enter Tryz.func68, Tryz.ntmps68
  go_wp2_with fail
  refine (cNew_any b cap l _ hl hn).mono ?_
  rintro e w1 ⟨g, rfl, hc⟩
  go_wp2_with fail
  refine (l2Schema_any _ g w1 hc).mono ?_
  rintro e w2 ⟨sv, s, fs, rfl, hs, hsc, d2⟩
  obtain ⟨p, q, rfl⟩ := slR.form hs.sl
  have hglt := hc.lt
  have hgf : g ∉ fs := fun hm => by have := hs.fresh.2 _ hm; omega
  go_wp2_with fail
  refine (l2AnyFacts_any _ g _ s fs w2 d2.new hs.sl hgf).mono ?_
  rintro e w3 ⟨v, fl, f, rfl, hx, hfl, d3⟩
  obtain ⟨p1, q1, rfl⟩ := slR.form hx.sl
  have hgl : g ∉ f := fun hm => by have := hx.fresh.2 _ hm; have := d2.size; omega
  go_wp2_with fail
  refine (cOnce_any _ g 2 _ d3.new (by omega) (by omega)).mono ?_
  rintro e w4 ⟨bb, rfl, d4⟩
  have hx4 : facts w4 (.slice p1 fl.length q1) fl f := facts.dw hx.sl d4 hgl
  have d := d2.trans (d3.trans d4)
  cases bb with
  | true =>
    go_wp2_with fail
    refine (l2Copy_any _ fl f w4 hx4 (by omega) (fun y hy => by have := hfl.2 y hy; omega)).mono ?_
    rintro e w5 ⟨v5, f5, rfl, h5, hb5⟩
    go_wp2
    go_ret2
    exact DsfE.mk _ fl f _ fl f5 rfl (hx4.below' hb5) hfl h5 hfl (d.below hb5).below0
  | false =>
    have hs4 : ints w4 (.slice p s.length q) s fs := ints.dw hs.sl (d3.trans d4) hgf
    go_wp2_with fail
    refine (l2AnyFacts_any _ g _ s fs w4 d4.new hs4 hgf).mono ?_
    rintro e w5 ⟨v5, fl5, f5, rfl, hx5, hfl5, d5⟩
    go_wp2
    go_ret2
    exact DsfE.mk _ fl f _ fl5 f5 rfl (facts.dw hx4 d5 hgl) hfl hx5.sl hfl5 (d.trans d5).below0
def DcfE (w : World) (e : Ending) (w' : World) : Prop := ∃ (x : FactD) (v : Value) (f : List Nat) (y : FactD) (u : Value) (g : List Nat), e = .returned (.tuple #[.agg #[.int .i64 x.rel, v], .agg #[.int .i64 y.rel, u]]) ∧ I64 x.rel ∧ ints w' v x.vals f ∧ x.vals.length ≤ 4 ∧ I64 y.rel ∧ ints w' u y.vals g ∧ y.vals.length ≤ 4 ∧ Below w.heap.size w w'
theorem DcfE.mk {w : World} {e : Ending} {w' : World} (x : FactD) (v : Value) (f : List Nat) (y : FactD) (u : Value) (g : List Nat) (he : e = .returned (.tuple #[.agg #[.int .i64 x.rel, v], .agg #[.int .i64 y.rel, u]])) (h0 : I64 x.rel) (h1 : ints w' v x.vals f) (h2 : x.vals.length ≤ 4) (h00 : I64 y.rel) (h3 : ints w' u y.vals g) (h4 : y.vals.length ≤ 4) (h6 : Below w.heap.size w w') : DcfE w e w' := ⟨x, v, f, y, u, g, he, h0, h1, h2, h00, h3, h4, h6⟩
set_option maxRecDepth 100000 in
set_option maxHeartbeats 6400000 in
theorem DrawCompareFacts_any (b : Option Addr) (cap : Nat) (l : List Int) (w : World) (hl : bytesV w (.slice b l.length cap) l) (hn : l.length ≤ 1048576) :
    Calls Tryz.prog 63 #[.slice b l.length cap] w (DcfE w) := by
  have T20 := (Two.new w 79 (.int .i64 0) (.slice none 0 0)).below (ba (o := .cells #[.int .i64 0, .slice none 0 0] 79) (Below.refl _ _))
  have T30 := Two.new (w.alloc (.cells #[.int .i64 0, .slice none 0 0] 79)) 79 (.int .i64 0) (.slice none 0 0)
  have hsz : (w.alloc (.cells #[.int .i64 0, .slice none 0 0] 79)).heap.size = w.heap.size + 1 := by simp only [World.alloc, Array.size_push]
  have hsz2 : ((w.alloc (.cells #[.int .i64 0, .slice none 0 0] 79)).alloc (.cells #[.int .i64 0, .slice none 0 0] 79)).heap.size = w.heap.size + 1 + 1 := by simp only [World.alloc, Array.size_push]
  rw [hsz] at T30
  go_enter Tryz.func63, Tryz.ntmps63
  go_wp2_with fail
  refine (cNew_any b cap l _ (hl.below' (ba (ba (Below.refl _ _)))) hn).mono ?_
  rintro e w1 ⟨g, rfl, hc⟩
  go_wp2_with fail
  refine (l2Schema_any _ g w1 hc).mono ?_
  rintro e w2 ⟨sv, s, fs, rfl, hs, hsc, d2⟩
  obtain ⟨p, q, rfl⟩ := slR.form hs.sl
  have hglt := hc.lt
  have hgg := hc.hg
  have hgf : g ∉ fs := fun hm => by have := hs.fresh.2 _ hm; omega
  go_wp2_with fail
  refine (l2AnyFact_any _ g _ s fs w2 d2.new hs.sl hgf).mono ?_
  rintro e w3 ⟨x, v, fx, rfl, hr, hx, hfx, hxl, d3⟩
  obtain ⟨p1, q1, rfl⟩ := slR.form hx
  have hgx : g ∉ fx := fun hm => by have := hfx.2 _ hm; have := d2.size; omega
  have hz12 := d2.size
  have hz23 := d3.size
  have Tb3 := Two.new w3 79 (.int .i64 x.rel) (.slice p1 x.vals.length q1)
  have d23 := (d2.trans d3).al (.cells #[.int .i64 x.rel, .slice p1 x.vals.length q1] 79)
  have hsz3 : (w3.alloc (.cells #[.int .i64 x.rel, .slice p1 x.vals.length q1] 79)).heap.size = w3.heap.size + 1 := by simp only [World.alloc, Array.size_push]
  go_wp2_with fail
  refine (cOnce_any _ g 4 _ d23.new (by omega) (by omega)).mono ?_
  rintro e w4 ⟨bb, rfl, d4⟩
  have d24 := d23.trans d4
  have hz4 := d4.size
  have Tb4 := Tb3.dw d4 (by omega)
  have T24 := (T20.below hc.hb).dw d24 (by omega)
  have T34 := (T30.below hc.hb).dw d24 (by omega)
  have hx4 : ints w4 (.slice p1 x.vals.length q1) x.vals fx := ints.dw (hx.below' (ba (Below.refl _ _))) d4 hgx
  have hs4 : ints w4 (.slice p s.length q) s fs := ints.dw hs.sl (((DW.refl d2.new).trans d3).al (.cells #[.int .i64 x.rel, .slice p1 x.vals.length q1] 79) |>.trans d4) hgf
  have Tb4' := Tb4
  obtain ⟨⟨b0, b1⟩, b2, b3⟩ := Tb4'
  clear T20 T30 Tb3 d23
  cases bb with
  | true =>
    go_wp2_with fail
    go_region_held3 (fun w' => w'.cell? ⟨w3.heap.size, 0, none⟩ = some (.int .i64 x.rel) ∧ w'.cell? ⟨w3.heap.size, 1, none⟩ = some (.slice p1 x.vals.length q1)) (first | exact ⟨b0, b1⟩ | exact ⟨b50, b51⟩ | exact ⟨b60, b61⟩ | exact ⟨b70, b71⟩)
      (first
        | (go_at_call 142
           refine (l2One_any x.rel _ x.vals fx _ (hx4.below' (bdr (Below.refl _ _))) (by have := hxl.2; omega)).mono ?_
           rintro e w5 ⟨v5, fy, rfl, hy, hfy0, hb5⟩
           have d5 := (d24.new.below (bdr (Below.refl _ _))).trans ((d24.drew).new.below hb5); have hfy : Fresh w3.heap.size fy := hfy0.mono (show w3.heap.size ≤ w4.heap.size by omega); have hry := hr; have hyl := hxl.2; skip
           obtain ⟨p2, q2, rfl⟩ := slR.form hy
           have T25 := T24.dw d5 (by omega)
           have T35 := T34.dw d5 (by omega)
           have Tb5 := Tb4.dw d5 (by omega)
           skip
           obtain ⟨⟨b50, b51⟩, b52, b53⟩ := (id Tb5)
           obtain ⟨⟨r0, r1⟩, r2, r3⟩ := (id T25)
           obtain ⟨⟨r4, r5⟩, r6, r7⟩ := (id T35)
           have Tb6 := (Tb5.far (p := ⟨w.heap.size, 0, none⟩) (by show w.heap.size ≠ w3.heap.size; omega) (.int .i64 x.rel)).far (p := ⟨w.heap.size, 1, none⟩) (by show w.heap.size ≠ w3.heap.size; omega) (.slice p1 x.vals.length q1)
           have T36 := (T35.far (p := ⟨w.heap.size, 0, none⟩) (by show w.heap.size ≠ w.heap.size + 1; omega) (.int .i64 x.rel)).far (p := ⟨w.heap.size, 1, none⟩) (by show w.heap.size ≠ w.heap.size + 1; omega) (.slice p1 x.vals.length q1)
           have T26 := T25.set (.int .i64 x.rel) (.slice p1 x.vals.length q1)
           have Tb7 := (Tb6.far (p := ⟨w.heap.size + 1, 0, none⟩) (by show w.heap.size + 1 ≠ w3.heap.size; omega) (.int .i64 x.rel)).far (p := ⟨w.heap.size + 1, 1, none⟩) (by show w.heap.size + 1 ≠ w3.heap.size; omega) (.slice p2 x.vals.length q2)
           obtain ⟨⟨b60, b61⟩, b62, b63⟩ := (id Tb6)
           obtain ⟨⟨b70, b71⟩, b72, b73⟩ := (id Tb7)
           obtain ⟨⟨s4, s5⟩, s6, s7⟩ := (id T36)))
    all_goals (try go_wp2_with fail)
    have Tz3 := T36.set (.int .i64 x.rel) (.slice p2 x.vals.length q2)
    have Tz2 := (T26.far (p := ⟨w.heap.size + 1, 0, none⟩) (by show w.heap.size + 1 ≠ w.heap.size; omega) (.int .i64 x.rel)).far (p := ⟨w.heap.size + 1, 1, none⟩) (by show w.heap.size + 1 ≠ w.heap.size; omega) (.slice p2 x.vals.length q2)
    have hz := hfx.2
    have hz3 := d2.size
    have n1 : w.heap.size ∉ fx := fun hm => by have := hfx.2 _ hm; omega
    have n2 : w.heap.size + 1 ∉ fx := fun hm => by have := hfx.2 _ hm; omega
    have n3 : w.heap.size ∉ fy := fun hm => by have := hfy.2 _ hm; omega
    have n4 : w.heap.size + 1 ∉ fy := fun hm => by have := hfy.2 _ hm; omega
    have hx5 : ints w5 (.slice p1 x.vals.length q1) x.vals fx := ints.dw hx4 d5 hgx
    have HB := Lib.hid (below_two2 (g := w.heap.size + 1) (below_two2 (g := w.heap.size) (bt (ba (ba (Below.refl _ _))) (d24.trans d5).below0) (Nat.le_refl _) (.int .i64 x.rel) (.slice p1 x.vals.length q1)) (by omega) (.int .i64 x.rel) (.slice p2 x.vals.length q2))
    refine bodyPost_ret (v := .tuple #[.agg #[.int .i64 x.rel, .slice p1 x.vals.length q1], .agg #[.int .i64 x.rel, .slice p2 x.vals.length q2]]) ?_ rfl ?_
    · have L2 := load_factT Tz2
      have L3 := load_factT Tz3
      simp only [two2] at L2 L3
      rw [results_cell_cell rfl]
      simp [asAddr, Result.andThen, L2, L3]
    · exact DcfE.mk x _ fx x _ fy rfl hr (ints_two2 (ints_two2 hx5 n1 _ _) n2 _ _) hxl.2 hry (ints_two2 (ints_two2 hy n3 _ _) n4 _ _) hyl HB.out
  | false =>
    go_wp2_with fail
    go_region_held3 (fun w' => w'.cell? ⟨w3.heap.size, 0, none⟩ = some (.int .i64 x.rel) ∧ w'.cell? ⟨w3.heap.size, 1, none⟩ = some (.slice p1 x.vals.length q1)) (first | exact ⟨b0, b1⟩ | exact ⟨b50, b51⟩ | exact ⟨b60, b61⟩ | exact ⟨b70, b71⟩)
      (first
        | (go_at_call 139
           refine (l2AnyFact_any _ g _ s fs _ (d24.drew).new (hs4.below' (bdr (Below.refl _ _))) hgf).mono ?_
           rintro e w5 ⟨y, v5, fy, rfl, hry, hy, hfy0, ⟨_, hyl⟩, d5'⟩
           have d5 := (d24.new.below (bdr (Below.refl _ _))).trans d5'; have hfy : Fresh w3.heap.size fy := hfy0.mono (show w3.heap.size ≤ w4.heap.size by omega)
           obtain ⟨p2, q2, rfl⟩ := slR.form hy
           have T25 := T24.dw d5 (by omega)
           have T35 := T34.dw d5 (by omega)
           have Tb5 := Tb4.dw d5 (by omega)
           skip
           obtain ⟨⟨b50, b51⟩, b52, b53⟩ := (id Tb5)
           obtain ⟨⟨r0, r1⟩, r2, r3⟩ := (id T25)
           obtain ⟨⟨r4, r5⟩, r6, r7⟩ := (id T35)
           have Tb6 := (Tb5.far (p := ⟨w.heap.size, 0, none⟩) (by show w.heap.size ≠ w3.heap.size; omega) (.int .i64 x.rel)).far (p := ⟨w.heap.size, 1, none⟩) (by show w.heap.size ≠ w3.heap.size; omega) (.slice p1 x.vals.length q1)
           have T36 := (T35.far (p := ⟨w.heap.size, 0, none⟩) (by show w.heap.size ≠ w.heap.size + 1; omega) (.int .i64 x.rel)).far (p := ⟨w.heap.size, 1, none⟩) (by show w.heap.size ≠ w.heap.size + 1; omega) (.slice p1 x.vals.length q1)
           have T26 := T25.set (.int .i64 x.rel) (.slice p1 x.vals.length q1)
           have Tb7 := (Tb6.far (p := ⟨w.heap.size + 1, 0, none⟩) (by show w.heap.size + 1 ≠ w3.heap.size; omega) (.int .i64 y.rel)).far (p := ⟨w.heap.size + 1, 1, none⟩) (by show w.heap.size + 1 ≠ w3.heap.size; omega) (.slice p2 y.vals.length q2)
           obtain ⟨⟨b60, b61⟩, b62, b63⟩ := (id Tb6)
           obtain ⟨⟨b70, b71⟩, b72, b73⟩ := (id Tb7)
           obtain ⟨⟨s4, s5⟩, s6, s7⟩ := (id T36)))
    all_goals (try go_wp2_with fail)
    have Tz3 := T36.set (.int .i64 y.rel) (.slice p2 y.vals.length q2)
    have Tz2 := (T26.far (p := ⟨w.heap.size + 1, 0, none⟩) (by show w.heap.size + 1 ≠ w.heap.size; omega) (.int .i64 y.rel)).far (p := ⟨w.heap.size + 1, 1, none⟩) (by show w.heap.size + 1 ≠ w.heap.size; omega) (.slice p2 y.vals.length q2)
    have hz := hfx.2
    have hz3 := d2.size
    have n1 : w.heap.size ∉ fx := fun hm => by have := hfx.2 _ hm; omega
    have n2 : w.heap.size + 1 ∉ fx := fun hm => by have := hfx.2 _ hm; omega
    have n3 : w.heap.size ∉ fy := fun hm => by have := hfy.2 _ hm; omega
    have n4 : w.heap.size + 1 ∉ fy := fun hm => by have := hfy.2 _ hm; omega
    have hx5 : ints w5 (.slice p1 x.vals.length q1) x.vals fx := ints.dw hx4 d5 hgx
    have HB := Lib.hid (below_two2 (g := w.heap.size + 1) (below_two2 (g := w.heap.size) (bt (ba (ba (Below.refl _ _))) (d24.trans d5).below0) (Nat.le_refl _) (.int .i64 x.rel) (.slice p1 x.vals.length q1)) (by omega) (.int .i64 y.rel) (.slice p2 y.vals.length q2))
    refine bodyPost_ret (v := .tuple #[.agg #[.int .i64 x.rel, .slice p1 x.vals.length q1], .agg #[.int .i64 y.rel, .slice p2 y.vals.length q2]]) ?_ rfl ?_
    · have L2 := load_factT Tz2
      have L3 := load_factT Tz3
      simp only [two2] at L2 L3
      rw [results_cell_cell rfl]
      simp [asAddr, Result.andThen, L2, L3]
    · exact DcfE.mk x _ fx y _ fy rfl hr (ints_two2 (ints_two2 hx5 n1 _ _) n2 _ _) hxl.2 hry (ints_two2 (ints_two2 hy n3 _ _) n4 _ _) hyl HB.out
end Go.Proofs.YtapapnaljjnhnaaGreatDoor
