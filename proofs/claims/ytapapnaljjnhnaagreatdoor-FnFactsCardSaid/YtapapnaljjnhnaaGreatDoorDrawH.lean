/- The draws of facts. Condition: the code is no longer than 2^20. -/
import Derived.Test.YtapapnaljjnhnaaGreatDoorDrawG
namespace Go.Proofs.YtapapnaljjnhnaaGreatDoor
open Go.RowKit
set_option linter.unusedVariables false
set_option linter.unusedSimpArgs false
theorem results_tmp_cell {fn : Func} {p u : Tmp} {ty : TypeId} (h : fn.results = #[.tmp u, .cell p ty]) (tmps : Array Value) (P : Program) (w : World) :
    (results fn tmps).run P w = ((asAddr (tmps.getD p undef)).run P w).andThen fun a w₁ => ((loadVar ty a).run P w₁).andThen fun v w₂ => .ok (.tuple #[tmps.getD u undef, v]) w₂ := by
  simp only [results, h]
  simp [Sem.run_bind, Result.andThen]
theorem results_cell_cell {fn : Func} {p q : Tmp} {ty tz : TypeId} (h : fn.results = #[.cell p ty, .cell q tz]) (tmps : Array Value) (P : Program) (w : World) :
    (results fn tmps).run P w = ((asAddr (tmps.getD p undef)).run P w).andThen fun a w₁ => ((loadVar ty a).run P w₁).andThen fun v w₂ => ((asAddr (tmps.getD q undef)).run P w₂).andThen fun b w₃ => ((loadVar tz b).run P w₃).andThen fun u w₄ => .ok (.tuple #[v, u]) w₄ := by
  simp only [results, h]
  simp [Sem.run_bind, Result.andThen]
theorem load_factT {w : World} {g : Nat} {a b : Value} (h : Two w g a b) : (loadVar 79 ⟨g, 0, none⟩).run Tryz.prog w = .ok (.agg #[a, b]) w := load2 h Tryz.underlying79 rfl (by kernel_rfl)
def DsE (w : World) (e : Ending) (w' : World) : Prop := ∃ (v : Value) (s : List Int) (f : List Nat), e = .returned v ∧ ints w' v s f ∧ s.length ≤ 4 ∧ Below w.heap.size w w'
theorem DsE.mk {w : World} {e : Ending} {w' : World} (v : Value) (s : List Int) (f : List Nat) (he : e = .returned v) (h1 : ints w' v s f) (h2 : s.length ≤ 4) (h3 : Below w.heap.size w w') : DsE w e w' := ⟨v, s, f, he, h1, h2, h3⟩
set_option maxRecDepth 100000 in
theorem DrawIsSchema_any (b : Option Addr) (cap : Nat) (l : List Int) (w : World) (hl : bytesV w (.slice b l.length cap) l) (hn : l.length ≤ 1048576) :
    Calls Tryz.prog 69 #[.slice b l.length cap] w (DsE w) := by
  go_enter Tryz.func69, Tryz.ntmps69
  go_wp2_with fail
  refine (cNew_any b cap l w hl hn).mono ?_
  rintro e w1 ⟨g, rfl, hc⟩
  go_wp2_with fail
  refine (l2AnySchema_any _ g w1 hc).mono ?_
  rintro e w2 ⟨v, s, f, rfl, hs, hsl, d2⟩
  go_wp2
  go_ret
  exact DsE.mk v s f rfl hs.sl hsl.2 d2.below0
/-- A schema and a fact. -/
def DifE (w : World) (e : Ending) (w' : World) : Prop := ∃ (sv : Value) (s : List Int) (fs : List Nat) (x : FactD) (v : Value) (f : List Nat), e = .returned (.tuple #[sv, .agg #[.int .i64 x.rel, v]]) ∧ ints w' sv s fs ∧ s.length ≤ 4 ∧ I64 x.rel ∧ ints w' v x.vals f ∧ x.vals.length ≤ 4 ∧ Below w.heap.size w w'
theorem DifE.mk {w : World} {e : Ending} {w' : World} (sv : Value) (s : List Int) (fs : List Nat) (x : FactD) (v : Value) (f : List Nat) (he : e = .returned (.tuple #[sv, .agg #[.int .i64 x.rel, v]])) (h1 : ints w' sv s fs) (h2 : s.length ≤ 4) (h3 : I64 x.rel) (h4 : ints w' v x.vals f) (h5 : x.vals.length ≤ 4) (h6 : Below w.heap.size w w') : DifE w e w' := ⟨sv, s, fs, x, v, f, he, h1, h2, h3, h4, h5, h6⟩
set_option maxRecDepth 100000 in
set_option maxHeartbeats 1600000 in
theorem DrawIsFact_any (b : Option Addr) (cap : Nat) (l : List Int) (w : World) (hl : bytesV w (.slice b l.length cap) l) (hn : l.length ≤ 1048576) :
    Calls Tryz.prog 64 #[.slice b l.length cap] w (DifE w) := by
  have T0 := Two.new w 79 (.int .i64 0) (.slice none 0 0)
  have hsz : (w.alloc (.cells #[.int .i64 0, .slice none 0 0] 79)).heap.size = w.heap.size + 1 := by simp only [World.alloc, Array.size_push]
  go_enter Tryz.func64, Tryz.ntmps64
  go_wp2_with fail
  refine (cNew_any b cap l _ (hl.below' (ba (Below.refl _ _))) hn).mono ?_
  rintro e w1 ⟨g, rfl, hc⟩
  go_wp2_with fail
  refine (l2AnySchema_any _ g w1 hc).mono ?_
  rintro e w2 ⟨sv, s, fs, rfl, hs, hsl, d2⟩
  obtain ⟨p, q, rfl⟩ := slR.form hs.sl
  have hglt := hc.lt
  have hgg := hc.hg
  have hgf : g ∉ fs := fun hm => by have := hs.fresh.2 _ hm; omega
  go_wp2_with fail
  refine (l2AnyFact_any _ g _ s fs w2 d2.new hs.sl hgf).mono ?_
  rintro e w3 ⟨x, v, f, rfl, hr, hx, hfx, ⟨hx1, hx4⟩, d3⟩
  obtain ⟨p2, q2, rfl⟩ := slR.form hx
  have d := d2.trans d3
  have T3 := (T0.below hc.hb).dw d (by omega)
  have T3' := T3
  obtain ⟨⟨t0, t1⟩, v0, v1⟩ := T3'
  have hs3 : ints w3 (.slice p s.length q) s fs := ints.dw hs.sl d3 hgf
  have hlt1 : w.heap.size < w1.heap.size := by omega
  have hn1 : w.heap.size ∉ fs := fun hm => by have := hs.fresh.2 _ hm; omega
  have hz2 := d2.size
  have hn2 : w.heap.size ∉ f := fun hm => by have := hfx.2 _ hm; omega
  have HB := Lib.hid (below_two2 (g := w.heap.size) (bt (ba (Below.refl _ _)) d.below0) (Nat.le_refl _) (.int .i64 x.rel) (.slice p2 x.vals.length q2))
  clear T0 hsz
  go_wp2
  refine bodyPost_ret (v := .tuple #[.slice p s.length q, .agg #[.int .i64 x.rel, .slice p2 x.vals.length q2]]) ?_ rfl ?_
  · rw [results_tmp_cell rfl]
    simp [asAddr, Result.andThen, load_fact2 T3]
  · exact DifE.mk _ s fs x _ f rfl (ints_two2 hs3 hn1 _ _) hsl.2 hr (ints_two2 hx hn2 _ _) hx4 HB.out
/-- A schema and facts; facts and a fact; two lists of facts; two facts. -/
def DafE (w : World) (e : Ending) (w' : World) : Prop := ∃ (sv : Value) (s : List Int) (fs : List Nat) (v : Value) (l : List FactD) (f : List Nat), e = .returned (.tuple #[sv, v]) ∧ ints w' sv s fs ∧ s.length ≤ 4 ∧ facts w' v l f ∧ (l.length ≤ 9 ∧ ∀ y ∈ l, y.vals.length ≤ 4) ∧ Below w.heap.size w w'
theorem DafE.mk {w : World} {e : Ending} {w' : World} (sv : Value) (s : List Int) (fs : List Nat) (v : Value) (l : List FactD) (f : List Nat) (he : e = .returned (.tuple #[sv, v])) (h1 : ints w' sv s fs) (h2 : s.length ≤ 4) (h4 : facts w' v l f) (h5 : l.length ≤ 9 ∧ ∀ y ∈ l, y.vals.length ≤ 4) (h6 : Below w.heap.size w w') : DafE w e w' := ⟨sv, s, fs, v, l, f, he, h1, h2, h4, h5, h6⟩
set_option maxRecDepth 100000 in
set_option maxHeartbeats 1600000 in
theorem DrawAreFacts_any (b : Option Addr) (cap : Nat) (l : List Int) (w : World) (hl : bytesV w (.slice b l.length cap) l) (hn : l.length ≤ 1048576) :
    Calls Tryz.prog 67 #[.slice b l.length cap] w (DafE w) := by
  go_enter Tryz.func67, Tryz.ntmps67
  go_wp2_with fail
  refine (cNew_any b cap l _ hl hn).mono ?_
  rintro e w1 ⟨g, rfl, hc⟩
  go_wp2_with fail
  refine (l2AnySchema_any _ g w1 hc).mono ?_
  rintro e w2 ⟨sv, s, fs, rfl, hs, hsl, d2⟩
  obtain ⟨p, q, rfl⟩ := slR.form hs.sl
  have hglt := hc.lt
  have hgf : g ∉ fs := fun hm => by have := hs.fresh.2 _ hm; omega
  go_wp2_with fail
  refine (l2AnyFacts_any _ g _ s fs w2 d2.new hs.sl hgf).mono ?_
  rintro e w3 ⟨v, fl, f, rfl, hx, hfl, d3⟩
  have hs3 : ints w3 (.slice p s.length q) s fs := ints.dw hs.sl d3 hgf
  go_wp2
  go_ret2
  exact DafE.mk _ s fs _ fl f rfl hs3 hsl.2 hx.sl hfl (d2.trans d3).below0
def DadE (w : World) (e : Ending) (w' : World) : Prop := ∃ (v : Value) (l : List FactD) (fl : List Nat) (x : FactD) (vx : Value) (fx : List Nat), e = .returned (.tuple #[v, .agg #[.int .i64 x.rel, vx]]) ∧ facts w' v l fl ∧ (l.length ≤ 9 ∧ ∀ y ∈ l, y.vals.length ≤ 4) ∧ I64 x.rel ∧ ints w' vx x.vals fx ∧ x.vals.length ≤ 4 ∧ Below w.heap.size w w'
theorem DadE.mk {w : World} {e : Ending} {w' : World} (v : Value) (l : List FactD) (fl : List Nat) (x : FactD) (vx : Value) (fx : List Nat) (he : e = .returned (.tuple #[v, .agg #[.int .i64 x.rel, vx]])) (h1 : facts w' v l fl) (h2 : l.length ≤ 9 ∧ ∀ y ∈ l, y.vals.length ≤ 4) (h3 : I64 x.rel) (h4 : ints w' vx x.vals fx) (h5 : x.vals.length ≤ 4) (h6 : Below w.heap.size w w') : DadE w e w' := ⟨v, l, fl, x, vx, fx, he, h1, h2, h3, h4, h5, h6⟩
theorem facts_two2 {w : World} {v : Value} {l : List FactD} {f : List Nat} {g : Nat} (h : facts w v l f) (hg : g ∉ f) (a b : Value) : facts (two2 w g a b) v l f := (h.far (p := ⟨g, 0, none⟩) hg a).far (p := ⟨g, 1, none⟩) hg b
theorem facts.dw {w0 w w1 : World} {g : Nat} {v : Value} {l : List FactD} {f : List Nat} (h : facts w v l f) (d : DW w0 g w w1) (hg : g ∉ f) : facts w1 v l f := slR.dw good_fact h d hg
set_option maxRecDepth 100000 in
set_option maxHeartbeats 1600000 in
theorem DrawAddFact_any (b : Option Addr) (cap : Nat) (l : List Int) (w : World) (hl : bytesV w (.slice b l.length cap) l) (hn : l.length ≤ 1048576) :
    Calls Tryz.prog 57 #[.slice b l.length cap] w (DadE w) := by
  have T0 := Two.new w 79 (.int .i64 0) (.slice none 0 0)
  have hsz : (w.alloc (.cells #[.int .i64 0, .slice none 0 0] 79)).heap.size = w.heap.size + 1 := by simp only [World.alloc, Array.size_push]
  go_enter Tryz.func57, Tryz.ntmps57
  go_wp2_with fail
  refine (cNew_any b cap l _ (hl.below' (ba (Below.refl _ _))) hn).mono ?_
  rintro e w1 ⟨g, rfl, hc⟩
  go_wp2_with fail
  refine (l2Schema_any _ g w1 hc).mono ?_
  rintro e w2 ⟨sv, s, fs, rfl, hs, hsc, d2⟩
  obtain ⟨p, q, rfl⟩ := slR.form hs.sl
  have hglt := hc.lt
  have hgg := hc.hg
  have hgf : g ∉ fs := fun hm => by have := hs.fresh.2 _ hm; omega
  go_wp2_with fail
  refine (l2AnyFacts_any _ g _ s fs w2 d2.new hs.sl hgf).mono ?_
  rintro e w3 ⟨v, fl, f, rfl, hx, hfl, d3⟩
  obtain ⟨p1, q1, rfl⟩ := slR.form hx.sl
  have hgl : g ∉ f := fun hm => by have := hx.fresh.2 _ hm; have := d2.size; omega
  have hn1 : w.heap.size ∉ f := fun hm => by have := hx.fresh.2 _ hm; have := d2.size; omega
  go_wp2_with fail
  refine (cOnce_any _ g 2 _ d3.new (by omega) (by omega)).mono ?_
  rintro e w4 ⟨bb, rfl, d4⟩
  have hs4 : ints w4 (.slice p s.length q) s fs := ints.dw hs.sl (d3.trans d4) hgf
  cases bb with
  | true =>
    go_wp2_with fail
    refine (l2Fact_any _ g _ s fs 4 w4 d4.new hs4 hgf hsc (by omega) (by omega)).mono ?_
    rintro e w5 ⟨x, vx, fx, rfl, hr, hvx, ⟨hx1, hx3⟩, d5⟩
    have hfx := hvx.fresh
    have hix := hvx.sl
    have hzz : True ∧ True := ⟨trivial, trivial⟩
    obtain ⟨p2, q2, rfl⟩ := slR.form hix
    have dd := d3.trans (d4.trans d5)
    have T5 := (T0.below hc.hb).dw (d2.trans dd) (by omega)
    have T5' := T5
    obtain ⟨⟨t0, t1⟩, v0, v1⟩ := T5'
    have hx5 : facts w5 (.slice p1 fl.length q1) fl f := facts.dw hx.sl (d4.trans d5) hgl
    have hn2 : w.heap.size ∉ fx := fun hm => by have := hfx.2 _ hm; have := d2.size; have := d3.size; have := d4.size; omega
    have HB := Lib.hid (below_two2 (g := w.heap.size) (bt (ba (Below.refl _ _)) (d2.trans dd).below0) (Nat.le_refl _) (.int .i64 x.rel) (.slice p2 x.vals.length q2))
    clear T0 hsz
    go_wp2
    refine bodyPost_ret (v := .tuple #[.slice p1 fl.length q1, .agg #[.int .i64 x.rel, .slice p2 x.vals.length q2]]) ?_ rfl ?_
    · rw [results_tmp_cell rfl]
      simp [asAddr, Result.andThen, load_fact2 T5]
    · exact DadE.mk _ fl f x _ fx rfl (facts_two2 hx5 hn1 _ _) hfl hr (ints_two2 (hix) hn2 _ _) (by omega) HB.out
  | false =>
    go_wp2_with fail
    refine (l2AnyFact_any _ g _ s fs w4 d4.new hs4 hgf).mono ?_
    rintro e w5 ⟨x, vx, fx, rfl, hr, hix, hfx, ⟨hx1, hx4⟩, d5⟩
    obtain ⟨p2, q2, rfl⟩ := slR.form hix
    have dd := d3.trans (d4.trans d5)
    have T5 := (T0.below hc.hb).dw (d2.trans dd) (by omega)
    have T5' := T5
    obtain ⟨⟨t0, t1⟩, v0, v1⟩ := T5'
    have hx5 : facts w5 (.slice p1 fl.length q1) fl f := facts.dw hx.sl (d4.trans d5) hgl
    have hn2 : w.heap.size ∉ fx := fun hm => by have := hfx.2 _ hm; have := d2.size; have := d3.size; have := d4.size; omega
    have HB := Lib.hid (below_two2 (g := w.heap.size) (bt (ba (Below.refl _ _)) (d2.trans dd).below0) (Nat.le_refl _) (.int .i64 x.rel) (.slice p2 x.vals.length q2))
    clear T0 hsz
    go_wp2
    refine bodyPost_ret (v := .tuple #[.slice p1 fl.length q1, .agg #[.int .i64 x.rel, .slice p2 x.vals.length q2]]) ?_ rfl ?_
    · rw [results_tmp_cell rfl]
      simp [asAddr, Result.andThen, load_fact2 T5]
    · exact DadE.mk _ fl f x _ fx rfl (facts_two2 hx5 hn1 _ _) hfl hr (ints_two2 (hix) hn2 _ _) (by omega) HB.out
end Go.Proofs.YtapapnaljjnhnaaGreatDoor
