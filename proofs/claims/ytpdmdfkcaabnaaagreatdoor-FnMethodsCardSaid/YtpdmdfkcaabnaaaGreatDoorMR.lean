/- Several of my texts as one: DrawG, DrawH, DrawQ, DrawR, DrawS, DrawT. -/
import Derived.Test.YtpdmdfkcaabnaaaGreatDoorDrawF
import Derived.Test.YtpdmdfkcaabnaaaGreatDoorFaL
import Derived.Test.YtpdmdfkcaabnaaaGreatDoorVarsS
import Derived.Deep.Cut
import Derived.Deep.CutBlock
import Derived.Test.YtpdmdfkcaabnaaaGreatDoorFmtQ
/- Lists of facts that the reference draws; the draws of facts. Condition: the code is no longer than 2^20. -/
namespace Go.Proofs.YtpdmdfkcaabnaaaGreatDoor
open Go.RowKit
set_option linter.unusedVariables false
set_option linter.unusedSimpArgs false
/-- What a draw of facts ends in. -/
def FtsE (P : List FactD → Prop) (w0 : World) (g : Nat) (w : World) (e : Ending) (w' : World) : Prop := ∃ (v : Value) (l : List FactD) (f : List Nat), e = .returned v ∧ grR 79 2 factR w.heap.size w' v l f ∧ P l ∧ DW w0 g w w'
theorem FtsE.mk {P : List FactD → Prop} {w0 : World} {g : Nat} {w : World} {e : Ending} {w' : World} (v : Value) (l : List FactD) (f : List Nat) (he : e = .returned v) (h1 : grR 79 2 factR w.heap.size w' v l f) (h2 : P l) (h3 : DW w0 g w w') : FtsE P w0 g w e w' := ⟨v, l, f, he, h1, h2, h3⟩
theorem addFact_vals {l : List FactD} {x : FactD} {n : Nat} (h : ∀ y ∈ l, y.vals.length ≤ n) (hx : x.vals.length ≤ n) : ∀ y ∈ addFactL l x, y.vals.length ≤ n := by
  intro y hy
  rcases (addC_mem cmp_facts l x y).1 hy with h1 | h1
  · exact h y h1
  · rw [h1]; exact hx
theorem addFact_len1 (l : List FactD) (x : FactD) : (addFactL l x).length ≤ l.length + 1 := by rw [addFact_length]; split <;> omega
set_option maxRecDepth 100000 in
set_option maxHeartbeats 3200000 in
theorem l2Facts_any (w0 : World) (g : Nat) (sv : Value) (s : List Int) (fs : List Nat) (most : Nat) (w : World) (h : CuW w0 g w) (hs : ints w sv s fs) (hgf : g ∉ fs) (hsc : schemaB s = true) (hm : most ≤ 100) :
    Calls Tryz.prog 154 #[.pointer (some ⟨g, 0, none⟩), sv, .int .i64 (most : Int)] w (FtsE (fun l => l.length ≤ most ∧ ∀ y ∈ l, y.vals.length ≤ 3) w0 g w) := by
  obtain ⟨ps, qs, rfl⟩ := slR.form hs
  have hglt := h.lt
  have hal := (DW.refl h).al (.cells #[] 79)
  have hg0 := grR.lit (w := w) (B := w.heap.size) (E := 79) (sz := 2) factR (Nat.le_refl _) (Nat.le_refl _)
  go_enter Tryz.func154, Tryz.ntmps154
  go_wp2_with fail
  refine (cBelow_any w0 g ((most : Int) + 1) _ hal.new (by omega) (by omega)).mono ?_
  rintro e w1 ⟨n0, rfl, ⟨hn0, hn1⟩, hd1⟩
  have hd := hal.trans hd1
  have hg1 := hg0.dw good_fact hd1 hglt
  obtain ⟨n1, rfl⟩ := Int.eq_ofNat_of_zero_le hn0
  clear hg0 hal hd1
  go_wp2
  go_loopw [7, 8] (fun v x wr => ∃ (k : Nat) (l : List FactD) (f : List Nat), x = .int .i64 (k : Int) ∧ l.length + k ≤ most ∧ Hid (∀ y ∈ l, y.vals.length ≤ 3) ∧ grR 79 2 factR w.heap.size wr v l f ∧ DW w0 g w wr) (fun _ x _ => (intOf x).toNat)
  case atStart => exact ⟨n1, [], _, rfl, by simp; omega, Lib.hid (by simp), hg1, hd⟩
  case round =>
    obtain ⟨k, l, f, rfl, hlk, HL, hgr, hdr⟩ := hrel
    obtain ⟨p, q, rfl⟩ := slR.form hgr.sl
    by_cases hk : 0 < k
    · have hki : (0 : Int) < (k : Int) := by omega
      have hs1 := hs.dw hdr hgf
      go_wp2_with fail
      refine (l2Fact_any w0 g _ s fs 4 _ hdr.new hs1 hgf hsc (by omega) (by omega)).mono ?_
      rintro e w2 ⟨x, v, fx, rfl, hr, hx, ⟨hx1, hx3⟩, hd2⟩
      have hgr2 := hgr.dw good_fact hd2 hglt
      have hdr2 := hdr.trans hd2
      obtain ⟨p2, q2, rfl⟩ := slR.form hx.sl
      have HL2 := Lib.hid (addFact_vals HL.out hx3)
      have HN := Lib.hid (addFact_len1 l x)
      go_wp2_with fail
      refine (specAddFact_own _ l f x _ fx w2 hgr2.sl hx.sl hr (by omega) (fun y hy => by have := HL.out y hy; omega) (by omega)).mono ?_
      rintro e w3 ⟨v3, f3, rfl, hg3, hb3⟩
      have hdr3 := hdr2.below hb3
      go_wp2
      go_roundw
      case rel => exact ⟨k - 1, addFactL l x, f3, by go_num, by have := HN.out; omega, HL2, hg3.less hdr2.size, hdr3⟩
      case measure => simp [intOf]; omega
    · have hki : ¬ (0 : Int) < (k : Int) := by omega
      have HE := Lib.hid (show l.length ≤ most ∧ ∀ y ∈ l, y.vals.length ≤ 3 from ⟨by omega, HL.out⟩)
      go_wp2
      go_ret
      exact FtsE.mk _ l f rfl hgr HE.out hdr
set_option maxRecDepth 100000 in
set_option maxHeartbeats 3200000 in
theorem l2AnyFacts_any (w0 : World) (g : Nat) (sv : Value) (s : List Int) (fs : List Nat) (w : World) (h : CuW w0 g w) (hs : ints w sv s fs) (hgf : g ∉ fs) :
    Calls Tryz.prog 137 #[.pointer (some ⟨g, 0, none⟩), sv] w (FtsE (fun l => l.length ≤ 9 ∧ ∀ y ∈ l, y.vals.length ≤ 4) w0 g w) := by
  obtain ⟨ps, qs, rfl⟩ := slR.form hs
  have hglt := h.lt
  have D1 := (DW.refl h).al (.cells #[] 79)
  have G1 := grR.lit (w := w) (B := w.heap.size) (E := 79) (sz := 2) factR (Nat.le_refl _) (Nat.le_refl _)
  have hs1 := hs.dw D1 hgf
  go_enter Tryz.func137, Tryz.ntmps137
  go_wp2_with fail
  refine (specIsSchema_any _ s fs _ hs1).mono ?_
  rintro e _ ⟨rfl, rfl⟩
  have tail : ∀ (W : World) (l : List FactD) (f : List Nat) (v : Value), True := fun _ _ _ _ => trivial
  cases hsc : schemaB s with

  | false =>
    have D := D1
    have G := G1
    have HL := Lib.hid (show ([] : List FactD).length ≤ 8 ∧ ∀ y ∈ ([] : List FactD), y.vals.length ≤ 3 by simp)
    obtain ⟨f, hf⟩ : ∃ f, f = [w.heap.size] := ⟨_, rfl⟩
    rw [← hf] at G
    clear D1 G1 hs1 tail hf
    go_wp2_with fail
    refine (cOnce_any w0 g 10 _ D.new (by omega) (by omega)).mono ?_
    rintro e w3 ⟨b, rfl, hd3⟩
    have D3 := D.trans hd3
    have G3 := G.dw good_fact hd3 hglt
    clear D G hd3
    cases b with
    | false =>
      go_wp2
      go_ret
      exact FtsE.mk _ ([] : List FactD) f rfl G3 ⟨by have := HL.out.1; omega, fun y hy => by have := HL.out.2 y hy; omega⟩ D3
    | true =>
      go_wp2_with fail
      refine (l2AnyFact_any w0 g _ s fs _ D3.new (hs.dw D3 hgf) hgf).mono ?_
      rintro e w4 ⟨x, vx, fx, rfl, hr, hx, hfx, ⟨hx1, hx4⟩, hd4⟩
      have D4 := D3.trans hd4
      have G4 := G3.dw good_fact hd4 hglt
      obtain ⟨p2, q2, rfl⟩ := slR.form hx
      have hdis : ∀ j ∈ fx, j ∉ f := fun j hj hm => by have h1 := hfx.2 j hj; have h2 := G3.lt good_fact j hm; omega
      have hlen : (([] : List FactD)).length ≤ 8 := HL.out.1
      have hfx2 : Fresh w.heap.size fx := hfx.mono D3.size
      clear G3 D3 hd4 hfx
      go_wp2_with (at_builtin; refine wpList_draw slFactS good_fact rfl _ _ rfl G4 D4 (Nat.le_refl _) D4.size rfl #[.int .i64 x.rel, .slice p2 x.vals.length q2] x fx ⟨_, rfl, hr, hx⟩ rfl hfx2 hdis rfl (by simp [Value.oneCell']) (by omega) (by unfold maxLen; omega) ?_; intro g5 cap5 w5 f5 G5 D5 gb5 mm5)
      go_ret
      exact FtsE.mk _ (([] : List FactD) ++ [x]) f5 rfl (by simpa using G5) ⟨by first | (simp; done) | (simp; omega), fun y hy => (List.mem_append.1 hy).elim (fun h => by have := HL.out.2 y h; omega) fun h => by rw [List.mem_singleton.1 h]; exact hx4⟩ D5
  | true =>
    go_wp2_with fail
    refine (l2Facts_any w0 g _ s fs 8 _ D1.new hs1 hgf hsc (by omega)).mono ?_
    rintro e w2 ⟨v, l, f, rfl, G2, hl, D2⟩
    have D := D1.trans D2
    have G := G2.less D1.size
    have HL := Lib.hid hl
    obtain ⟨p0, q0, rfl⟩ := slR.form G.sl
    clear D1 G1 hs1 tail D2 G2 hl
    go_wp2_with fail
    refine (cOnce_any w0 g 10 _ D.new (by omega) (by omega)).mono ?_
    rintro e w3 ⟨b, rfl, hd3⟩
    have D3 := D.trans hd3
    have G3 := G.dw good_fact hd3 hglt
    clear D G hd3
    cases b with
    | false =>
      go_wp2
      go_ret
      exact FtsE.mk _ l f rfl G3 ⟨by have := HL.out.1; omega, fun y hy => by have := HL.out.2 y hy; omega⟩ D3
    | true =>
      go_wp2_with fail
      refine (l2AnyFact_any w0 g _ s fs _ D3.new (hs.dw D3 hgf) hgf).mono ?_
      rintro e w4 ⟨x, vx, fx, rfl, hr, hx, hfx, ⟨hx1, hx4⟩, hd4⟩
      have D4 := D3.trans hd4
      have G4 := G3.dw good_fact hd4 hglt
      obtain ⟨p2, q2, rfl⟩ := slR.form hx
      have hdis : ∀ j ∈ fx, j ∉ f := fun j hj hm => by have h1 := hfx.2 j hj; have h2 := G3.lt good_fact j hm; omega
      have hlen : (l).length ≤ 8 := HL.out.1
      have hfx2 : Fresh w.heap.size fx := hfx.mono D3.size
      clear G3 D3 hd4 hfx
      go_wp2_with (at_builtin; refine wpList_draw slFactS good_fact rfl _ _ rfl G4 D4 (Nat.le_refl _) D4.size rfl #[.int .i64 x.rel, .slice p2 x.vals.length q2] x fx ⟨_, rfl, hr, hx⟩ rfl hfx2 hdis rfl (by simp [Value.oneCell']) (by omega) (by unfold maxLen; omega) ?_; intro g5 cap5 w5 f5 G5 D5 gb5 mm5)
      go_ret
      exact FtsE.mk _ (l ++ [x]) f5 rfl (by simpa using G5) ⟨by first | (simp; done) | (simp; omega), fun y hy => (List.mem_append.1 hy).elim (fun h => by have := HL.out.2 y h; omega) fun h => by rw [List.mem_singleton.1 h]; exact hx4⟩ D5
end Go.Proofs.YtpdmdfkcaabnaaaGreatDoor
/- The draws of facts. Condition: the code is no longer than 2^20. -/
namespace Go.Proofs.YtpdmdfkcaabnaaaGreatDoor
open Go.RowKit
set_option linter.unusedVariables false
set_option linter.unusedSimpArgs false
theorem results_tmp_cell {fn : Func} {p u : Tmp} {ty : TypeId} (h : fn.results = #[.tmp u, .cell p ty]) (tmps : Array Value) (P : Program) (w : World) :
    (results fn tmps).run P w = ((asAddr (tmps.getD p undef)).run P w).andThen fun a w₁ => ((loadVar ty a).run P w₁).andThen fun v w₂ => .ok (.tuple #[tmps.getD u undef, v]) w₂ := by
  simp only [results, h]
  simp [Sem.run_bind, Result.andThen]
theorem results_cell_cell {fn : Func} {p q : Tmp} {ty tz : TypeId} (h : fn.results = #[.cell p ty, .cell q tz]) (tmps : Array Value) (P : Program) (w : World) :
    (results fn tmps).run P w = ((asAddr (tmps.getD p undef)).run P w).andThen fun a w₁ => ((loadVar ty a).run P w₁).andThen fun v w₂ => ((asAddr (tmps.getD q undef)).run P w₂).andThen fun b w₃ => ((loadVar tz b).run P w₃).andThen fun u w₄ => .ok (.tuple #[v, u]) w₄ := by
  simp only [results, h]
  simp [Sem.run_bind, Result.andThen]
theorem load_factT {w : World} {g : Nat} {a b : Value} (h : Two w g a b) : (loadVar 79 ⟨g, 0, none⟩).run Tryz.prog w = .ok (.agg #[a, b]) w := load2 h Tryz.underlying79 rfl (by kernel_rfl)
def DsE (w : World) (e : Ending) (w' : World) : Prop := ∃ (v : Value) (s : List Int) (f : List Nat), e = .returned v ∧ ints w' v s f ∧ s.length ≤ 4 ∧ Below w.heap.size w w'
theorem DsE.mk {w : World} {e : Ending} {w' : World} (v : Value) (s : List Int) (f : List Nat) (he : e = .returned v) (h1 : ints w' v s f) (h2 : s.length ≤ 4) (h3 : Below w.heap.size w w') : DsE w e w' := ⟨v, s, f, he, h1, h2, h3⟩
set_option maxRecDepth 100000 in
theorem DrawIsSchema_any (b : Option Addr) (cap : Nat) (l : List Int) (w : World) (hl : bytesV w (.slice b l.length cap) l) (hn : l.length ≤ 1048576) :
    Calls Tryz.prog 69 #[.slice b l.length cap] w (DsE w) := by
  go_enter Tryz.func69, Tryz.ntmps69
  go_wp2_with fail
  refine (cNew_any b cap l w hl hn).mono ?_
  rintro e w1 ⟨g, rfl, hc⟩
  go_wp2_with fail
  refine (l2AnySchema_any _ g w1 hc).mono ?_
  rintro e w2 ⟨v, s, f, rfl, hs, hsl, d2⟩
  go_wp2
  go_ret
  exact DsE.mk v s f rfl hs.sl hsl.2 d2.below0
/-- A schema and a fact. -/
def DifE (w : World) (e : Ending) (w' : World) : Prop := ∃ (sv : Value) (s : List Int) (fs : List Nat) (x : FactD) (v : Value) (f : List Nat), e = .returned (.tuple #[sv, .agg #[.int .i64 x.rel, v]]) ∧ ints w' sv s fs ∧ s.length ≤ 4 ∧ I64 x.rel ∧ ints w' v x.vals f ∧ x.vals.length ≤ 4 ∧ Below w.heap.size w w'
theorem DifE.mk {w : World} {e : Ending} {w' : World} (sv : Value) (s : List Int) (fs : List Nat) (x : FactD) (v : Value) (f : List Nat) (he : e = .returned (.tuple #[sv, .agg #[.int .i64 x.rel, v]])) (h1 : ints w' sv s fs) (h2 : s.length ≤ 4) (h3 : I64 x.rel) (h4 : ints w' v x.vals f) (h5 : x.vals.length ≤ 4) (h6 : Below w.heap.size w w') : DifE w e w' := ⟨sv, s, fs, x, v, f, he, h1, h2, h3, h4, h5, h6⟩
set_option maxRecDepth 100000 in
set_option maxHeartbeats 1600000 in
theorem DrawIsFact_any (b : Option Addr) (cap : Nat) (l : List Int) (w : World) (hl : bytesV w (.slice b l.length cap) l) (hn : l.length ≤ 1048576) :
    Calls Tryz.prog 64 #[.slice b l.length cap] w (DifE w) := by
  have T0 := Two.new w 79 (.int .i64 0) (.slice none 0 0)
  have hsz : (w.alloc (.cells #[.int .i64 0, .slice none 0 0] 79)).heap.size = w.heap.size + 1 := by simp only [World.alloc, Array.size_push]
  go_enter Tryz.func64, Tryz.ntmps64
  go_wp2_with fail
  refine (cNew_any b cap l _ (hl.below' (ba (Below.refl _ _))) hn).mono ?_
  rintro e w1 ⟨g, rfl, hc⟩
  go_wp2_with fail
  refine (l2AnySchema_any _ g w1 hc).mono ?_
  rintro e w2 ⟨sv, s, fs, rfl, hs, hsl, d2⟩
  obtain ⟨p, q, rfl⟩ := slR.form hs.sl
  have hglt := hc.lt
  have hgg := hc.hg
  have hgf : g ∉ fs := fun hm => by have := hs.fresh.2 _ hm; omega
  go_wp2_with fail
  refine (l2AnyFact_any _ g _ s fs w2 d2.new hs.sl hgf).mono ?_
  rintro e w3 ⟨x, v, f, rfl, hr, hx, hfx, ⟨hx1, hx4⟩, d3⟩
  obtain ⟨p2, q2, rfl⟩ := slR.form hx
  have d := d2.trans d3
  have T3 := (T0.below hc.hb).dw d (by omega)
  have T3' := T3
  obtain ⟨⟨t0, t1⟩, v0, v1⟩ := T3'
  have hs3 : ints w3 (.slice p s.length q) s fs := ints.dw hs.sl d3 hgf
  have hlt1 : w.heap.size < w1.heap.size := by omega
  have hn1 : w.heap.size ∉ fs := fun hm => by have := hs.fresh.2 _ hm; omega
  have hz2 := d2.size
  have hn2 : w.heap.size ∉ f := fun hm => by have := hfx.2 _ hm; omega
  have HB := Lib.hid (below_two2 (g := w.heap.size) (bt (ba (Below.refl _ _)) d.below0) (Nat.le_refl _) (.int .i64 x.rel) (.slice p2 x.vals.length q2))
  clear T0 hsz
  go_wp2
  refine bodyPost_ret (v := .tuple #[.slice p s.length q, .agg #[.int .i64 x.rel, .slice p2 x.vals.length q2]]) ?_ rfl ?_
  · rw [results_tmp_cell rfl]
    simp [asAddr, Result.andThen, load_fact2 T3]
  · exact DifE.mk _ s fs x _ f rfl (ints_two2 hs3 hn1 _ _) hsl.2 hr (ints_two2 hx hn2 _ _) hx4 HB.out
/-- A schema and facts; facts and a fact; two lists of facts; two facts. -/
def DafE (w : World) (e : Ending) (w' : World) : Prop := ∃ (sv : Value) (s : List Int) (fs : List Nat) (v : Value) (l : List FactD) (f : List Nat), e = .returned (.tuple #[sv, v]) ∧ ints w' sv s fs ∧ s.length ≤ 4 ∧ facts w' v l f ∧ (l.length ≤ 9 ∧ ∀ y ∈ l, y.vals.length ≤ 4) ∧ Below w.heap.size w w'
theorem DafE.mk {w : World} {e : Ending} {w' : World} (sv : Value) (s : List Int) (fs : List Nat) (v : Value) (l : List FactD) (f : List Nat) (he : e = .returned (.tuple #[sv, v])) (h1 : ints w' sv s fs) (h2 : s.length ≤ 4) (h4 : facts w' v l f) (h5 : l.length ≤ 9 ∧ ∀ y ∈ l, y.vals.length ≤ 4) (h6 : Below w.heap.size w w') : DafE w e w' := ⟨sv, s, fs, v, l, f, he, h1, h2, h4, h5, h6⟩
set_option maxRecDepth 100000 in
set_option maxHeartbeats 1600000 in
theorem DrawAreFacts_any (b : Option Addr) (cap : Nat) (l : List Int) (w : World) (hl : bytesV w (.slice b l.length cap) l) (hn : l.length ≤ 1048576) :
    Calls Tryz.prog 67 #[.slice b l.length cap] w (DafE w) := by
  go_enter Tryz.func67, Tryz.ntmps67
  go_wp2_with fail
  refine (cNew_any b cap l _ hl hn).mono ?_
  rintro e w1 ⟨g, rfl, hc⟩
  go_wp2_with fail
  refine (l2AnySchema_any _ g w1 hc).mono ?_
  rintro e w2 ⟨sv, s, fs, rfl, hs, hsl, d2⟩
  obtain ⟨p, q, rfl⟩ := slR.form hs.sl
  have hglt := hc.lt
  have hgf : g ∉ fs := fun hm => by have := hs.fresh.2 _ hm; omega
  go_wp2_with fail
  refine (l2AnyFacts_any _ g _ s fs w2 d2.new hs.sl hgf).mono ?_
  rintro e w3 ⟨v, fl, f, rfl, hx, hfl, d3⟩
  have hs3 : ints w3 (.slice p s.length q) s fs := ints.dw hs.sl d3 hgf
  go_wp2
  go_ret2
  exact DafE.mk _ s fs _ fl f rfl hs3 hsl.2 hx.sl hfl (d2.trans d3).below0
def DadE (w : World) (e : Ending) (w' : World) : Prop := ∃ (v : Value) (l : List FactD) (fl : List Nat) (x : FactD) (vx : Value) (fx : List Nat), e = .returned (.tuple #[v, .agg #[.int .i64 x.rel, vx]]) ∧ facts w' v l fl ∧ (l.length ≤ 9 ∧ ∀ y ∈ l, y.vals.length ≤ 4) ∧ I64 x.rel ∧ ints w' vx x.vals fx ∧ x.vals.length ≤ 4 ∧ Below w.heap.size w w'
theorem DadE.mk {w : World} {e : Ending} {w' : World} (v : Value) (l : List FactD) (fl : List Nat) (x : FactD) (vx : Value) (fx : List Nat) (he : e = .returned (.tuple #[v, .agg #[.int .i64 x.rel, vx]])) (h1 : facts w' v l fl) (h2 : l.length ≤ 9 ∧ ∀ y ∈ l, y.vals.length ≤ 4) (h3 : I64 x.rel) (h4 : ints w' vx x.vals fx) (h5 : x.vals.length ≤ 4) (h6 : Below w.heap.size w w') : DadE w e w' := ⟨v, l, fl, x, vx, fx, he, h1, h2, h3, h4, h5, h6⟩
theorem facts_two2 {w : World} {v : Value} {l : List FactD} {f : List Nat} {g : Nat} (h : facts w v l f) (hg : g ∉ f) (a b : Value) : facts (two2 w g a b) v l f := (h.far (p := ⟨g, 0, none⟩) hg a).far (p := ⟨g, 1, none⟩) hg b
theorem facts.dw {w0 w w1 : World} {g : Nat} {v : Value} {l : List FactD} {f : List Nat} (h : facts w v l f) (d : DW w0 g w w1) (hg : g ∉ f) : facts w1 v l f := slR.dw good_fact h d hg
set_option maxRecDepth 100000 in
set_option maxHeartbeats 1600000 in
theorem DrawAddFact_any (b : Option Addr) (cap : Nat) (l : List Int) (w : World) (hl : bytesV w (.slice b l.length cap) l) (hn : l.length ≤ 1048576) :
    Calls Tryz.prog 57 #[.slice b l.length cap] w (DadE w) := by
  have T0 := Two.new w 79 (.int .i64 0) (.slice none 0 0)
  have hsz : (w.alloc (.cells #[.int .i64 0, .slice none 0 0] 79)).heap.size = w.heap.size + 1 := by simp only [World.alloc, Array.size_push]
  go_enter Tryz.func57, Tryz.ntmps57
  go_wp2_with fail
  refine (cNew_any b cap l _ (hl.below' (ba (Below.refl _ _))) hn).mono ?_
  rintro e w1 ⟨g, rfl, hc⟩
  go_wp2_with fail
  refine (l2Schema_any _ g w1 hc).mono ?_
  rintro e w2 ⟨sv, s, fs, rfl, hs, hsc, d2⟩
  obtain ⟨p, q, rfl⟩ := slR.form hs.sl
  have hglt := hc.lt
  have hgg := hc.hg
  have hgf : g ∉ fs := fun hm => by have := hs.fresh.2 _ hm; omega
  go_wp2_with fail
  refine (l2AnyFacts_any _ g _ s fs w2 d2.new hs.sl hgf).mono ?_
  rintro e w3 ⟨v, fl, f, rfl, hx, hfl, d3⟩
  obtain ⟨p1, q1, rfl⟩ := slR.form hx.sl
  have hgl : g ∉ f := fun hm => by have := hx.fresh.2 _ hm; have := d2.size; omega
  have hn1 : w.heap.size ∉ f := fun hm => by have := hx.fresh.2 _ hm; have := d2.size; omega
  go_wp2_with fail
  refine (cOnce_any _ g 2 _ d3.new (by omega) (by omega)).mono ?_
  rintro e w4 ⟨bb, rfl, d4⟩
  have hs4 : ints w4 (.slice p s.length q) s fs := ints.dw hs.sl (d3.trans d4) hgf
  cases bb with
  | true =>
    go_wp2_with fail
    refine (l2Fact_any _ g _ s fs 4 w4 d4.new hs4 hgf hsc (by omega) (by omega)).mono ?_
    rintro e w5 ⟨x, vx, fx, rfl, hr, hvx, ⟨hx1, hx3⟩, d5⟩
    have hfx := hvx.fresh
    have hix := hvx.sl
    have hzz : True ∧ True := ⟨trivial, trivial⟩
    obtain ⟨p2, q2, rfl⟩ := slR.form hix
    have dd := d3.trans (d4.trans d5)
    have T5 := (T0.below hc.hb).dw (d2.trans dd) (by omega)
    have T5' := T5
    obtain ⟨⟨t0, t1⟩, v0, v1⟩ := T5'
    have hx5 : facts w5 (.slice p1 fl.length q1) fl f := facts.dw hx.sl (d4.trans d5) hgl
    have hn2 : w.heap.size ∉ fx := fun hm => by have := hfx.2 _ hm; have := d2.size; have := d3.size; have := d4.size; omega
    have HB := Lib.hid (below_two2 (g := w.heap.size) (bt (ba (Below.refl _ _)) (d2.trans dd).below0) (Nat.le_refl _) (.int .i64 x.rel) (.slice p2 x.vals.length q2))
    clear T0 hsz
    go_wp2
    refine bodyPost_ret (v := .tuple #[.slice p1 fl.length q1, .agg #[.int .i64 x.rel, .slice p2 x.vals.length q2]]) ?_ rfl ?_
    · rw [results_tmp_cell rfl]
      simp [asAddr, Result.andThen, load_fact2 T5]
    · exact DadE.mk _ fl f x _ fx rfl (facts_two2 hx5 hn1 _ _) hfl hr (ints_two2 (hix) hn2 _ _) (by omega) HB.out
  | false =>
    go_wp2_with fail
    refine (l2AnyFact_any _ g _ s fs w4 d4.new hs4 hgf).mono ?_
    rintro e w5 ⟨x, vx, fx, rfl, hr, hix, hfx, ⟨hx1, hx4⟩, d5⟩
    obtain ⟨p2, q2, rfl⟩ := slR.form hix
    have dd := d3.trans (d4.trans d5)
    have T5 := (T0.below hc.hb).dw (d2.trans dd) (by omega)
    have T5' := T5
    obtain ⟨⟨t0, t1⟩, v0, v1⟩ := T5'
    have hx5 : facts w5 (.slice p1 fl.length q1) fl f := facts.dw hx.sl (d4.trans d5) hgl
    have hn2 : w.heap.size ∉ fx := fun hm => by have := hfx.2 _ hm; have := d2.size; have := d3.size; have := d4.size; omega
    have HB := Lib.hid (below_two2 (g := w.heap.size) (bt (ba (Below.refl _ _)) (d2.trans dd).below0) (Nat.le_refl _) (.int .i64 x.rel) (.slice p2 x.vals.length q2))
    clear T0 hsz
    go_wp2
    refine bodyPost_ret (v := .tuple #[.slice p1 fl.length q1, .agg #[.int .i64 x.rel, .slice p2 x.vals.length q2]]) ?_ rfl ?_
    · rw [results_tmp_cell rfl]
      simp [asAddr, Result.andThen, load_fact2 T5]
    · exact DadE.mk _ fl f x _ fx rfl (facts_two2 hx5 hn1 _ _) hfl hr (ints_two2 (hix) hn2 _ _) (by omega) HB.out
end Go.Proofs.YtpdmdfkcaabnaaaGreatDoor
/- The queries that the reference draws. No condition. -/
namespace Go.Proofs.YtpdmdfkcaabnaaaGreatDoor
open Go.RowKit
set_option linter.unusedVariables false
set_option linter.unusedSimpArgs false
theorem termsL_bd {l : List AtomD} {n : Nat} (h : ∀ y ∈ l, y.terms.length ≤ n) : (termsL l).length ≤ l.length * n := by
  induction l with
  | nil => simp [termsL]
  | cons x t ih =>
    have h1 := h x (by simp)
    have h2 := ih fun y hy => h y (by simp [hy])
    unfold termsL at h2 ⊢
    simp only [List.flatMap_cons, List.length_append, List.length_cons, Nat.succ_mul]
    omega
/-- append of a literal of one int, wherever it lies, at a step of a drawn region in the midst of a draw. -/
theorem step_draw_lit {P : Program} {T E : TypeId} {z : Value} {bytes : Nat} (hT : SlT P T E z 1 bytes) {w0 w W : World} {g : Nat} {v : Value} {l : List Int} {f : List Nat} {ops : Array Oper} {o : Oper} {a : Act} {K : Act → World → Prop} {Q : Exit → Act → World → Prop} {F : Prop}
    (hgd : o.guard = none) (s x : Operand) (ho : o.op = .call { callee := .builtin .append, args := #[s, x], argTypes := #[T, T] })
    {B : Nat} (h : grR E 1 intR B W v l f) (d : DW w0 g w W) (hB : w.heap.size ≤ B) (hBW : B ≤ W.heap.size) (hs : a.eval s = v)
    (n : Nat) (dd : Int) (hd : I64 dd) (hx : a.eval x = .slice (some ⟨n, 0, none⟩) 1 1) (hn : W.heap[n]? = some (.cells #[.int .i64 dd] E)) (hb : (l.length + 1) * bytes ≤ 140737488355328) (hm : l.length + 1 ≤ maxLen)
    (k : ∀ g' cap w' f', grR E 1 intR B w' (.slice (some ⟨g', 0, none⟩) (l.length + 1) cap) (l ++ [dd]) f' → DW w0 g w w' → W.grownBy w' v.ownBlock → Hid (∀ j ∈ f', j ∈ f ∨ W.heap.size ≤ j) → K (a.put o.dst (.slice (some ⟨g', 0, none⟩) (l.length + 1) cap)) w') :
    if Region.wanted o (yielded ops a.tmps) = true then Oper.wp P o a W K Q else F := by
  obtain ⟨i, hi, hz, hsz, hby⟩ := hT.inf
  have hownB := h.ownB
  obtain ⟨rows, fs, ha, hl, hown, rfl, hfr⟩ := h
  have hlt := own_lt hown
  refine step_append_lies _ hgd s x T ho B E i z 1 bytes hT.und hi hz hsz hby hT.zs hT.pos v l.length rows.flatten hs hown ⟨n, 0, none⟩ 1 1 [.int .i64 dd] hx (by simp)
    (World.news_of_block hn) (by simp [Value.oneCell']) (by omega) hm hb hBW W.heap.size rfl ?_
  intro g' cap w' h2 h3 h4 h5
  obtain ⟨f', hf', hmem⟩ := gr_mk good_int ha hl hown hfr (show intR W [.int .i64 dd] dd [] from ⟨rfl, rfl, hd⟩) (by simp) (Fresh.nil _) (by simp) (Below.refl _ _) h3 h2 h4 (Nat.le_refl _)
  refine k g' cap w' f' hf' (d.grown h3 fun j hj => Nat.le_trans hB (hownB j hj)) h3 (Lib.hid fun j hj => ?_)
  rcases hmem j hj with h | h | h
  · exact .inl h
  · cases h
  · exact .inr (by omega)
theorem load_query2 {w : World} {g : Nat} {a b : Value} (h : Two w g a b) (a' b' : Value) : (loadVar 58 ⟨g, 0, none⟩).run Tryz.prog ((w.setCell ⟨g, 0, none⟩ a').setCell ⟨g, 1, none⟩ b') = .ok (.agg #[a', b']) ((w.setCell ⟨g, 0, none⟩ a').setCell ⟨g, 1, none⟩ b') := load2 (h.set a' b') Tryz.underlying58 rfl (by kernel_rfl)
/-- What a draw of a query ends in. -/
def QryE (P : QueryD → Prop) (w0 : World) (g : Nat) (w : World) (e : Ending) (w' : World) : Prop := ∃ (q : QueryD) (vh va : Value) (fh fa : List Nat), e = .returned (.agg #[vh, va]) ∧ grR 3 1 intR w.heap.size w' vh q.head fh ∧ grR 69 2 atomR w.heap.size w' va q.atoms fa ∧ (∀ j ∈ fh, j ∉ fa) ∧ P q ∧ DW w0 g w w'
theorem QryE.mk {P : QueryD → Prop} {w0 : World} {g : Nat} {w : World} {e : Ending} {w' : World} (q : QueryD) (vh va : Value) (fh fa : List Nat) (he : e = .returned (.agg #[vh, va])) (h1 : grR 3 1 intR w.heap.size w' vh q.head fh) (h2 : grR 69 2 atomR w.heap.size w' va q.atoms fa) (hd : ∀ j ∈ fh, j ∉ fa) (h3 : P q) (h4 : DW w0 g w w') : QryE P w0 g w e w' := ⟨q, vh, va, fh, fa, he, h1, h2, hd, h3, h4⟩
def QOk (q : QueryD) : Prop := (1 ≤ q.atoms.length ∧ q.atoms.length ≤ 3) ∧ (∀ y ∈ q.atoms, 1 ≤ y.terms.length ∧ y.terms.length ≤ 3) ∧ q.head.length ≤ 2
set_option maxRecDepth 100000 in
set_option maxHeartbeats 12800000 in
theorem l3Query_any (w0 : World) (g : Nat) (sv : Value) (s : List Int) (fs : List Nat) (w : World) (h : CuW w0 g w) (hs : ints w sv s fs) (hgf : g ∉ fs) (hsc : schemaB s = true) :
    Calls Tryz.prog 172 #[.pointer (some ⟨g, 0, none⟩), sv] w (QryE QOk w0 g w) := by
  obtain ⟨ps, qs, rfl⟩ := slR.form hs
  have hsl := schema_len hsc
  obtain ⟨gs, rfl, _⟩ := hs.get 0 (by omega)
  have hglt := h.lt
  have D1 := ((DW.refl h).al (.cells #[.slice none 0 0, .slice none 0 0] 58)).al (.cells #[.slice none 0 0, .slice none 0 0] 58)
  have T4 := (Two.new w 58 (.slice none 0 0) (.slice none 0 0)).below (ba (o := .cells #[.slice none 0 0, .slice none 0 0] 58) (Below.refl _ _))
  have T5 := Two.new (w.alloc (.cells #[.slice none 0 0, .slice none 0 0] 58)) 58 (.slice none 0 0) (.slice none 0 0)
  have z1 : (w.alloc (.cells #[.slice none 0 0, .slice none 0 0] 58)).heap.size = w.heap.size + 1 := by simp only [World.alloc, Array.size_push]
  have z2 : ((w.alloc (.cells #[.slice none 0 0, .slice none 0 0] 58)).alloc (.cells #[.slice none 0 0, .slice none 0 0] 58)).heap.size = w.heap.size + 1 + 1 := by simp only [World.alloc, Array.size_push]
  rw [z1] at T5
  go_enter Tryz.func172, Tryz.ntmps172
  go_wp2_with fail
  refine (cBelow_any w0 g 3 _ D1.new (by omega) (by omega)).mono ?_
  rintro e w2 ⟨n0, rfl, ⟨hn0, hn1⟩, hd2⟩
  obtain ⟨n1, rfl⟩ := Int.eq_ofNat_of_zero_le hn0
  generalize ((w.alloc (.cells #[.slice none 0 0, .slice none 0 0] 58)).alloc (.cells #[.slice none 0 0, .slice none 0 0] 58)) = W1 at D1 T4 T5 z2 hd2
  have T52 := T5.dw hd2 (by omega)
  have T42 := T4.dw hd2 (by omega)
  clear z1
  go_wp2
  go_loopw [6, 7, 8, 9] (fun n x7 x8 x9 wr => ∃ (k : Nat) (l : List AtomD) (va : Value) (f : List Nat), n = .int .i64 (k : Int) ∧ l.length + k = n1 + 1 ∧ Hid (∀ y ∈ l, 1 ≤ y.terms.length ∧ y.terms.length ≤ 3) ∧ Two wr (w.heap.size + 1) (.slice none 0 0) va ∧ grR 69 2 atomR (w.heap.size + 1 + 1) wr va l f ∧ Two wr w.heap.size (.slice none 0 0) (.slice none 0 0) ∧ DW w0 g w wr) (fun n _ _ _ _ => (intOf n).toNat)
  case atStart => exact ⟨n1 + 1, [], .slice none 0 0, [], by go_num, by simp, Lib.hid (by simp), T52, grR.nilv _, T42, D1.trans hd2⟩
  case round =>
    obtain ⟨k, l, va, f, rfl, hlk, HL, TB, GA, TR, hdr⟩ := hrel
    obtain ⟨pa, qa, rfl⟩ := slR.form GA.sl
    by_cases hk : 0 < k
    · have hki : (0 : Int) < (k : Int) := by omega
      go_wp2_with fail
      refine (cBelow_any w0 g (s.length : Int) _ hdr.new (by omega) (by omega)).mono ?_
      rintro e w3 ⟨r, rfl, ⟨hr0, hr1⟩, hd3⟩
      obtain ⟨r1, rfl⟩ := Int.eq_ofNat_of_zero_le hr0
      have hr1' : r1 < s.length := by omega
      obtain ⟨a, ha, ha1, ha3⟩ := schema_at hsc hr1'
      have TB3 := TB.dw hd3 (by omega)
      have TR3 := TR.dw hd3 (by omega)
      have hz33 := TB3.lt
      have hk3 : k ≤ 3 := by omega
      have GA3 := GA.dw good_atom hd3 (by omega)
      have D3 := hdr.trans hd3
      have z3 := D3.size
      have hglt3 := D3.pos
      have hbx1 := Two.new w3 69 (.int .i64 (r1 : Int)) (.slice none 0 0)
      have hd4 := (DW.refl D3.new).al (.cells #[.int .i64 (r1 : Int), .slice none 0 0] 69)
      have Hlk0 := Lib.hid hlk
      have hll : l.length ≤ 2 := by omega
      clear TB GA TR hdr hd3 hlk
      obtain ⟨wz, ewz⟩ : ∃ x, x = wr := ⟨_, rfl⟩
      subst ewz
      go_wp2
      go_loopw [8, 9] (fun i y wr => ∃ (k2 : Nat) (ts : List Int) (v : Value) (f2 : List Nat), i = .int .i64 (k2 : Int) ∧ ts.length = k2 ∧ k2 ≤ a ∧ Two wr w3.heap.size (.int .i64 (r1 : Int)) v ∧ grR 3 1 intR (w3.heap.size + 1) wr v ts f2 ∧ DW w0 g w3 wr) (fun i _ _ => a - (intOf i).toNat)
      case atStart => exact ⟨0, [], .slice none 0 0, [], rfl, rfl, Nat.zero_le _, hbx1, grR.nilv _, hd4⟩
      case round =>
        obtain ⟨k2, ts, v, f2, rfl, hlk, hka, hbx, hgr, hdr⟩ := hrel
        have Hlk := Lib.hid hlk
        have hlen : ts.length ≤ 3 := by omega
        clear hlk
        obtain ⟨p, q, rfl⟩ := slR.form hgr.sl
        have hs1 := hs.dw (D3.trans hdr) hgf
        obtain ⟨g', e', cs, _, _, _⟩ := hs1.get r1 hr1'
        cases e'
        rw [ha] at cs
        have hbx' := hbx
        obtain ⟨⟨c0, c1⟩, z0, zz1⟩ := hbx'
        have hrl : (r1 : Int) < (s.length : Int) := by omega
        have hr00 : (0 : Int) ≤ (r1 : Int) := by omega
        have hwr := hbx.lt
        by_cases hk2 : k2 < a
        · have hk2i : (k2 : Int) < (a : Int) := by omega
          go_wp2_with fail
          refine (cBelow_any w0 g 4 _ hdr.new (by omega) (by omega)).mono ?_
          rintro e w5 ⟨y, rfl, ⟨hy0, hy1⟩, hd5⟩
          go_wp2_with fail
          refine (cOnce_any w0 g 4 _ hd5.new (by omega) (by omega)).mono ?_
          rintro e w6 ⟨bb, rfl, hd6⟩
          have hd56 := hd5.trans hd6
          cases bb with
          | false =>
            have hbx2 := hbx.dw hd56 (by omega)
            have hgr2 := hgr.dw good_int hd56 (by omega)
            have hdr2 := hdr.trans hd56
            have hwr2 := hbx2.lt
            have hyT : I64 (10 + y) := ⟨by omega, by omega⟩
            clear c0 c1 z0 zz1 hbx hgr hdr hd5 hd6 hd56 cs hs1 hwr
            have hbx2' := hbx2
            obtain ⟨⟨e0, e1⟩, y0, y1⟩ := hbx2'
            go_wp2_with (at_builtin; refine wpList_draw slInt good_int rfl _ _ rfl hgr2 hdr2 (show w3.heap.size ≤ w3.heap.size + 1 by omega) (by omega) rfl #[.int .i64 (10 + y)] (10 + y) [] ⟨rfl, rfl, hyT⟩ rfl (Fresh.nil _) (by simp) rfl (by simp [Value.oneCell']) (by omega) (by unfold maxLen; omega) ?_; intro g4 cap4 w4 f4 hgr4 hdr4 hgb4 hmm4; have hbx4 := hbx2.grown hgb4 (fun q hq => by have := hgr2.ownB q hq; omega); have hbx4' := hbx4; obtain ⟨⟨u0, u1⟩, x0, x1⟩ := hbx4')
            have hnf : w3.heap.size ∉ f4 := fun hm => by have := hgr4.fresh.2 _ hm; omega
            go_roundw
            case rel => exact ⟨k2 + 1, ts ++ [10 + y], _, f4, by go_num, by simp [Hlk.out], by omega, hbx4.set1 _, by simpa using hgr4.set good_int (p := ⟨w3.heap.size, 1, none⟩) hnf _, hdr4.set (by show w3.heap.size ≤ w3.heap.size; omega) _⟩
            case measure => simp [intOf]; omega
          | true =>
            go_wp2_with fail
            refine (cBelow_any w0 g 4 _ hd56.new (by omega) (by omega)).mono ?_
            rintro e w7 ⟨y2, rfl, ⟨hy20, hy21⟩, hd7⟩
            have hd57 := hd56.trans hd7
            have hbx2 := hbx.dw hd57 (by omega)
            have hgr2 := hgr.dw good_int hd57 (by omega)
            have hdr2 := hdr.trans hd57
            have hwr2 := hbx2.lt
            have hyT : I64 y2 := ⟨by omega, by omega⟩
            clear c0 c1 z0 zz1 hbx hgr hdr hd5 hd6 hd56 hd7 hd57 cs hs1 hwr
            have hbx2' := hbx2
            obtain ⟨⟨e0, e1⟩, y0, y1⟩ := hbx2'
            go_wp2_with (at_builtin; refine wpList_draw slInt good_int rfl _ _ rfl hgr2 hdr2 (show w3.heap.size ≤ w3.heap.size + 1 by omega) (by omega) rfl #[.int .i64 (y2)] (y2) [] ⟨rfl, rfl, hyT⟩ rfl (Fresh.nil _) (by simp) rfl (by simp [Value.oneCell']) (by omega) (by unfold maxLen; omega) ?_; intro g4 cap4 w4 f4 hgr4 hdr4 hgb4 hmm4; have hbx4 := hbx2.grown hgb4 (fun q hq => by have := hgr2.ownB q hq; omega); have hbx4' := hbx4; obtain ⟨⟨u0, u1⟩, x0, x1⟩ := hbx4')
            have hnf : w3.heap.size ∉ f4 := fun hm => by have := hgr4.fresh.2 _ hm; omega
            go_roundw
            case rel => exact ⟨k2 + 1, ts ++ [y2], _, f4, by go_num, by simp [Hlk.out], by omega, hbx4.set1 _, by simpa using hgr4.set good_int (p := ⟨w3.heap.size, 1, none⟩) hnf _, hdr4.set (by show w3.heap.size ≤ w3.heap.size; omega) _⟩
            case measure => simp [intOf]; omega
        · have hka' : k2 = a := by omega
          have hk2i : ¬ (k2 : Int) < (a : Int) := by omega
          have TB4 := TB3.dw hdr (by omega)
          have TR4 := TR3.dw hdr (by omega)
          have hz44 := TB4.lt
          have GA4 := GA3.dw good_atom hdr (by omega)
          have D4 := D3.trans hdr
          have hlt1 : 1 ≤ ts.length ∧ ts.length ≤ 3 := ⟨by have := Hlk.out; omega, hlen⟩
          have hf2 := hgr.fresh
          have hti := hgr.sl
          have hr64 : I64 (r1 : Int) := ⟨by omega, by omega⟩
          have hdis : ∀ j ∈ f2, j ∉ f := fun j hj hm => by have h1 := hf2.2 j hj; have h2 := GA3.lt good_atom j hm; omega
          have TB4' := TB4
          obtain ⟨⟨b0, b1⟩, b2, b3⟩ := TB4'
          clear hka' hgr
          go_wp2_with (at_builtin; refine wpList_draw slAtomS good_atom rfl _ _ rfl GA4 D4 (show w.heap.size ≤ w.heap.size + 1 + 1 by omega) (by omega) rfl #[.int .i64 (r1 : Int), .slice p ts.length q] ⟨(r1 : Int), ts⟩ f2 ⟨_, rfl, hr64, hti⟩ rfl (hf2.mono (by omega)) hdis rfl (by simp [Value.oneCell']) (by omega) (by unfold maxLen; omega) ?_; intro g8 cap8 w8 f8 GA8 D8 gb8 mm8; have TB8 := TB4.grown gb8 (fun q hq => by have := GA4.ownB q hq; omega); have TB8' := TB8; obtain ⟨⟨u0, u1⟩, x0, x1⟩ := TB8')
          have hnf : w.heap.size + 1 ∉ f8 := fun hm => by have := GA8.fresh.2 _ hm; omega
          have HL8 := Lib.hid (show ∀ y ∈ l ++ [AtomD.mk (r1 : Int) ts], 1 ≤ y.terms.length ∧ y.terms.length ≤ 3 from fun y hy => (List.mem_append.1 hy).elim (HL.out y) fun h => by rw [List.mem_singleton.1 h]; exact hlt1)
          go_roundw
          case rel => exact ⟨k - 1, l ++ [⟨(r1 : Int), ts⟩], _, f8, by go_num, by have := Hlk0.out; simp; omega, HL8, TB8.set1 _, by simpa using GA8.set good_atom (p := ⟨w.heap.size + 1, 1, none⟩) hnf _, (TR4.grown gb8 (fun q hq => by have := GA4.ownB q hq; omega)).far (p := ⟨w.heap.size + 1, 1, none⟩) (by show w.heap.size + 1 ≠ w.heap.size; omega) _, D8.set (by show w.heap.size ≤ w.heap.size + 1; omega) _⟩
          case measure => simp [intOf]; omega
    · have hki : ¬ (0 : Int) < (k : Int) := by omega
      have hl1 : 1 ≤ l.length ∧ l.length ≤ 3 := by omega
      have HL1 := Lib.hid hl1
      have htl : (termsL l).length ≤ 9 := by have := termsL_bd (l := l) (n := 3) (fun y hy => (HL.out y hy).2); omega
      have TB' := TB
      obtain ⟨⟨b0, b1⟩, b2, b3⟩ := TB'
      have hlw := TB.lt
      obtain ⟨wz, ewz⟩ : ∃ x, x = wr := ⟨_, rfl⟩
      subst ewz
      have hnil : ints wz (.slice none 0 0) (QueryD.mk [] l).head [] := slR.nilv _ _ _ _
      have hats : atoms wz (.slice pa l.length qa) (QueryD.mk [] l).atoms f := GA.sl
      have htl2 : (termsL (QueryD.mk [] l).atoms).length ≤ 1048576 := Nat.le_trans htl (by decide)
      have hVars := specVarsOf_any (QueryD.mk [] l) (.slice none 0 0) [] (.slice pa l.length qa) f wz hnil hats htl2
      clear hnil hats htl2
      go_wp2_with fail
      refine hVars.mono ?_
      rintro e w5 ⟨vv, fv, rfl, hvv, hb5⟩
      have hlv : (setOf isVarB (termsL l)).length ≤ 9 := Nat.le_trans (setOf_length _ _) htl
      have hvv2 : ints w5 vv (setOf isVarB (termsL l)) fv := hvv
      obtain ⟨vs, hvs⟩ : ∃ vs, vs = setOf isVarB (termsL l) := ⟨_, rfl⟩
      rw [← hvs] at hvv2 hlv
      clear hvv hvs
      obtain ⟨pv, qv, rfl⟩ := slR.form hvv2
      have D5 := hdr.below hb5
      have TB5 := TB.below hb5
      have TR5 := TR.below hb5
      have GA5 := GA.below' good_atom hb5
      have hz5 := TB5.lt
      have hg5 := D5.pos
      have hgv : ∀ j ∈ fv, j < w5.heap.size := hvv2.lt
      have hgv9 : 0 < vs.length → ∀ j ∈ fv, j = g → False := by
        intro h0 j hj e
        obtain ⟨gv, _, cv, _, _, hfv⟩ := hvv2.get 0 h0
        obtain ⟨_, _, _, _, _, _, _, c0, _⟩ := D5.new.ex
        rw [hfv, List.mem_singleton] at hj
        rw [← hj, e] at cv
        rw [c0] at cv
        cases cv
      have hnv9 : 0 < vs.length → ∀ j ∈ fv, j = w.heap.size + 1 → False := by
        intro h0 j hj e
        obtain ⟨gv, _, cv, _, _, hfv⟩ := hvv2.get 0 h0
        have c0 := TB5.1.1
        rw [hfv, List.mem_singleton] at hj
        rw [← hj, e] at cv
        rw [c0] at cv
        cases cv
      clear TB TR GA hdr hb5 htl
      go_wp2
      go_loopw [11] (fun i wr => ∃ (k : Nat) (hh : List Int) (vh : Value) (fh : List Nat), i = .int .i64 (k : Int) ∧ k ≤ vs.length ∧ Two wr (w.heap.size + 1) vh (.slice pa l.length qa) ∧ grR 3 1 intR w5.heap.size wr vh hh fh ∧ hh.length ≤ 2 ∧ grR 69 2 atomR (w.heap.size + 1 + 1) wr (.slice pa l.length qa) l f ∧ ints wr (.slice pv vs.length qv) vs fv ∧ Two wr w.heap.size (.slice none 0 0) (.slice none 0 0) ∧ w5.heap.size ≤ wr.heap.size ∧ DW w0 g w wr) (fun i _ => vs.length - (intOf i).toNat)
      case atStart => exact ⟨0, [], .slice none 0 0, [], rfl, Nat.zero_le _, TB5, grR.nilv _, by simp, GA5, hvv2, TR5, Nat.le_refl _, D5⟩
      case round =>
        obtain ⟨k3, hh, vh, fh, rfl, hk3, TX, GH, hhl, GX, hvx, TY, hz5r, hdx⟩ := hrel
        obtain ⟨ph, qh, rfl⟩ := slR.form GH.sl
        have TX' := TX
        obtain ⟨⟨c0, c1⟩, c2, c3⟩ := TX'
        have hxw := TX.lt
        have hz5x := GH.fresh
        by_cases h1 : k3 < vs.length
        · have h1i : (k3 : Int) < (vs.length : Int) := by omega
          have h10 : (0 : Int) ≤ (k3 : Int) := by omega
          by_cases h2 : hh.length < 2
          · have h2i : (hh.length : Int) < 2 := by omega
            go_wp2_with fail
            refine (cOnce_any w0 g 2 _ hdx.new (by omega) (by omega)).mono ?_
            rintro e w6 ⟨bb, rfl, hd6⟩
            have TX6 := TX.dw hd6 (by omega)
            have TY6 := TY.dw hd6 (by omega)
            have GH6 := GH.dw good_int hd6 hg5
            have GX6 := GX.dw good_atom hd6 (by omega)
            have hgfv : g ∉ fv := fun hm => hgv9 (by omega) _ hm rfl
            have hvx6 := hvx.dw hd6 hgfv
            have D6 := hdx.trans hd6
            have hz6 := TX6.lt
            have hzz6 := hd6.size
            clear TX TY GH GX hvx c0 c1 c2 c3
            cases bb with
            | false =>
              go_wp2
              go_roundw
              case rel => exact ⟨k3 + 1, hh, _, fh, by go_num, by omega, TX6, GH6, hhl, GX6, hvx6, TY6, by omega, D6⟩
              case measure => simp [intOf]; omega
            | true =>
              obtain ⟨gv, e5, cv, _, hI, _⟩ := hvx6.get k3 h1
              cases e5
              have TX6' := TX6
              obtain ⟨⟨c0, c1⟩, c2, c3⟩ := TX6'
              have h56 : w5.heap.size ≤ w6.heap.size := by omega
              generalize hvk : vs[k3] = vk at cv hI
              clear hvk
              go_wp2_with fail
              go_region_law ((first
                | (refine step_draw_lit slInt rfl (.tmp 70) (.tmp 75) rfl (GH6.below' good_int (by repeat (first | exact Below.refl _ _ | refine bdr ?_ | refine ba ?_))) (D6.below (by repeat (first | exact Below.refl _ _ | refine bdr ?_ | refine ba ?_))) (show w.heap.size ≤ w5.heap.size by omega) (Nat.le_trans h56 (Below.size (B := w6.heap.size) (by repeat (first | exact Below.refl _ _ | refine bdr ?_ | refine ba ?_)))) rfl w6.heap.size vk hI rfl (heap_alloc_new w6 _) (by omega) (by unfold maxLen; omega) ?_
                   intro g7 cap7 w7 f7 GH7 D7 gb7 mm7
                   have TX7 := (TX6.below (by repeat (first | exact Below.refl _ _ | refine bdr ?_ | refine ba ?_))).grown gb7 (fun q hq => by have := GH6.ownB q hq; omega)
                   have TY7 := (TY6.below (by repeat (first | exact Below.refl _ _ | refine bdr ?_ | refine ba ?_))).grown gb7 (fun q hq => by have := GH6.ownB q hq; omega)
                   have GX7 : grR 69 2 atomR (w.heap.size + 1 + 1) w7 (.slice pa l.length qa) l f := (GX6.below' good_atom (by repeat (first | exact Below.refl _ _ | refine bdr ?_ | refine ba ?_))).frame good_atom (fun j hj => gb7.block j (Nat.lt_of_lt_of_le (GX6.lt good_atom j hj) (Below.size (B := w6.heap.size) (by repeat (first | exact Below.refl _ _ | refine bdr ?_ | refine ba ?_)))) (fun e => by have h3 := GH6.ownB j e.symm; have h4 := GA5.lt good_atom j hj; omega))
                   have hvx7 : ints w7 (.slice (some ⟨gv, 0, none⟩) vs.length qv) vs fv := (hvx6.below' (by repeat (first | exact Below.refl _ _ | refine bdr ?_ | refine ba ?_))).frame (fun j hj => gb7.block j (Nat.lt_of_lt_of_le (hvx6.lt j hj) (Below.size (B := w6.heap.size) (by repeat (first | exact Below.refl _ _ | refine bdr ?_ | refine ba ?_)))) (fun e => by have h3 := GH6.ownB j e.symm; have h4 := hgv j hj; omega))
                   have hz7 : w5.heap.size ≤ w7.heap.size := Nat.le_trans h56 (Nat.le_trans (Below.size (B := w6.heap.size) (by repeat (first | exact Below.refl _ _ | refine bdr ?_ | refine ba ?_))) gb7.size)
                   obtain ⟨⟨u0, u1⟩, u2, u3⟩ := (id TX7))
                | (go_simp; go_wp2_with fail)))
              all_goals (try go_wp2_with fail)
              all_goals have hnf : w.heap.size + 1 ∉ f7 := fun hm => by have := GH7.fresh.2 _ hm; omega
              all_goals have hnx : w.heap.size + 1 ∉ f := fun hm => by have := GX7.fresh.2 _ hm; omega
              all_goals have hnv : w.heap.size + 1 ∉ fv := fun hm => hnv9 (by omega) _ hm rfl
              all_goals go_roundw
              all_goals (first
                | (case rel => exact ⟨k3 + 1, hh ++ [vk], _, f7, by go_num, by omega, TX7.set0 _, by simpa using GH7.set good_int (p := ⟨w.heap.size + 1, 0, none⟩) hnf _, by simp; omega, GX7.set good_atom (p := ⟨w.heap.size + 1, 0, none⟩) hnx _, hvx7.far (p := ⟨w.heap.size + 1, 0, none⟩) hnv _, TY7.far (p := ⟨w.heap.size + 1, 0, none⟩) (by show w.heap.size + 1 ≠ w.heap.size; omega) _, Nat.le_trans hz7 (SX.set _ _).1, D7.set (by show w.heap.size ≤ w.heap.size + 1; omega) _⟩)
                | (case measure => simp [intOf]; omega))
          · have h2i : ¬ (hh.length : Int) < 2 := by omega
            have TY' := TY
            obtain ⟨⟨t0, t1⟩, t2, t3⟩ := TY'
            have hn5 : w.heap.size ∉ fh := fun hm => by have := GH.fresh.2 _ hm; omega
            have hn6 : w.heap.size ∉ f := fun hm => by have := GX.fresh.2 _ hm; omega
            have hdis : ∀ j ∈ fh, j ∉ f := fun j hj hm => by have h1 := GH.fresh.2 j hj; have h2 := GA5.lt good_atom j hm; omega
            have HQ := Lib.hid (show QOk ⟨hh, l⟩ from ⟨HL1.out, HL.out, hhl⟩)
            have HG1 := Lib.hid (((GH.set good_int (p := ⟨w.heap.size, 0, none⟩) hn5 (.slice ph hh.length qh)).set good_int (p := ⟨w.heap.size, 1, none⟩) hn5 (.slice pa l.length qa)).less (show w.heap.size ≤ w5.heap.size by omega))
            have HG2 := Lib.hid (((GX.set good_atom (p := ⟨w.heap.size, 0, none⟩) hn6 (.slice ph hh.length qh)).set good_atom (p := ⟨w.heap.size, 1, none⟩) hn6 (.slice pa l.length qa)).less (show w.heap.size ≤ w.heap.size + 1 + 1 by omega))
            have HDD := Lib.hid (hdx.two2 (j := w.heap.size) (Nat.le_refl _) (.slice ph hh.length qh) (.slice pa l.length qa))
            go_wp2
            (try simp only [Exit.inBlock, Exit.then])
            refine bodyPost_ret (v := .agg #[.slice ph hh.length qh, .slice pa l.length qa]) ?_ rfl ?_
            · rw [results_cell_one rfl]
              simp [asAddr, Result.andThen, load_query2 TY]
            · exact QryE.mk ⟨hh, l⟩ _ _ fh f rfl HG1.out HG2.out hdis HQ.out HDD.out
        · have h1i : ¬ (k3 : Int) < (vs.length : Int) := by omega
          have TY' := TY
          obtain ⟨⟨t0, t1⟩, t2, t3⟩ := TY'
          have hn5 : w.heap.size ∉ fh := fun hm => by have := GH.fresh.2 _ hm; omega
          have hn6 : w.heap.size ∉ f := fun hm => by have := GX.fresh.2 _ hm; omega
          have hdis : ∀ j ∈ fh, j ∉ f := fun j hj hm => by have h1 := GH.fresh.2 j hj; have h2 := GA5.lt good_atom j hm; omega
          have HQ := Lib.hid (show QOk ⟨hh, l⟩ from ⟨HL1.out, HL.out, hhl⟩)
          have HG1 := Lib.hid (((GH.set good_int (p := ⟨w.heap.size, 0, none⟩) hn5 (.slice ph hh.length qh)).set good_int (p := ⟨w.heap.size, 1, none⟩) hn5 (.slice pa l.length qa)).less (show w.heap.size ≤ w5.heap.size by omega))
          have HG2 := Lib.hid (((GX.set good_atom (p := ⟨w.heap.size, 0, none⟩) hn6 (.slice ph hh.length qh)).set good_atom (p := ⟨w.heap.size, 1, none⟩) hn6 (.slice pa l.length qa)).less (show w.heap.size ≤ w.heap.size + 1 + 1 by omega))
          have HDD := Lib.hid (hdx.two2 (j := w.heap.size) (Nat.le_refl _) (.slice ph hh.length qh) (.slice pa l.length qa))
          go_wp2
          (try simp only [Exit.inBlock, Exit.then])
          refine bodyPost_ret (v := .agg #[.slice ph hh.length qh, .slice pa l.length qa]) ?_ rfl ?_
          · rw [results_cell_one rfl]
            simp [asAddr, Result.andThen, load_query2 TY]
          · exact QryE.mk ⟨hh, l⟩ _ _ fh f rfl HG1.out HG2.out hdis HQ.out HDD.out
end Go.Proofs.YtpdmdfkcaabnaaaGreatDoor
/- The spoilt queries that the reference draws. No condition. -/
namespace Go.Proofs.YtpdmdfkcaabnaaaGreatDoor
open Go.RowKit
set_option linter.unusedVariables false
set_option linter.unusedSimpArgs false
/-- The first atom, taken apart. -/
theorem atoms_open {w : World} {p : Option Addr} {q : Nat} {l : List AtomD} {f : List Nat} (h : atoms w (.slice p l.length q) l f) (hnd : f.Nodup) (hl : 0 < l.length) :
    ∃ (g : Nat) (v : Value) (fi : List Nat), p = some ⟨g, 0, none⟩ ∧ w.cell? ⟨g, 0, none⟩ = some (.int .i64 l[0].rel) ∧ w.cell? ⟨g, 1, none⟩ = some v ∧ (∀ j, w.frozen? ⟨g, j, none⟩ = false) ∧ I64 l[0].rel ∧ ints w v l[0].terms fi ∧ g ∈ f ∧ g ∉ fi ∧ (∀ x ∈ fi, x ∈ f) ∧ openR 69 2 atomR w g l.length q l f 0 [.int .i64 l[0].rel, v] fi := by
  obtain ⟨g, c, fi, rfl, ho, hr⟩ := slR.open good_atom h hnd hl
  obtain ⟨v, rfl, hI, ht⟩ := hr
  have hm := ho.mem
  exact ⟨g, v, fi, rfl, by simpa using ho.cell (by omega) 0 _ rfl, by simpa using ho.cell (by omega) 1 _ rfl, ho.frozen (by omega), hI, ht, hm.1, hm.2.1, hm.2.2.1, ho⟩
theorem atoms_rel {w : World} {g q : Nat} {v : Value} {l : List AtomD} {f fi : List Nat} (hl : 0 < l.length) (ho : openR 69 2 atomR w g l.length q l f 0 [.int .i64 l[0].rel, v] fi) (ht : ints w v l[0].terms fi) (u : Int) (hu : I64 u) :
    atoms (w.setCell ⟨g, 0, none⟩ (.int .i64 u)) (.slice (some ⟨g, 0, none⟩) l.length q) (l.set 0 ⟨u, l[0].terms⟩) f := by
  have hs := ho.store 0 (by decide) (.int .i64 u)
  rw [Nat.zero_mul, Nat.zero_add] at hs
  have h2 := hs.shut (d := ⟨u, l[0].terms⟩) ⟨v, rfl, hu, ht.far (p := ⟨g, 0, none⟩) ho.mem.2.1 _⟩
  exact h2
theorem atoms_term {w : World} {g q gt q2 : Nat} {l : List AtomD} {f fi : List Nat} (hl : 0 < l.length) (ho : openR 69 2 atomR w g l.length q l f 0 [.int .i64 l[0].rel, .slice (some ⟨gt, 0, none⟩) l[0].terms.length q2] fi) (hI : I64 l[0].rel) (ht : ints w (.slice (some ⟨gt, 0, none⟩) l[0].terms.length q2) l[0].terms fi) (hfi : fi = [gt]) (h0 : 0 < l[0].terms.length) (u : Int) (hu : I64 u) :
    atoms (w.setCell ⟨gt, 0, none⟩ (.int .i64 u)) (.slice (some ⟨g, 0, none⟩) l.length q) (l.set 0 ⟨l[0].rel, l[0].terms.set 0 u⟩) f := by
  have hs := ho.wrote (f' := fi) ((Wrote.refl fi w).setCell (p := ⟨gt, 0, none⟩) (by simp [hfi]) (.int .i64 u)) (fun x hx => hx)
  have h2 := hs.shut (d := ⟨l[0].rel, l[0].terms.set 0 u⟩) ⟨_, rfl, hI, ints.store ht 0 h0 hfi u hu⟩
  exact h2
theorem ints.at0 {w : World} {p : Option Addr} {q : Nat} {l : List Int} {f : List Nat} (h : ints w (.slice p l.length q) l f) (hl : 0 < l.length) : ∃ g, p = some ⟨g, 0, none⟩ ∧ f = [g] ∧ w.cell? ⟨g, 0, none⟩ = some (.int .i64 l[0]) ∧ w.frozen? ⟨g, 0, none⟩ = false := by
  obtain ⟨g, hp, hc, _, _, hf⟩ := h.get 0 hl
  obtain ⟨_, c, fi, hp2, _, _, _, hz, _⟩ := slR.at h 0 hl
  rw [hp] at hp2
  cases hp2
  exact ⟨g, hp, hf, by simpa using hc, hz 0⟩
theorem QOk.len {q : QueryD} (h : QOk q) : 0 < q.atoms.length ∧ q.atoms.length ≤ 3 ∧ (termsL q.atoms).length ≤ 9 := by
  have := termsL_bd (l := q.atoms) (n := 3) (fun y hy => (h.2.1 y hy).2)
  have := h.1
  exact ⟨by omega, by omega, by omega⟩
/-- As QOk, of what may be spoilt. -/
def QOk3 (q : QueryD) : Prop := (1 ≤ q.atoms.length ∧ q.atoms.length ≤ 3) ∧ (∀ y ∈ q.atoms, 1 ≤ y.terms.length ∧ y.terms.length ≤ 3) ∧ q.head.length ≤ 3
theorem QOk.three {q : QueryD} (h : QOk q) : QOk3 q := ⟨h.1, h.2.1, by have := h.2.2; omega⟩
theorem QOk.head {q : QueryD} (h : QOk q) (x : Int) : QOk3 ⟨q.head ++ [x], q.atoms⟩ := ⟨h.1, h.2.1, by have := h.2.2; simp; omega⟩
theorem QOk.set {q : QueryD} (h : QOk q) (a : AtomD) (ha : 1 ≤ a.terms.length ∧ a.terms.length ≤ 3) : QOk3 ⟨q.head, q.atoms.set 0 a⟩ := by
  refine ⟨by simpa using h.1, fun y hy => ?_, by have := h.2.2; show q.head.length ≤ 3; omega⟩
  rcases List.mem_or_eq_of_mem_set hy with h1 | rfl
  · exact h.2.1 y h1
  · exact ha
/-- What a draw of any query ends in. -/
def QysE (P : QueryD → Prop) (w0 : World) (g : Nat) (w : World) (e : Ending) (w' : World) : Prop := ∃ (q : QueryD) (vh va : Value) (fh fa : List Nat), e = .returned (.agg #[vh, va]) ∧ ints w' vh q.head fh ∧ Fresh w.heap.size fh ∧ atoms w' va q.atoms fa ∧ Fresh w.heap.size fa ∧ (∀ j ∈ fh, j ∉ fa) ∧ P q ∧ DW w0 g w w'
theorem QysE.mk {P : QueryD → Prop} {w0 : World} {g : Nat} {w : World} {e : Ending} {w' : World} (q : QueryD) (vh va : Value) (fh fa : List Nat) (he : e = .returned (.agg #[vh, va])) (h1 : ints w' vh q.head fh) (h1f : Fresh w.heap.size fh) (h2 : atoms w' va q.atoms fa) (h2f : Fresh w.heap.size fa) (hd : ∀ j ∈ fh, j ∉ fa) (h3 : P q) (h4 : DW w0 g w w') : QysE P w0 g w e w' := ⟨q, vh, va, fh, fa, he, h1, h1f, h2, h2f, hd, h3, h4⟩
/-- A literal of one element, whose cells have just been laid. -/
theorem grR.lit_one {α : Type} {E : TypeId} {sz : Nat} {R : Rd α} {B : Nat} {w : World} (hR : Good R) (c : List Value) (d : α) (fi : List Nat) (hc : R w c d fi) (hl : c.length = sz) (hB : B ≤ w.heap.size) (hfi : Fresh B fi) : grR E sz R B (w.alloc (.cells c.toArray E)) (.slice (some ⟨w.heap.size, 0, none⟩) 1 1) [d] (w.heap.size :: fi) := by
  have hlt := hR.lt hc
  refine ⟨[c], [fi], .cons (hR.below' hc (ba (Below.refl _ _))) .nil, by simp [hl], ?_, by simp [Value.ownBlock], ⟨?_, ?_⟩⟩
  · rw [List.flatten_singleton]
    exact World.ownsRow_lit _ _ _ hB (by unfold maxLen; simp) (by simp [hl])
  · refine List.nodup_cons.2 ⟨fun hm => ?_, hfi.1⟩
    have := hlt _ hm
    omega
  · intro g hg
    rcases List.mem_cons.1 hg with rfl | h
    · exact hB
    · exact hfi.2 g h
/-- How the two boxes of a draw of any query stand. -/
def StQ (P : QueryD → Prop) (w0 : World) (g : Nat) (w wr : World) : Prop := ∃ (hh : List Int) (ats : List AtomD) (ph pa : Option Addr) (qh qa : Nat) (fh fa : List Nat), Two wr (w.heap.size + 1 + 1 + 1) (.slice ph hh.length qh) (.slice pa ats.length qa) ∧ Two wr w.heap.size (.slice none 0 0) (.slice none 0 0) ∧ grR 3 1 intR (w.heap.size + 1) wr (.slice ph hh.length qh) hh fh ∧ atoms wr (.slice pa ats.length qa) ats fa ∧ Fresh (w.heap.size + 1) fa ∧ (∀ j ∈ fh, j ∉ fa) ∧ w.heap.size + 1 + 1 + 1 ∉ fh ∧ w.heap.size + 1 + 1 + 1 ∉ fa ∧ P ⟨hh, ats⟩ ∧ DW w0 g w wr
theorem StQ.mk {P : QueryD → Prop} {w0 : World} {g : Nat} {w wr : World} (hh : List Int) (ats : List AtomD) (ph pa : Option Addr) (qh qa : Nat) (fh fa : List Nat) (h1 : Two wr (w.heap.size + 1 + 1 + 1) (.slice ph hh.length qh) (.slice pa ats.length qa)) (h2 : Two wr w.heap.size (.slice none 0 0) (.slice none 0 0)) (h3 : grR 3 1 intR (w.heap.size + 1) wr (.slice ph hh.length qh) hh fh) (h4 : atoms wr (.slice pa ats.length qa) ats fa) (h5 : Fresh (w.heap.size + 1) fa) (h6 : ∀ j ∈ fh, j ∉ fa) (h7 : w.heap.size + 1 + 1 + 1 ∉ fh) (h8 : w.heap.size + 1 + 1 + 1 ∉ fa) (h9 : P ⟨hh, ats⟩) (h10 : DW w0 g w wr) : StQ P w0 g w wr := ⟨hh, ats, ph, pa, qh, qa, fh, fa, h1, h2, h3, h4, h5, h6, h7, h8, h9, h10⟩
set_option maxRecDepth 100000 in
set_option maxHeartbeats 12800000 in
theorem l3Any_any (w0 : World) (g : Nat) (sv : Value) (s : List Int) (fs : List Nat) (w : World) (h : CuW w0 g w) (hs : ints w sv s fs) (hgf : g ∉ fs) :
    Calls Tryz.prog 112 #[.pointer (some ⟨g, 0, none⟩), sv] w (QysE QOk3 w0 g w) := by
  obtain ⟨ps, qs, rfl⟩ := slR.form hs
  have hglt := h.lt
  have D1 := ((((DW.refl h).al (.cells #[.slice none 0 0, .slice none 0 0] 58)).al (.cells #[.int .i64 10] 3)).al (.cells #[.int .i64 0, .slice (some ⟨w.heap.size + 1, 0, none⟩) 1 1] 69)).al (.cells #[.slice none 0 0, .slice (some ⟨w.heap.size + 1 + 1, 0, none⟩) 1 1] 58)
  have z1 : (w.alloc (.cells #[.slice none 0 0, .slice none 0 0] 58)).heap.size = w.heap.size + 1 := by simp only [World.alloc, Array.size_push]
  have z2 : ((w.alloc (.cells #[.slice none 0 0, .slice none 0 0] 58)).alloc (.cells #[.int .i64 10] 3)).heap.size = w.heap.size + 1 + 1 := by simp only [World.alloc, Array.size_push]
  have z3 : (((w.alloc (.cells #[.slice none 0 0, .slice none 0 0] 58)).alloc (.cells #[.int .i64 10] 3)).alloc (.cells #[.int .i64 0, .slice (some ⟨w.heap.size + 1, 0, none⟩) 1 1] 69)).heap.size = w.heap.size + 1 + 1 + 1 := by simp only [World.alloc, Array.size_push]
  have z4 : ((((w.alloc (.cells #[.slice none 0 0, .slice none 0 0] 58)).alloc (.cells #[.int .i64 10] 3)).alloc (.cells #[.int .i64 0, .slice (some ⟨w.heap.size + 1, 0, none⟩) 1 1] 69)).alloc (.cells #[.slice none 0 0, .slice (some ⟨w.heap.size + 1 + 1, 0, none⟩) 1 1] 58)).heap.size = w.heap.size + 1 + 1 + 1 + 1 := by simp only [World.alloc, Array.size_push]
  have T01 : Two ((((w.alloc (.cells #[.slice none 0 0, .slice none 0 0] 58)).alloc (.cells #[.int .i64 10] 3)).alloc (.cells #[.int .i64 0, .slice (some ⟨w.heap.size + 1, 0, none⟩) 1 1] 69)).alloc (.cells #[.slice none 0 0, .slice (some ⟨w.heap.size + 1 + 1, 0, none⟩) 1 1] 58)) w.heap.size (.slice none 0 0) (.slice none 0 0) := (Two.new w 58 _ _).below (ba (ba (ba (Below.refl _ _))))
  have Tb1 := Two.new (((w.alloc (.cells #[.slice none 0 0, .slice none 0 0] 58)).alloc (.cells #[.int .i64 10] 3)).alloc (.cells #[.int .i64 0, .slice (some ⟨w.heap.size + 1, 0, none⟩) 1 1] 69)) 58 (.slice none 0 0) (.slice (some ⟨w.heap.size + 1 + 1, 0, none⟩) 1 1)
  rw [z3] at Tb1
  have G1 := (grR.lit_ints (w := (w.alloc (.cells #[.slice none 0 0, .slice none 0 0] 58))) (B := w.heap.size + 1) [10] (by omega) (fun x hx => by rw [List.mem_singleton.1 hx]; exact ⟨by omega, by omega⟩) (by unfold maxLen; simp)).sl
  rw [z1] at G1
  have G2 := (grR.lit_one (E := 69) (sz := 2) (B := w.heap.size + 1) (w := ((w.alloc (.cells #[.slice none 0 0, .slice none 0 0] 58)).alloc (.cells #[.int .i64 10] 3))) good_atom [.int .i64 0, .slice (some ⟨w.heap.size + 1, 0, none⟩) 1 1] ⟨0, [10]⟩ [w.heap.size + 1] ⟨_, rfl, ⟨by show _ ≤ (0 : Int); omega, by show (0 : Int) ≤ _; omega⟩, G1⟩ rfl (by omega) ⟨by simp, by simp⟩)
  rw [z2] at G2
  have GA1 := G2.below' good_atom (ba (o := .cells #[.slice none 0 0, .slice (some ⟨w.heap.size + 1 + 1, 0, none⟩) 1 1] 58) (Below.refl _ _))
  have AT1 : atoms ((((w.alloc (.cells #[.slice none 0 0, .slice none 0 0] 58)).alloc (.cells #[.int .i64 10] 3)).alloc (.cells #[.int .i64 0, .slice (some ⟨w.heap.size + 1, 0, none⟩) 1 1] 69)).alloc (.cells #[.slice none 0 0, .slice (some ⟨w.heap.size + 1 + 1, 0, none⟩) 1 1] 58)) (.slice (some ⟨w.heap.size + 1 + 1, 0, none⟩) 1 1) [⟨0, [10]⟩] [w.heap.size + 1 + 1, w.heap.size + 1] := GA1.sl
  have FR1 := GA1.fresh
  clear G1 G2 GA1
  go_enter Tryz.func112, Tryz.ntmps112
  have hs0 := hs.dw D1 hgf
  go_upto_if 11 with (go_at_call 78; refine (specIsSchema_any _ s fs _ hs0).mono ?_; rintro e _ ⟨rfl, rfl⟩)
  obtain ⟨W1, hW1⟩ : ∃ W1, W1 = ((((w.alloc (.cells #[.slice none 0 0, .slice none 0 0] 58)).alloc (.cells #[.int .i64 10] 3)).alloc (.cells #[.int .i64 0, .slice (some ⟨w.heap.size + 1, 0, none⟩) 1 1] 69)).alloc (.cells #[.slice none 0 0, .slice (some ⟨w.heap.size + 1 + 1, 0, none⟩) 1 1] 58)) := ⟨_, rfl⟩
  rw [← hW1] at D1 T01 Tb1 AT1 z4 hs0 ⊢
  have hs1 := hs0
  clear hW1 z1 z2 z3 hs0
  go_cut [] from 10 (fun wr => StQ QOk w0 g w wr)
  case first =>
   cases hsc : schemaB s with
   | false =>
     have D := D1
     have T0 := T01
     have Tb := Tb1
     have GH : grR 3 1 intR (w.heap.size + 1) W1 (.slice none 0 0) [] [] := grR.nilv _
     have AT := AT1
     have FRA := FR1
     have hga : g ∉ [w.heap.size + 1 + 1, w.heap.size + 1] := by simp; omega
     have nba : w.heap.size + 1 + 1 + 1 ∉ [w.heap.size + 1 + 1, w.heap.size + 1] := by simp; omega
     have nbh : w.heap.size + 1 + 1 + 1 ∉ ([] : List Nat) := by simp
     have DIS : ∀ j ∈ ([] : List Nat), j ∉ [w.heap.size + 1 + 1, w.heap.size + 1] := by simp
     have ok : QOk ⟨[], [⟨0, [10]⟩]⟩ := ⟨by simp, by simp, by simp⟩
     clear D1 T01 Tb1 AT1 FR1 hs1
     go_wp2_with fail
     go_meet
     exact StQ.mk [] [⟨0, [10]⟩] none (some ⟨w.heap.size + 1 + 1, 0, none⟩) 0 1 [] [w.heap.size + 1 + 1, w.heap.size + 1] Tb T0 GH AT FRA DIS nbh nba ok D
   | true =>
     go_wp2_with fail
     refine (l3Query_any w0 g _ s fs _ D1.new hs1 hgf hsc).mono ?_
     rintro e w2 ⟨⟨hh, ats⟩, vh, va, fh, fa, rfl, G2, GA2, DIS, ok, D2⟩
     dsimp only at G2 GA2
     obtain ⟨ph, qh, rfl⟩ := slR.form G2.sl
     obtain ⟨pa, qa, rfl⟩ := slR.form GA2.sl
     have Tb2 := Tb1.dw D2 (by omega)
     have T02 := T01.dw D2 (by omega)
     have D12 := D1.trans D2
     have nbh : w.heap.size + 1 + 1 + 1 ∉ fh := fun hm => by have := G2.fresh.2 _ hm; omega
     have nba : w.heap.size + 1 + 1 + 1 ∉ fa := fun hm => by have := GA2.fresh.2 _ hm; omega
     have hga : g ∉ fa := fun hm => by have := GA2.fresh.2 _ hm; omega
     obtain ⟨⟨r0, r1⟩, r2, r3⟩ := (id Tb2)
     have D := D12.two2 (j := w.heap.size + 1 + 1 + 1) (by omega) (.slice ph hh.length qh) (.slice pa ats.length qa)
     have T0 := (T02.far (p := ⟨w.heap.size + 1 + 1 + 1, 0, none⟩) (by show w.heap.size + 1 + 1 + 1 ≠ w.heap.size; omega) (.slice ph hh.length qh)).far (p := ⟨w.heap.size + 1 + 1 + 1, 1, none⟩) (by show w.heap.size + 1 + 1 + 1 ≠ w.heap.size; omega) (.slice pa ats.length qa)
     have Tb := Tb2.set (.slice ph hh.length qh) (.slice pa ats.length qa)
     have GH := ((G2.less (show w.heap.size + 1 ≤ W1.heap.size by omega)).set good_int (p := ⟨w.heap.size + 1 + 1 + 1, 0, none⟩) nbh (.slice ph hh.length qh)).set good_int (p := ⟨w.heap.size + 1 + 1 + 1, 1, none⟩) nbh (.slice pa ats.length qa)
     have AT : atoms (two2 w2 (w.heap.size + 1 + 1 + 1) (.slice ph hh.length qh) (.slice pa ats.length qa)) (.slice pa ats.length qa) ats fa := (atoms.far GA2.sl (p := ⟨w.heap.size + 1 + 1 + 1, 0, none⟩) nba (.slice ph hh.length qh)).far (p := ⟨w.heap.size + 1 + 1 + 1, 1, none⟩) nba (.slice pa ats.length qa)
     have FRA := GA2.fresh.mono (show w.heap.size + 1 ≤ W1.heap.size by omega)
     clear D1 T01 Tb1 AT1 FR1 hs1 D2 G2 GA2 T02 D12 Tb2
     go_wp2_with fail
     go_meet
     exact StQ.mk hh ats ph pa qh qa fh fa Tb T0 GH AT FRA DIS nbh nba ok D
  case rest =>
    clear D1 T01 Tb1 AT1 FR1 hs1 z4
    obtain ⟨hh, ats, ph, pa, qh, qa, fh, fa, Tb, T0, GH, AT, FRA, DIS, nbh, nba, ok, D⟩ := hcut
    have hga : g ∉ fa := fun hm => by have := FRA.2 _ hm; omega
    obtain ⟨w5, ew5⟩ : ∃ x, x = wc := ⟨_, rfl⟩
    subst ew5
    go_wp2_with fail
    refine (cBelow_any w0 g 14 _ D.new (by omega) (by omega)).mono ?_
    rintro e w6 ⟨c, rfl, ⟨hc0, hc1⟩, hd6⟩
    have D6 := D.trans hd6
    have T06 := T0.dw hd6 (by omega)
    have Tb6 := Tb.dw hd6 (by omega)
    have GH6 := GH.dw good_int hd6 (by omega)
    have AT6 : atoms w6 (.slice pa ats.length qa) ats fa := slR.dw good_atom AT hd6 hga
    have FRH := GH6.fresh
    have z6 := T06.lt
    have z7 := Tb6.lt
    obtain ⟨⟨b0, b1⟩, b2, b3⟩ := (id Tb6)
    clear D T0 Tb GH AT hd6
    have hal := ok.len
    have hl2 := ok.2.2
    have hab := ok.2.1
    dsimp only at hal hl2 hab
    go_upto_block 0 with fail
    go_cut [] from 17 (fun wr => StQ QOk3 w0 g w wr)
    case first =>
     by_cases h0 : c = 0
     · subst h0
       go_wp2_with fail
       go_region_law ((first
         | (refine step_draw_lit slInt rfl (.tmp 20) (.tmp 24) rfl (GH7.below' good_int (by repeat (first | exact Below.refl _ _ | refine bdr ?_ | refine ba ?_))) (D7.below (by repeat (first | exact Below.refl _ _ | refine bdr ?_ | refine ba ?_))) (show w.heap.size ≤ w.heap.size + 1 by omega) (Nat.le_trans (show w.heap.size + 1 ≤ w7.heap.size by omega) (Below.size (B := w7.heap.size) (by repeat (first | exact Below.refl _ _ | refine bdr ?_ | refine ba ?_)))) rfl w7.heap.size y hy rfl (heap_alloc_new w7 _) (by omega) (by unfold maxLen; omega) ?_
            intro g8 cap8 w8 f8 GH8 D8 gb8 mm8
            have Tb8 := (Tb7.below (by repeat (first | exact Below.refl _ _ | refine bdr ?_ | refine ba ?_))).grown gb8 (fun q hq e => nbh (e ▸ GH7.mem q hq))
            have T08 := (T07.below (by repeat (first | exact Below.refl _ _ | refine bdr ?_ | refine ba ?_))).grown gb8 (fun q hq => by have := GH7.ownB q hq; omega)
            have AT8 : atoms w8 (.slice pa ats.length qa) ats fa := (atoms.below' AT7 (by repeat (first | exact Below.refl _ _ | refine bdr ?_ | refine ba ?_))).frame (fun j hj => gb8.block j (Nat.lt_of_lt_of_le (AT7.lt j hj) (Below.size (B := w7.heap.size) (by repeat (first | exact Below.refl _ _ | refine bdr ?_ | refine ba ?_)))) (fun e => DIS j (GH7.mem j e.symm) hj))
            have mm9 : ∀ j ∈ f8, j ∈ fh ∨ w7.heap.size ≤ j := fun j hj => (mm8.out j hj).imp id (Nat.le_trans (Below.size (B := w7.heap.size) (by repeat (first | exact Below.refl _ _ | refine bdr ?_ | refine ba ?_))))
            obtain ⟨⟨u0, u1⟩, u2, u3⟩ := (id Tb8))
         | (go_simp; go_wp2_with (go_at_call 155; refine (cPickLit_any w0 g w6.drew _ _ D6.drew.new (by decide) (by decide) (by decide +kernel) 4 rfl).mono ?_; rintro e w7 ⟨y, rfl, hy, hd7⟩; have D7 := D6.drew.trans hd7; have Tb7 := (Tb6.below (by repeat (first | exact Below.refl _ _ | refine bdr ?_ | refine ba ?_))).dw hd7 (by omega); have T07 := (T06.below (by repeat (first | exact Below.refl _ _ | refine bdr ?_ | refine ba ?_))).dw hd7 (by omega); have GH7 := (GH6.below' good_int (by repeat (first | exact Below.refl _ _ | refine bdr ?_ | refine ba ?_))).dw good_int hd7 (by omega); have AT7 : atoms w7 (.slice pa ats.length qa) ats fa := slR.dw good_atom (atoms.below' AT6 (by repeat (first | exact Below.refl _ _ | refine bdr ?_ | refine ba ?_))) hd7 hga; have z77 := Tb7.lt; obtain ⟨⟨b70, b71⟩, b72, b73⟩ := (id Tb7)))))
       all_goals (try go_wp2_with fail)
       all_goals have nb8 : w.heap.size + 1 + 1 + 1 ∉ f8 := fun hm => (mm9 _ hm).elim nbh fun h => by have := Tb7.lt; omega
       all_goals have DIS8 : ∀ j ∈ f8, j ∉ fa := fun j hj hm => (mm9 _ hj).elim (fun h => DIS j h hm) fun h => by have := AT7.lt j hm; omega
       all_goals have T8s := T08.far (p := ⟨w.heap.size + 1 + 1 + 1, 0, none⟩) (by show w.heap.size + 1 + 1 + 1 ≠ w.heap.size; omega) (.slice (some ⟨g8, 0, none⟩) (hh.length + 1) cap8)
       all_goals have Tb8s := Tb8.set0 (.slice (some ⟨g8, 0, none⟩) (hh.length + 1) cap8)
       all_goals have GH8s := GH8.set good_int (p := ⟨w.heap.size + 1 + 1 + 1, 0, none⟩) nb8 (.slice (some ⟨g8, 0, none⟩) (hh.length + 1) cap8)
       all_goals have AT8s := atoms.far AT8 (p := ⟨w.heap.size + 1 + 1 + 1, 0, none⟩) nba (.slice (some ⟨g8, 0, none⟩) (hh.length + 1) cap8)
       all_goals have FR8 := GH8.fresh
       all_goals have Ds := D8.set (p := ⟨w.heap.size + 1 + 1 + 1, 0, none⟩) (by show w.heap.size ≤ w.heap.size + 1 + 1 + 1; omega) (.slice (some ⟨g8, 0, none⟩) (hh.length + 1) cap8)
       all_goals obtain ⟨⟨s0, s1⟩, s2, s3⟩ := (id Tb8s)
       all_goals go_meet
       all_goals exact StQ.mk (hh ++ [y]) ats (some ⟨g8, 0, none⟩) pa cap8 qa f8 fa (by simpa using Tb8s) T8s (by simpa using GH8s) AT8s FRA DIS8 nb8 nba (ok.head y) Ds
     by_cases h1 : c = 1
     · subst h1
       obtain ⟨ga, v1, f1, e0, ca0, ca1, za, hI1, ht1, hm1, hn1, hs1, ho1⟩ := atoms_open AT6 FRA.1 hal.1
       cases e0
       obtain ⟨pt, qt, rfl⟩ := slR.form ht1
       have hlt := hab _ (List.getElem_mem hal.1)
       obtain ⟨gt, e0, hf1, ct, zt⟩ := ints.at0 ht1 (by omega)
       cases e0
       have hga3 : ga ≠ w.heap.size + 1 + 1 + 1 := fun e => nba (e ▸ hm1)
       have hgb := FRA.2 ga hm1
       have hgtm : gt ∈ fa := hs1 gt (by simp [hf1])
       have hgt3 : gt ≠ w.heap.size + 1 + 1 + 1 := fun e => nba (e ▸ hgtm)
       have hgtb := FRA.2 gt hgtm
       have hi0 : (0 : Int) < (ats.length : Int) := by omega
       have hi2 : 0 < ats[0].terms.length := by omega
       have hi3 : (0 : Int) < (ats[0].terms.length : Int) := by omega
       have ca1a : (w6.alloc (.cells #[.int .i64 (-1), .int .i64 9, .int .i64 17, .int .i64 18] 3)).cell? ⟨ga, 1, none⟩ = some (.slice (some ⟨gt, 0, none⟩) ats[0].terms.length qt) := cell_al ca1 _
       have ca1b : (w6.alloc (.cells #[.int .i64 (-1), .int .i64 9, .int .i64 17, .int .i64 18] 3)).drew.cell? ⟨ga, 1, none⟩ = some (.slice (some ⟨gt, 0, none⟩) ats[0].terms.length qt) := cell_al ca1 _
       have b1a : (w6.alloc (.cells #[.int .i64 (-1), .int .i64 9, .int .i64 17, .int .i64 18] 3)).cell? ⟨w.heap.size + 1 + 1 + 1, 1, none⟩ = some (.slice (some ⟨ga, 0, none⟩) ats.length qa) := cell_al b1 _
       have b1b : (w6.alloc (.cells #[.int .i64 (-1), .int .i64 9, .int .i64 17, .int .i64 18] 3)).drew.cell? ⟨w.heap.size + 1 + 1 + 1, 1, none⟩ = some (.slice (some ⟨ga, 0, none⟩) ats.length qa) := cell_al b1 _
       go_wp2_with fail
       go_region_law ((first
         | (go_simp; go_wp2_with (go_at_call 155; refine (cPickLit_any w0 g w6.drew _ _ D6.drew.new (by decide) (by decide) (by decide +kernel) 4 rfl).mono ?_; rintro e w7 ⟨y, rfl, hy, hd7⟩; have D7 := D6.drew.trans hd7; have Tb7 := (Tb6.below (by repeat (first | exact Below.refl _ _ | refine bdr ?_ | refine ba ?_))).dw hd7 (by omega); have AT7 : atoms w7 (.slice (some ⟨ga, 0, none⟩) ats.length qa) ats fa := slR.dw good_atom (atoms.below' AT6 (by repeat (first | exact Below.refl _ _ | refine bdr ?_ | refine ba ?_))) hd7 hga; obtain ⟨⟨b70, b71⟩, b72, b73⟩ := (id Tb7); have c71 := hd7.cell (cell_below ca1 (by repeat (first | exact Below.refl _ _ | refine bdr ?_ | refine ba ?_))) (by omega); obtain ⟨ga7, v7, f7, e7, ca70, ca71, za7, hI7, ht7, hm7, hn7, hs7, ho7⟩ := atoms_open AT7 FRA.1 hal.1; cases e7; rw [c71] at ca71; cases ca71; obtain ⟨gt7, e7, hf7, ct7, zt7⟩ := ints.at0 ht7 (by omega); cases e7))))
       all_goals (try go_wp2_with fail)
       all_goals have AS := atoms_term hal.1 ho7 hI7 ht7 hf7 (by omega) y hy
       all_goals have T7 := ((T06.below (by repeat (first | exact Below.refl _ _ | refine bdr ?_ | refine ba ?_))).dw hd7 (by omega)).far (p := ⟨gt, 0, none⟩) (by show gt ≠ w.heap.size; omega) (.int .i64 (y))
       all_goals have Tbs := Tb7.far (p := ⟨gt, 0, none⟩) hgt3 (.int .i64 (y))
       all_goals have GHs := ((GH6.below' good_int (by repeat (first | exact Below.refl _ _ | refine bdr ?_ | refine ba ?_))).dw good_int hd7 (by omega)).set good_int (p := ⟨gt, 0, none⟩) (fun hm => DIS gt hm hgtm) (.int .i64 (y))
       all_goals have Ds := D7.set (p := ⟨gt, 0, none⟩) (by show w.heap.size ≤ gt; omega) (.int .i64 (y))
       all_goals obtain ⟨⟨s0, s1⟩, s2, s3⟩ := (id Tbs)
       all_goals go_meet
       all_goals exact StQ.mk hh (ats.set 0 ⟨ats[0].rel, ats[0].terms.set 0 y⟩) ph (some ⟨ga, 0, none⟩) qh qa fh fa (by simpa using Tbs) T7 GHs (by simpa using AS) FRA DIS nbh nba (ok.set ⟨ats[0].rel, ats[0].terms.set 0 y⟩ (by simpa using hlt)) Ds
     by_cases h2 : c = 2
     · subst h2
       obtain ⟨ga, v1, f1, e0, ca0, ca1, za, hI1, ht1, hm1, hn1, hs1, ho1⟩ := atoms_open AT6 FRA.1 hal.1
       cases e0
       have hga3 : ga ≠ w.heap.size + 1 + 1 + 1 := fun e => nba (e ▸ hm1)
       have hgb := FRA.2 ga hm1
       have hi0 : (0 : Int) < (ats.length : Int) := by omega
       go_wp2_with fail
       go_region_law ((first
         | (go_simp; go_wp2_with (go_at_call 82; refine (cBelow_any w0 g 5 _ (D6.below (by repeat (first | exact Below.refl _ _ | refine bdr ?_ | refine ba ?_))).new (by omega) (by omega)).mono ?_; rintro e w7 ⟨y, rfl, ⟨hy0, hy1⟩, hd7⟩; have D7 := (D6.below (by repeat (first | exact Below.refl _ _ | refine bdr ?_ | refine ba ?_))).trans hd7; have Tb7 := (Tb6.below (by repeat (first | exact Below.refl _ _ | refine bdr ?_ | refine ba ?_))).dw hd7 (by omega); have AT7 : atoms w7 (.slice (some ⟨ga, 0, none⟩) ats.length qa) ats fa := slR.dw good_atom (atoms.below' AT6 (by repeat (first | exact Below.refl _ _ | refine bdr ?_ | refine ba ?_))) hd7 hga; obtain ⟨⟨b70, b71⟩, b72, b73⟩ := (id Tb7); obtain ⟨ga7, v7, f7, e7, ca70, ca71, za7, hI7, ht7, hm7, hn7, hs7, ho7⟩ := atoms_open AT7 FRA.1 hal.1; cases e7; have zf7 := za7 0; have hwy : IntKind.i64.wrap (y - 1) = y - 1 := IntWalk.i64_in _ (by omega)))))
       all_goals (try go_wp2_with fail)
       all_goals have AS := atoms_rel hal.1 ho7 ht7 (y - 1) ⟨by omega, by omega⟩
       all_goals have T7 := ((T06.below (by repeat (first | exact Below.refl _ _ | refine bdr ?_ | refine ba ?_))).dw hd7 (by omega)).far (p := ⟨ga, 0, none⟩) (by show ga ≠ w.heap.size; omega) (.int .i64 (y - 1))
       all_goals have Tbs := Tb7.far (p := ⟨ga, 0, none⟩) hga3 (.int .i64 (y - 1))
       all_goals have GHs := ((GH6.below' good_int (by repeat (first | exact Below.refl _ _ | refine bdr ?_ | refine ba ?_))).dw good_int hd7 (by omega)).set good_int (p := ⟨ga, 0, none⟩) (fun hm => DIS ga hm hm1) (.int .i64 (y - 1))
       all_goals have Ds := D7.set (p := ⟨ga, 0, none⟩) (by show w.heap.size ≤ ga; omega) (.int .i64 (y - 1))
       all_goals obtain ⟨⟨s0, s1⟩, s2, s3⟩ := (id Tbs)
       all_goals go_meet
       all_goals exact StQ.mk hh (ats.set 0 ⟨y - 1, ats[0].terms⟩) ph (some ⟨ga, 0, none⟩) qh qa fh fa (by simpa using Tbs) T7 GHs (by simpa using AS) FRA DIS nbh nba (ok.set ⟨y - 1, ats[0].terms⟩ (hab ats[0] (List.getElem_mem hal.1))) Ds
     go_wp2_with fail
     go_meet
     exact StQ.mk hh ats ph pa qh qa fh fa Tb6 T06 GH6 AT6 FRA DIS nbh nba ok.three D6
    case rest =>
     clear Tb6 T06 GH6 AT6 D6 FRA DIS nbh nba FRH ok hga b0 b1 b2 b3 hal hl2 hab z6 z7
     obtain ⟨hh, ats, ph, pa, qh, qa, fh, fa, Tb6, T06, GH6, AT6, FRA, DIS, nbh, nba, ok, D6⟩ := hcut
     obtain ⟨w9, ew⟩ : ∃ x, x = wc := ⟨_, rfl⟩
     subst ew
     have FRH := GH6.fresh
     obtain ⟨⟨b0, b1⟩, b2, b3⟩ := (id Tb6)
     obtain ⟨⟨t0, t1⟩, v0, v1⟩ := (id T06)
     have hn1 : w.heap.size ∉ fh := fun hm => by have := FRH.2 _ hm; omega
     have hn2 : w.heap.size ∉ fa := fun hm => by have := FRA.2 _ hm; omega
     have HQ := Lib.hid ok
     have HDD := Lib.hid ((D6).two2 (j := w.heap.size) (Nat.le_refl _) (.slice ph hh.length qh) (.slice pa ats.length qa))
     (try go_wp2)
     (try simp only [Exit.inBlock, Exit.then])
     refine bodyPost_ret (v := .agg #[.slice ph hh.length qh, .slice pa ats.length qa]) ?_ rfl ?_
     all_goals (first
       | (rw [results_cell_one rfl]
          simp [asAddr, Result.andThen, load_query2 T06]
          done)
       | exact QysE.mk ⟨hh, ats⟩ _ _ fh fa rfl (ints.far (ints.far GH6.sl (p := ⟨w.heap.size, 0, none⟩) hn1 _) (p := ⟨w.heap.size, 1, none⟩) hn1 _) (FRH.mono (by omega)) (atoms.far (atoms.far AT6 (p := ⟨w.heap.size, 0, none⟩) hn2 _) (p := ⟨w.heap.size, 1, none⟩) hn2 _) (FRA.mono (by omega)) DIS HQ.out HDD.out)
end Go.Proofs.YtpdmdfkcaabnaaaGreatDoor
/- The draws of a query and of an atom. Condition: the code is no longer than 2^20. -/
namespace Go.Proofs.YtpdmdfkcaabnaaaGreatDoor
open Go.RowKit
set_option linter.unusedVariables false
set_option linter.unusedSimpArgs false
theorem atoms_two2 {w : World} {v : Value} {l : List AtomD} {f : List Nat} {g : Nat} (h : atoms w v l f) (hg : g ∉ f) (a b : Value) : atoms (two2 w g a b) v l f := (h.far (p := ⟨g, 0, none⟩) hg a).far (p := ⟨g, 1, none⟩) hg b
theorem load_atom2 {w : World} {g : Nat} {a b : Value} (h : Two w g a b) (a' b' : Value) : (loadVar 69 ⟨g, 0, none⟩).run Tryz.prog ((w.setCell ⟨g, 0, none⟩ a').setCell ⟨g, 1, none⟩ b') = .ok (.agg #[a', b']) ((w.setCell ⟨g, 0, none⟩ a').setCell ⟨g, 1, none⟩ b') := load2 (h.set a' b') Tryz.underlying69 rfl (by kernel_rfl)
theorem load_atom2d {w : World} {g : Nat} {a b : Value} (h : Two w g a b) (a' b' : Value) : (loadVar 69 ⟨g, 0, none⟩).run Tryz.prog ((w.setCell ⟨g, 0, none⟩ a').setCell ⟨g, 1, none⟩ b').drew = .ok (.agg #[a', b']) ((w.setCell ⟨g, 0, none⟩ a').setCell ⟨g, 1, none⟩ b').drew := load2 ((h.set a' b').below (bdr (Below.refl _ _))) Tryz.underlying69 rfl (by kernel_rfl)
/-- A schema and a query. -/
def DiqE (w : World) (e : Ending) (w' : World) : Prop := ∃ (sv : Value) (s : List Int) (fs : List Nat) (q : QueryD) (vh va : Value) (fh fa : List Nat), e = .returned (.tuple #[sv, .agg #[vh, va]]) ∧ ints w' sv s fs ∧ s.length ≤ 4 ∧ ints w' vh q.head fh ∧ atoms w' va q.atoms fa ∧ fa.Nodup ∧ QOk3 q ∧ (∀ j, j ∈ fs ∨ j ∈ fh ∨ j ∈ fa → w.heap.size ≤ j) ∧ Below w.heap.size w w'
theorem DiqE.mk {w : World} {e : Ending} {w' : World} (sv : Value) (s : List Int) (fs : List Nat) (q : QueryD) (vh va : Value) (fh fa : List Nat) (he : e = .returned (.tuple #[sv, .agg #[vh, va]])) (h1 : ints w' sv s fs) (h2 : s.length ≤ 4) (h3 : ints w' vh q.head fh) (h4 : atoms w' va q.atoms fa) (h5 : fa.Nodup) (h6 : QOk3 q) (h8 : ∀ j, j ∈ fs ∨ j ∈ fh ∨ j ∈ fa → w.heap.size ≤ j) (h7 : Below w.heap.size w w') : DiqE w e w' := ⟨sv, s, fs, q, vh, va, fh, fa, he, h1, h2, h3, h4, h5, h6, h8, h7⟩
set_option maxRecDepth 100000 in
set_option maxHeartbeats 1600000 in
theorem DrawIsQuery_any (b : Option Addr) (cap : Nat) (l : List Int) (w : World) (hl : bytesV w (.slice b l.length cap) l) (hn : l.length ≤ 1048576) :
    Calls Tryz.prog 35 #[.slice b l.length cap] w (DiqE w) := by
  have T0 := Two.new w 58 (.slice none 0 0) (.slice none 0 0)
  have hsz : (w.alloc (.cells #[.slice none 0 0, .slice none 0 0] 58)).heap.size = w.heap.size + 1 := by simp only [World.alloc, Array.size_push]
  go_enter Tryz.func35, Tryz.ntmps35
  go_wp2_with fail
  refine (cNew_any b cap l _ (hl.below' (ba (Below.refl _ _))) hn).mono ?_
  rintro e w1 ⟨g, rfl, hc⟩
  go_wp2_with fail
  refine (l2AnySchema_any _ g w1 hc).mono ?_
  rintro e w2 ⟨sv, s, fs, rfl, hs, hsl, d2⟩
  obtain ⟨p, q, rfl⟩ := slR.form hs.sl
  have hglt := hc.lt
  have hgg := hc.hg
  have hgf : g ∉ fs := fun hm => by have := hs.fresh.2 _ hm; omega
  go_wp2_with fail
  refine (l3Any_any _ g _ s fs w2 d2.new hs.sl hgf).mono ?_
  rintro e w3 ⟨⟨hh, ats⟩, vh, va, fh, fa, rfl, hx, hfx, hy, hfy, dis, ok, d3⟩
  dsimp only at hx hy
  obtain ⟨ph, qh, rfl⟩ := slR.form hx
  obtain ⟨pa, qa, rfl⟩ := slR.form hy
  have d := d2.trans d3
  have T3 := (T0.below hc.hb).dw d (by omega)
  obtain ⟨⟨t0, t1⟩, v0, v1⟩ := (id T3)
  have hs3 : ints w3 (.slice p s.length q) s fs := ints.dw hs.sl d3 hgf
  have hn1 : w.heap.size ∉ fs := fun hm => by have := hs.fresh.2 _ hm; omega
  have hz2 := d2.size
  have hn2 : w.heap.size ∉ fh := fun hm => by have := hfx.2 _ hm; omega
  have hn3 : w.heap.size ∉ fa := fun hm => by have := hfy.2 _ hm; omega
  have HB := Lib.hid (below_two2 (g := w.heap.size) (bt (ba (Below.refl _ _)) d.below0) (Nat.le_refl _) (.slice ph hh.length qh) (.slice pa ats.length qa))
  have HJ := Lib.hid (show ∀ j, j ∈ fs ∨ j ∈ fh ∨ j ∈ fa → w.heap.size ≤ j by
    rintro j (h | h | h)
    · have := hs.fresh.2 _ h; omega
    · have := hfx.2 _ h; omega
    · have := hfy.2 _ h; omega)
  clear T0 hsz
  go_wp2
  refine bodyPost_ret (v := .tuple #[.slice p s.length q, .agg #[.slice ph hh.length qh, .slice pa ats.length qa]]) ?_ rfl ?_
  · rw [results_tmp_cell rfl]
    simp [asAddr, Result.andThen, load_query2 T3]
  · exact DiqE.mk _ s fs ⟨hh, ats⟩ _ _ fh fa rfl (ints_two2 hs3 hn1 _ _) hsl.2 (ints_two2 hx hn2 _ _) (atoms_two2 hy hn3 _ _) hfy.1 ok HJ.out HB.out
/-- A schema and an atom. -/
def DiaE (w : World) (e : Ending) (w' : World) : Prop := ∃ (sv : Value) (s : List Int) (fs : List Nat) (a : AtomD) (va : Value) (fa : List Nat), e = .returned (.tuple #[sv, .agg #[.int .i64 a.rel, va]]) ∧ ints w' sv s fs ∧ s.length ≤ 4 ∧ I64 a.rel ∧ ints w' va a.terms fa ∧ a.terms.length ≤ 3 ∧ Below w.heap.size w w'
theorem DiaE.mk {w : World} {e : Ending} {w' : World} (sv : Value) (s : List Int) (fs : List Nat) (a : AtomD) (va : Value) (fa : List Nat) (he : e = .returned (.tuple #[sv, .agg #[.int .i64 a.rel, va]])) (h1 : ints w' sv s fs) (h2 : s.length ≤ 4) (h3 : I64 a.rel) (h4 : ints w' va a.terms fa) (h5 : a.terms.length ≤ 3) (h6 : Below w.heap.size w w') : DiaE w e w' := ⟨sv, s, fs, a, va, fa, he, h1, h2, h3, h4, h5, h6⟩
set_option maxRecDepth 100000 in
set_option maxHeartbeats 1600000 in
theorem DrawIsAtom_any (b : Option Addr) (cap : Nat) (l : List Int) (w : World) (hl : bytesV w (.slice b l.length cap) l) (hn : l.length ≤ 1048576) :
    Calls Tryz.prog 50 #[.slice b l.length cap] w (DiaE w) := by
  have T0 := Two.new w 69 (.int .i64 0) (.slice none 0 0)
  have hsz : (w.alloc (.cells #[.int .i64 0, .slice none 0 0] 69)).heap.size = w.heap.size + 1 := by simp only [World.alloc, Array.size_push]
  go_enter Tryz.func50, Tryz.ntmps50
  go_wp2_with fail
  refine (DrawIsQuery_any b cap l _ (hl.below' (ba (Below.refl _ _))) hn).mono ?_
  rintro e w1 ⟨sv, s, fs, ⟨hh, ats⟩, vh, va, fh, fa, rfl, hs, hsl, hx, hy, hnd, ok, hj, hb⟩
  dsimp only at hx hy
  rw [hsz] at hj
  obtain ⟨p, q, rfl⟩ := slR.form hs
  obtain ⟨ph, qh, rfl⟩ := slR.form hx
  obtain ⟨pa, qa, rfl⟩ := slR.form hy
  have hl1 := ok.1
  have hab := ok.2.1
  dsimp only at hl1 hab
  have hi1 : 0 < ats.length := by omega
  have hi0 : (0 : Int) < (ats.length : Int) := by omega
  have T1 := T0.below hb
  have B1 : Below w.heap.size w w1 := bt (ba (Below.refl _ _)) hb
  obtain ⟨ga, v1, f1, e0, ca0, ca1, za, hI, ht, hm, hn1, hsub, ho⟩ := atoms_open hy hnd hi1
  cases e0
  obtain ⟨pt, qt, rfl⟩ := slR.form ht
  have ca0' := cell_al ca0 (.cells #[.slice ph hh.length qh, .slice (some ⟨ga, 0, none⟩) ats.length qa] 58)
  have ca1' := cell_al ca1 (.cells #[.slice ph hh.length qh, .slice (some ⟨ga, 0, none⟩) ats.length qa] 58)
  have T2 := T1.below (ba (o := .cells #[.slice ph hh.length qh, .slice (some ⟨ga, 0, none⟩) ats.length qa] 58) (Below.refl _ _))
  obtain ⟨⟨t0, t1⟩, v0, v1⟩ := (id T2)
  have hn2 : w.heap.size ∉ fs := fun h => by have := hj _ (.inl h); omega
  have hn3 : w.heap.size ∉ f1 := fun h => by have := hj _ (.inr (.inr (hsub _ h))); omega
  have ht3 := hab ats[0] (List.getElem_mem hi1)
  have HB := Lib.hid (below_two2 (g := w.heap.size) (bt B1 (ba (o := .cells #[.slice ph hh.length qh, .slice (some ⟨ga, 0, none⟩) ats.length qa] 58) (Below.refl _ _))) (Nat.le_refl _) (.int .i64 ats[0].rel) (.slice pt ats[0].terms.length qt))
  go_wp2_with fail
  go_region
  all_goals (try go_wp2_with fail)
  all_goals (try simp only [Exit.inBlock, Exit.then])
  all_goals refine bodyPost_ret (v := .tuple #[.slice p s.length q, .agg #[.int .i64 ats[0].rel, .slice pt ats[0].terms.length qt]]) ?_ rfl ?_
  all_goals (first
    | (rw [results_tmp_cell rfl]
       first
         | (simp [asAddr, Result.andThen, load_atom2 T2]; done)
         | (simp [asAddr, Result.andThen, load_atom2d T2]; done))
    | exact DiaE.mk _ s fs ats[0] _ f1 rfl (ints.below' (ints_two2 (ints.below' hs (ba (Below.refl _ _))) hn2 _ _) (bdr (Below.refl _ _))) hsl hI (ints.below' (ints_two2 (ints.below' ht (ba (Below.refl _ _))) hn3 _ _) (bdr (Below.refl _ _))) ht3.2 (bdr HB.out))
end Go.Proofs.YtpdmdfkcaabnaaaGreatDoor
/- A text that the reference spoils; the draw of a query's text. Condition: the code is no longer than 2^20. -/
namespace Go.Proofs.YtpdmdfkcaabnaaaGreatDoor
open Go.RowKit
set_option linter.unusedVariables false
set_option linter.unusedSimpArgs false
/-- A literal of one byte, as a text. -/
theorem conv_lit (w w' : World) (y : Int) (h0 : 0 ≤ y) (h1 : y ≤ 255) (hb : Below (w.alloc (.cells #[.int .u8 y] 5)).heap.size (w.alloc (.cells #[.int .u8 y] 5)) w') :
    (convert 22 9 (.slice (some ⟨w.heap.size, 0, none⟩) 1 1)).run Tryz.prog w' = .ok (.string ⟨#[UInt8.ofNat y.toNat]⟩) w' := by
  have e : bcells [UInt8.ofNat y.toNat] = [Value.int .u8 y] := by
    obtain ⟨k, rfl⟩ := Int.eq_ofNat_of_zero_le h0
    unfold bcells
    simp only [List.map_cons, List.map_nil, Int.toNat_natCast]
    rw [toNat_ofNat_lt k (by omega)]
  have ho : (w.alloc (.cells #[.int .u8 y] 5)).ownsRow w.heap.size 5 1 (.slice (some ⟨w.heap.size, 0, none⟩) 1 1) 1 (bcells [UInt8.ofNat y.toNat]) := by
    rw [e]
    exact World.ownsRow_lit _ _ _ (Nat.le_refl _) (by unfold maxLen; simp) (by simp)
  have ho2 := own_frame' ho (w' := w') (fun g hg => by
    have hlt := (own_lt ho g hg).2
    exact (SX.of_below hb).2 g hlt (by simp))
  exact own_string ho2
theorem u8_bd (z : Int) : 0 ≤ IntKind.u8.wrap z ∧ IntKind.u8.wrap z ≤ 255 := by
  have h : IntKind.u8.wrap z = z % 256 := by simp [IntKind.wrap, IntKind.bits, IntKind.signed]
  rw [h]; omega
theorem conv_lit8 (w w' : World) (z : Int) (hb : Below (w.alloc (.cells #[.int .u8 (IntKind.u8.wrap z)] 5)).heap.size (w.alloc (.cells #[.int .u8 (IntKind.u8.wrap z)] 5)) w') :
    (convert 22 9 (.slice (some ⟨w.heap.size, 0, none⟩) 1 1)).run Tryz.prog w' = .ok (.string ⟨#[UInt8.ofNat (IntKind.u8.wrap z).toNat]⟩) w' := conv_lit w w' _ (u8_bd z).1 (u8_bd z).2 hb
/-- What a draw of a text ends in. -/
def TxtE (n : Nat) (w0 : World) (g : Nat) (w : World) (e : Ending) (w' : World) : Prop := ∃ s : ByteArray, e = .returned (.string s) ∧ s.size ≤ n ∧ DW w0 g w w'
theorem TxtE.mk {n : Nat} {w0 : World} {g : Nat} {w : World} {e : Ending} {w' : World} (s : ByteArray) (he : e = .returned (.string s)) (h1 : s.size ≤ n) (h2 : DW w0 g w w') : TxtE n w0 g w e w' := ⟨s, he, h1, h2⟩
theorem spoil0 (s : ByteArray) (a b : Nat) (n : Nat) (h : s.size ≤ n) (ha : a ≤ s.size) (hb : a ≤ b) : (s.extract 0 a ++ s.extract b s.size).size ≤ n := by
  simp only [ByteArray.size_append, ByteArray.size_extract]
  omega
theorem spoil1 (s : ByteArray) (y : UInt8) (a b : Nat) (n : Nat) (h : s.size + 1 ≤ n) (ha : a ≤ s.size) (hb : a ≤ b) : (s.extract 0 a ++ ⟨#[y]⟩ ++ s.extract b s.size).size ≤ n := by
  simp only [ByteArray.size_append, ByteArray.size_extract]
  have : (⟨#[y]⟩ : ByteArray).size = 1 := rfl
  omega
set_option maxRecDepth 100000 in
set_option maxHeartbeats 12800000 in
theorem cSpoil_any (w0 : World) (g : Nat) (s : ByteArray) (w : World) (h : CuW w0 g w) (hs : s.size ≤ 1000000) :
    Calls Tryz.prog 129 #[.pointer (some ⟨g, 0, none⟩), .string s] w (TxtE 1000003 w0 g w) := by
  by_cases h0 : s.size = 0
  · have h0i : (s.size : Int) = 0 := by omega
    go_enter Tryz.func129, Tryz.ntmps129
    go_wp2_with fail
    refine (cText_any w0 g 3 _ h (by omega)).mono ?_
    rintro e w1 ⟨t, rfl, ht, hd⟩
    go_wp2
    go_ret
    exact TxtE.mk t rfl (by omega) hd
  · have h0i : ¬ (s.size : Int) = 0 := by omega
    have hpos : (0 : Int) < (s.size : Int) := by omega
    go_enter Tryz.func129, Tryz.ntmps129
    go_wp2_with fail
    refine (cBelow_any w0 g (s.size : Int) _ h (by omega) (by omega)).mono ?_
    rintro e w1 ⟨k0, rfl, ⟨hk0, hk1⟩, d1⟩
    obtain ⟨k, rfl⟩ := Int.eq_ofNat_of_zero_le hk0
    have hkl : k < s.size := by omega
    have hkl1 : (k : Int) + 1 ≤ (s.size : Int) := by omega
    have hkl2 : (k : Int) ≤ (s.size : Int) := by omega
    have hk10 : (0 : Int) ≤ (k : Int) + 1 := by omega
    have hwr : IntKind.i64.wrap ((k : Int) + 1) = (k : Int) + 1 := IntWalk.i64_in _ (by omega)
    have sl1 := fun w => (run_slice_string_h (P := Tryz.prog) w 9 s Tryz.underlying9 .i64 (k : Int) (by omega) (by omega)).trans (by rw [Int.toNat_natCast])
    have sl2 := fun w => (run_slice_string_l (P := Tryz.prog) w 9 s Tryz.underlying9 .i64 ((k : Int) + 1) (by omega) (by omega)).trans (by rw [show ((k : Int) + 1).toNat = k + 1 by omega])
    have sl3 := fun w => (run_slice_string_l (P := Tryz.prog) w 9 s Tryz.underlying9 .i64 (k : Int) (by omega) (by omega)).trans (by rw [Int.toNat_natCast])
    have hm1 : ¬ 9223372036854775807 < min k s.size + 1 := by omega
    have hm2 : ¬ 9223372036854775807 < min k s.size + 1 + (s.size - k) := by omega
    have hm3 : ¬ 9223372036854775807 < min k s.size + 1 + (s.size - (k + 1)) := by omega
    have hm4 : ¬ 9223372036854775807 < min k s.size + 1 + (min s.size s.size - k) := by omega
    have hm5 : ¬ 9223372036854775807 < min k s.size + 1 + (min s.size s.size - (k + 1)) := by omega
    go_wp2_with fail
    refine (cBelow_any w0 g 4 _ d1.new (by omega) (by omega)).mono ?_
    rintro e w2 ⟨c, rfl, ⟨hc0, hc1⟩, d2⟩
    have D2 := d1.trans d2
    clear d1 d2
    by_cases c0 : c = 0
    · subst c0
      go_wp2_with fail
      go_region
      all_goals (try go_wp2_with fail)
      all_goals go_ret
      all_goals exact TxtE.mk _ rfl (spoil0 s _ _ _ (by omega) (by omega) (by omega)) (D2.below (by repeat (first | exact Below.refl _ _ | refine bdr ?_ | refine ba ?_)))
    by_cases c1 : c = 1
    · subst c1
      go_wp2_with fail
      go_region_law ((first
        | (go_simp; go_wp2_with (go_at_call 156; refine (cByte_any w0 g _ (D2.below (by repeat (first | exact Below.refl _ _ | refine bdr ?_ | refine ba ?_))).new).mono ?_; rintro e w3 ⟨y, rfl, ⟨hy0, hy1⟩, d3⟩; have D3 := (D2.below (by repeat (first | exact Below.refl _ _ | refine bdr ?_ | refine ba ?_))).trans d3; have hcv := fun z => conv_lit8 w3 _ z (Below.refl _ _); have hcv1 := fun z => conv_lit8 w3 _ z (bdr (Below.refl _ _))))))
      all_goals (try go_wp2_with fail)
      all_goals go_ret
      all_goals exact TxtE.mk _ rfl (spoil1 s _ _ _ _ (by omega) (by omega) (by omega)) (D3.below (by repeat (first | exact Below.refl _ _ | refine bdr ?_ | refine ba ?_)))
    by_cases c2 : c = 2
    · subst c2
      go_wp2
      go_ret
      exact TxtE.mk _ rfl (by simp only [ByteArray.size_extract]; omega) D2
    have hbm : (0 : Int) < 255 := by omega
    go_wp2_with fail
    go_region_law ((first
      | (go_simp; go_wp2_with (go_at_call 82; refine (cBelow_any w0 g 255 _ (D2.below (by repeat (first | exact Below.refl _ _ | refine bdr ?_ | refine ba ?_))).new (by omega) (by omega)).mono ?_; rintro e w3 ⟨y, rfl, ⟨hy0, hy1⟩, d3⟩; have D3 := (D2.below (by repeat (first | exact Below.refl _ _ | refine bdr ?_ | refine ba ?_))).trans d3; have hwy : IntKind.i64.wrap (1 + y) = 1 + y := IntWalk.i64_in _ (by omega); have hcv := fun z => conv_lit8 w3 _ z (Below.refl _ _); have hcv1 := fun z => conv_lit8 w3 _ z (bdr (Below.refl _ _))))))
    all_goals (try go_wp2_with fail)
    all_goals go_ret
    all_goals exact TxtE.mk _ rfl (spoil1 s _ _ _ _ (by omega) (by omega) (by omega)) (D3.below (by repeat (first | exact Below.refl _ _ | refine bdr ?_ | refine ba ?_)))
theorem queryFS_small {q : QueryD} {w : World} {vh va : Value} {fh fa : List Nat} (hh : ints w vh q.head fh) (ha : atoms w va q.atoms fa) (h3 : QOk3 q) : (queryFS q).length ≤ 900000 := by
  cases h : queryFB q with
  | false => rw [queryFS_no h]; simp
  | true =>
    rw [queryFS_yes h]
    have hI : ∀ y ∈ q.head, I64 y := by obtain ⟨_, _, _, hw⟩ := row_of_ints hh; exact hw
    have hA : ∀ x ∈ q.atoms, ∀ y ∈ x.terms, I64 y := by
      obtain ⟨pa, qa, rfl⟩ := slR.form ha
      intro x hx
      obtain ⟨k, hk, rfl⟩ := List.mem_iff_getElem.1 hx
      obtain ⟨_, _, _, _, ⟨vt, _, _, hvt⟩, _⟩ := slR.at ha k hk
      obtain ⟨_, _, _, hw⟩ := row_of_ints hvt
      exact hw
    have h5 : (headS q.head).length ≤ 100 := by
      unfold headS
      split
      · simp [yesS]
      · have h5 := termsS_len [44] hI
        have h6 : q.head.length * (22 + [(44 : UInt8)].length) ≤ 3 * 23 := Nat.mul_le_mul h3.2.2 (by simp)
        omega
    have h2 := join_length_le andS 150 (q.atoms.map atomFS) (by
      intro x hx
      obtain ⟨n, hn, rfl⟩ := List.mem_map.1 hx
      exact atomFS_len (hA n hn))
    rw [List.length_map] at h2
    have h6 : q.atoms.length * (150 + andS.length) ≤ 3 * 155 := Nat.mul_le_mul h3.1.2 (by simp [andS])
    simp only [List.length_append]
    have h7 : ifS.length = 4 := rfl
    omega
def isStrV : Value → Bool
  | .string s => decide (s.size ≤ 100)
  | _ => false
theorem isStrV_of {v : Value} (h : isStrV v = true) : ∃ s, v = .string s ∧ s.size ≤ 100 := by
  cases v <;> simp [isStrV] at h
  exact ⟨_, rfl, h⟩
set_option maxRecDepth 100000 in
/-- A literal of texts that the walk has just laid. -/
theorem cPickStr_any (w0 : World) (g : Nat) (w : World) (cs : Array Value) (t : TypeId) (h : CuW w0 g w) (hm0 : 0 < cs.size) (hm1 : cs.size ≤ 256) (hc : cs.toList.all isStrV = true) (m : Nat) (hm : cs.size = m) :
    Calls Tryz.prog 130 #[.pointer (some ⟨g, 0, none⟩), .slice (some ⟨w.heap.size, 0, none⟩) m m] (w.alloc (.cells cs t)) (TxtE 1000003 w0 g w) := by
  subst hm
  have hlt := h.lt
  have hL : ∀ k, k < cs.size → ∃ s : ByteArray, (w.alloc (.cells cs t)).cell? ⟨w.heap.size, k, none⟩ = some (.string s) ∧ s.size ≤ 100 := by
    intro k hk
    have h1 := List.all_eq_true.1 hc cs[k] (by simp)
    obtain ⟨s, hs, hn⟩ := isStrV_of h1
    exact ⟨s, cell_new w _ _ k _ (by rw [← hs]; simp [hk]), hn⟩
  have D1 := (DW.refl h).al (.cells cs t)
  go_enter Tryz.func130, Tryz.ntmps130
  go_wp2_with fail
  refine (cBelow_any w0 g (cs.size : Int) _ D1.new (by omega) (by omega)).mono ?_
  rintro e w1 ⟨x, rfl, ⟨hx0, hx1⟩, hd⟩
  obtain ⟨k, rfl⟩ := Int.eq_ofNat_of_zero_le hx0
  obtain ⟨y, hy, hI⟩ := hL k (by omega)
  have hy1 := hd.cell hy (by omega)
  go_wp2
  go_ret
  exact TxtE.mk y rfl (by omega) (D1.trans hd)
/-- A schema and a text. -/
def DpqE (w : World) (e : Ending) (w' : World) : Prop := ∃ (sv : Value) (s : List Int) (fs : List Nat) (t : ByteArray), e = .returned (.tuple #[sv, .string t]) ∧ ints w' sv s fs ∧ s.length ≤ 4 ∧ t.size ≤ 1000003 ∧ Below w.heap.size w w'
theorem DpqE.mk {w : World} {e : Ending} {w' : World} (sv : Value) (s : List Int) (fs : List Nat) (t : ByteArray) (he : e = .returned (.tuple #[sv, .string t])) (h1 : ints w' sv s fs) (h2 : s.length ≤ 4) (h3 : t.size ≤ 1000003) (h4 : Below w.heap.size w w') : DpqE w e w' := ⟨sv, s, fs, t, he, h1, h2, h3, h4⟩
set_option maxRecDepth 100000 in
set_option maxHeartbeats 3200000 in
theorem DrawParseQuery_any (b : Option Addr) (cap : Nat) (l : List Int) (w : World) (hl : bytesV w (.slice b l.length cap) l) (hn : l.length ≤ 1048576) :
    Calls Tryz.prog 51 #[.slice b l.length cap] w (DpqE w) := by
  go_enter Tryz.func51, Tryz.ntmps51
  go_wp2_with fail
  refine (cNew_any b cap l _ hl hn).mono ?_
  rintro e w1 ⟨g, rfl, hc⟩
  go_wp2_with fail
  refine (l2AnySchema_any _ g w1 hc).mono ?_
  rintro e w2 ⟨sv, s, fs, rfl, hs, hsl, d2⟩
  obtain ⟨p, q, rfl⟩ := slR.form hs.sl
  have hglt := hc.lt
  have hgf : g ∉ fs := fun hm => by have := hs.fresh.2 _ hm; omega
  go_wp2_with fail
  refine (l3Any_any _ g _ s fs w2 d2.new hs.sl hgf).mono ?_
  rintro e w3 ⟨qd, vh, va, fh, fa, rfl, hx, hfx, hy, hfy, dis, ok, d3⟩
  have d := d2.trans d3
  have hs3 : ints w3 (.slice p s.length q) s fs := ints.dw hs.sl d3 hgf
  have hsm := queryFS_small hx hy ok
  have htl : (termsL qd.atoms).length ≤ 1048576 := by have := termsL_bd (l := qd.atoms) (n := 3) (fun y hy => (ok.2.1 y hy).2); have := ok.1; omega
  go_wp2_with fail
  refine (specFormatQuery_any qd vh fh va fa _ hx hy htl (by have := ok.2.2; omega) (by have := ok.1; omega)).mono ?_
  rintro e w4 ⟨rfl, hb4⟩
  have d4 := d.below hb4
  have hs4 := ints.below' hs3 hb4
  obtain ⟨t, ht⟩ : ∃ t : ByteArray, t = ⟨(queryFS qd).toArray⟩ := ⟨_, rfl⟩
  have hts : t.size ≤ 900000 := by rw [ht]; simpa [ByteArray.size] using hsm
  rw [← ht]
  clear ht hs3 hb4 hx hy hfx hfy d d2 d3
  go_wp2_with fail
  refine (cBelow_any _ g 4 _ d4.new (by omega) (by omega)).mono ?_
  rintro e w5 ⟨c, rfl, ⟨hc0, hc1⟩, hd5⟩
  have d5 := d4.trans hd5
  have hs5 := ints.dw hs4 hd5 hgf
  clear d4 hd5 hs4
  by_cases h0 : c = 0
  · subst h0
    go_wp2_with fail
    refine (cSpoil_any _ g t _ d5.new (by omega)).mono ?_
    rintro e w6 ⟨u, rfl, hu, hd6⟩
    go_wp2
    go_ret2
    exact DpqE.mk _ s fs u rfl (ints.dw hs5 hd6 hgf) hsl.2 hu (d5.trans hd6).below0
  by_cases h1 : c = 1
  · subst h1
    go_wp2_with fail
    refine (cPickStr_any _ g _ _ _ d5.new (by decide) (by decide) (by decide +kernel) 9 rfl).mono ?_
    rintro e w6 ⟨u, rfl, hu, hd6⟩
    go_wp2
    go_ret2
    exact DpqE.mk _ s fs u rfl (ints.dw hs5 hd6 hgf) hsl.2 hu (d5.trans hd6).below0
  go_wp2
  go_ret2
  exact DpqE.mk _ s fs t rfl hs5 hsl.2 (by omega) d5.below0
end Go.Proofs.YtpdmdfkcaabnaaaGreatDoor
