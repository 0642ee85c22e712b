/- The facts that the reference draws. No condition. -/
import Derived.Test.YtpdmdfkcaabnaaaGreatDoorDrawB
import Derived.Test.YtpdmdfkcaabnaaaGreatDoorMA
import Derived.Test.YtpdmdfkcaabnaaaGreatDoorAddS
import Derived.Laws.ResultCell
namespace Go.Proofs.YtpdmdfkcaabnaaaGreatDoor
open Go.RowKit
set_option linter.unusedVariables false
set_option linter.unusedSimpArgs false
theorem Two.dw {w0 w w' : World} {g j : Nat} {a b : Value} (h : Two w j a b) (d : DW w0 g w w') (hj : j ≠ g) : Two w' j a b := h.sx d.sx (by simpa using hj)
theorem Two.grown {w w' : World} {j : Nat} {a b : Value} {o : Option Nat} (h : Two w j a b) (hg : w.grownBy w' o) (ho : ∀ q, o = some q → q ≠ j) : Two w' j a b := by
  have s : SX o.toList w w' := ⟨hg.size, fun j hj hn => hg.block j hj (by intro e; subst e; simp at hn)⟩
  exact h.sx s (fun hm => ho j (by simpa using hm) rfl)
theorem Two.far {w : World} {j : Nat} {a b : Value} (h : Two w j a b) {p : Addr} (hp : p.block ≠ j) (u : Value) : Two (w.setCell p u) j a b := h.sx (SX.set p u) (by simpa using Ne.symm hp)
theorem DW.two2 {w0 w w1 : World} {g j : Nat} (h : DW w0 g w w1) (hj : w.heap.size ≤ j) (a b : Value) : DW w0 g w (two2 w1 j a b) := (h.set (p := ⟨j, 0, none⟩) hj a).set (p := ⟨j, 1, none⟩) hj b
theorem results_cell_one {fn : Func} {p : Tmp} {ty : TypeId} (h : fn.results = #[.cell p ty]) (tmps : Array Value) (P : Program) (w : World) :
    (results fn tmps).run P w = ((asAddr (tmps.getD p undef)).run P w).andThen fun a w₁ => (loadVar ty a).run P w₁ := by
  simp only [results, h]
  simp [Sem.run_bind, Result.andThen]
theorem schema_len {s : List Int} (h : schemaB s = true) : 1 ≤ s.length ∧ s.length ≤ 3 := by
  unfold schemaB at h
  simp only [Bool.and_eq_true] at h
  have := inR_true h.1
  omega
theorem schema_at {s : List Int} (h : schemaB s = true) {k : Nat} (hk : k < s.length) : ∃ a : Nat, s[k] = (a : Int) ∧ 1 ≤ a ∧ a ≤ 3 := by
  unfold schemaB at h
  simp only [Bool.and_eq_true, Bool.not_eq_true'] at h
  have h2 := (List.any_eq_false.1 h.2) s[k] (List.getElem_mem hk)
  have h3 : inR s[k] 1 3 = true := by simpa using h2
  have h4 := inR_true h3
  obtain ⟨a, ha⟩ := Int.eq_ofNat_of_zero_le (show 0 ≤ s[k] by omega)
  exact ⟨a, ha, by omega, by omega⟩
/-- What a draw of a fact ends in. -/
def FctE (P : FactD → Prop) (w0 : World) (g : Nat) (w : World) (e : Ending) (w' : World) : Prop := ∃ (x : FactD) (v : Value) (f : List Nat), e = .returned (.agg #[.int .i64 x.rel, v]) ∧ I64 x.rel ∧ grR 3 1 intR w.heap.size w' v x.vals f ∧ P x ∧ DW w0 g w w'
theorem FctE.mk {P : FactD → Prop} {w0 : World} {g : Nat} {w : World} {e : Ending} {w' : World} (x : FactD) (v : Value) (f : List Nat) (he : e = .returned (.agg #[.int .i64 x.rel, v])) (hi : I64 x.rel) (h1 : grR 3 1 intR w.heap.size w' v x.vals f) (h2 : P x) (h3 : DW w0 g w w') : FctE P w0 g w e w' := ⟨x, v, f, he, hi, h1, h2, h3⟩
theorem load_fact2 {w : World} {g : Nat} {a b : Value} (h : Two w g a b) (a' b' : Value) : (loadVar 79 ⟨g, 0, none⟩).run Tryz.prog ((w.setCell ⟨g, 0, none⟩ a').setCell ⟨g, 1, none⟩ b') = .ok (.agg #[a', b']) ((w.setCell ⟨g, 0, none⟩ a').setCell ⟨g, 1, none⟩ b') := load2 (h.set a' b') Tryz.underlying79 rfl (by kernel_rfl)
def FcsE (P : FactD → Prop) (w0 : World) (g : Nat) (w : World) (e : Ending) (w' : World) : Prop := ∃ (x : FactD) (v : Value) (f : List Nat), e = .returned (.agg #[.int .i64 x.rel, v]) ∧ I64 x.rel ∧ ints w' v x.vals f ∧ Fresh w.heap.size f ∧ P x ∧ DW w0 g w w'
theorem FcsE.mk {P : FactD → Prop} {w0 : World} {g : Nat} {w : World} {e : Ending} {w' : World} (x : FactD) (v : Value) (f : List Nat) (he : e = .returned (.agg #[.int .i64 x.rel, v])) (hi : I64 x.rel) (h1 : ints w' v x.vals f) (hf : Fresh w.heap.size f) (h2 : P x) (h3 : DW w0 g w w') : FcsE P w0 g w e w' := ⟨x, v, f, he, hi, h1, hf, h2, h3⟩
set_option maxRecDepth 100000 in
set_option maxHeartbeats 3200000 in
theorem l2Fact_any (w0 : World) (g : Nat) (sv : Value) (s : List Int) (fs : List Nat) (wide : Nat) (w : World) (h : CuW w0 g w) (hs : ints w sv s fs) (hgf : g ∉ fs) (hsc : schemaB s = true) (hw0 : 0 < wide) (hw1 : wide ≤ 256) :
    Calls Tryz.prog 138 #[.pointer (some ⟨g, 0, none⟩), sv, .int .i64 (wide : Int)] w (FctE (fun x => 1 ≤ x.vals.length ∧ x.vals.length ≤ 3) w0 g w) := by
  obtain ⟨ps, qs, rfl⟩ := slR.form hs
  have hsl := schema_len hsc
  obtain ⟨gs, rfl, _⟩ := hs.get 0 (by omega)
  have hglt := h.lt
  have hal := (DW.refl h).al (.cells #[.int .i64 0, .slice none 0 0] 79)
  have T0 := Two.new w 79 (.int .i64 0) (.slice none 0 0)
  have hsz0 : (w.alloc (.cells #[.int .i64 0, .slice none 0 0] 79)).heap.size = w.heap.size + 1 := by simp only [World.alloc, Array.size_push]
  go_enter Tryz.func138, Tryz.ntmps138
  go_wp2_with fail
  refine (cBelow_any w0 g (s.length : Int) _ hal.new (by omega) (by omega)).mono ?_
  rintro e w1 ⟨r, rfl, ⟨hr0, hr1⟩, hd1⟩
  obtain ⟨r1, rfl⟩ := Int.eq_ofNat_of_zero_le hr0
  have hr1' : r1 < s.length := by omega
  obtain ⟨a, ha, ha1, ha3⟩ := schema_at hsc hr1'
  generalize w.alloc (.cells #[.int .i64 0, .slice none 0 0] 79) = W0 at hal T0 hsz0 hd1
  have hb1 := Two.new w1 79 (.int .i64 (r1 : Int)) (.slice none 0 0)
  have hd2 := hd1.al (.cells #[.int .i64 (r1 : Int), .slice none 0 0] 79)
  have hsz1 : W0.heap.size ≤ w1.heap.size := hd1.size
  clear hd1
  go_wp2
  go_loopw [8, 9] (fun i y wr => ∃ (k : Nat) (l : List Int) (v : Value) (f : List Nat), i = .int .i64 (k : Int) ∧ l.length = k ∧ k ≤ a ∧ Two wr w1.heap.size (.int .i64 (r1 : Int)) v ∧ grR 3 1 intR (w1.heap.size + 1) wr v l f ∧ DW w0 g W0 wr) (fun i _ _ => a - (intOf i).toNat)
  case atStart => exact ⟨0, [], .slice none 0 0, [], rfl, rfl, Nat.zero_le _, hb1, grR.nilv _, hd2⟩
  case round =>
    obtain ⟨k, l, v, f, rfl, hlk, hka, hbx, hgr, hdr⟩ := hrel
    have Hlk := Lib.hid hlk
    have hlen : l.length ≤ 3 := by omega
    clear hlk
    obtain ⟨p, q, rfl⟩ := slR.form hgr.sl
    have hs1 := hs.dw (hal.trans hdr) hgf
    obtain ⟨g', e', cs, _, _, _⟩ := hs1.get r1 hr1'
    cases e'
    rw [ha] at cs
    have hbx' := hbx
    obtain ⟨⟨c0, c1⟩, z0, z1⟩ := hbx'
    have hrl : (r1 : Int) < (s.length : Int) := by omega
    have hr00 : (0 : Int) ≤ (r1 : Int) := by omega
    have hwr := hbx.lt
    by_cases hk : k < a
    · have hki : (k : Int) < (a : Int) := by omega
      go_wp2_with fail
      refine (cBelow_any w0 g (wide : Int) _ hdr.new (by omega) (by omega)).mono ?_
      rintro e w2 ⟨y, rfl, ⟨hy0, hy1⟩, hd3⟩
      have hbx2 := hbx.dw hd3 (by omega)
      have hgr2 := hgr.dw good_int hd3 (by omega)
      have hdr2 := hdr.trans hd3
      have hwr2 := hbx2.lt
      have hbx2' := hbx2
      obtain ⟨⟨e0, e1⟩, y0, y1⟩ := hbx2'
      clear c0 c1 z0 z1 hbx hgr hdr hd3 cs hs1 hwr
      have hy : I64 y := ⟨by omega, by omega⟩
      go_wp2_with (at_builtin; refine wpList_draw slInt good_int rfl _ _ rfl hgr2 hdr2 (show W0.heap.size ≤ w1.heap.size + 1 by omega) (by omega) rfl #[.int .i64 y] y [] ⟨rfl, rfl, hy⟩ rfl (Fresh.nil _) (by simp) rfl (by simp [Value.oneCell']) (by omega) (by unfold maxLen; omega) ?_; intro g4 cap4 w4 f4 hgr4 hdr4 hgb4 hmm4; have hbx4 := hbx2.grown hgb4 (fun q hq => by have := hgr2.ownB q hq; omega); have hbx4' := hbx4; obtain ⟨⟨u0, u1⟩, x0, x1⟩ := hbx4')
      have hnf : w1.heap.size ∉ f4 := fun hm => by have := hgr4.fresh.2 _ hm; omega
      go_roundw
      case rel => exact ⟨k + 1, l ++ [y], _, f4, by go_num, by simp [Hlk.out], by omega, hbx4.set1 _, by simpa using hgr4.set good_int (p := ⟨w1.heap.size, 1, none⟩) hnf _, hdr4.set (by show W0.heap.size ≤ w1.heap.size; omega) _⟩
      case measure => simp [intOf]; omega
    · have hka' : k = a := by omega
      have Hk := Lib.hid hka'
      have hki : ¬ (k : Int) < (a : Int) := by omega
      have T1 := T0.dw hdr (by omega)
      have hne : w1.heap.size ≠ w.heap.size := by omega
      have hnf : w.heap.size ∉ f := fun hm => by have := hgr.fresh.2 _ hm; omega
      have T1' := T1
      obtain ⟨⟨t0, t1⟩, v0, v1⟩ := T1'
      clear hka'
      go_wp2
      (try simp only [Exit.inBlock, Exit.then])
      refine bodyPost_ret (v := .agg #[.int .i64 (r1 : Int), .slice p l.length q]) ?_ rfl ?_
      · rw [results_cell_one rfl]
        simp [asAddr, Result.andThen, load_fact2 T1]
      · have hl := Hlk.out
        have hk := Hk.out
        exact FctE.mk ⟨(r1 : Int), l⟩ _ f rfl ⟨by show _ ≤ (r1 : Int); omega, by show (r1 : Int) ≤ _; omega⟩ (((hgr.set good_int (p := ⟨w.heap.size, 0, none⟩) hnf _).set good_int (p := ⟨w.heap.size, 1, none⟩) hnf _).less (by omega)) ⟨by show 1 ≤ l.length; omega, by show l.length ≤ 3; omega⟩ ((hal.trans hdr).two2 (Nat.le_refl _) _ _)
theorem one_block {w : World} {v : Value} {l : List Int} {f : List Nat} {g : Nat} (h : ints w v l f) (hg : g ∈ f) : f = [g] := by
  obtain ⟨o, _, rfl, _⟩ := row_of_ints h
  cases o with
  | none => simp at hg
  | some q => simp at hg; subst hg; rfl
theorem grR.lit_ints {w : World} {B : Nat} (l : List Int) (hB : B ≤ w.heap.size) (hi : ∀ x ∈ l, I64 x) (hn : l.length ≤ maxLen) : grR 3 1 intR B (w.alloc (.cells (icells l).toArray 3)) (.slice (some ⟨w.heap.size, 0, none⟩) l.length l.length) l [w.heap.size] := by
  refine ⟨l.map fun n => [.int .i64 n], l.map fun _ => [], all_ints _ l hi, ?_, ?_, by simp [Value.ownBlock], ⟨by simp, by simpa using hB⟩⟩
  · intro c hc
    obtain ⟨x, _, rfl⟩ := List.mem_map.1 hc
    rfl
  · rw [icells_rows]
    exact World.ownsRow_lit _ _ _ hB (by simpa using hn) (by simp [icells])
theorem grR.at0 {w : World} {B : Nat} {p : Option Addr} {q : Nat} {l : List Int} {f : List Nat} (h : grR 3 1 intR B w (.slice p l.length q) l f) (hl : 0 < l.length) : ∃ g, p = some ⟨g, 0, none⟩ ∧ w.cell? ⟨g, 0, none⟩ = some (.int .i64 l[0]) ∧ w.frozen? ⟨g, 0, none⟩ = false ∧ True ∧ True ∧ True := by
  have hs : ints w (.slice p l.length q) l f := h.sl
  obtain ⟨g, hp, hc, _⟩ := hs.get 0 hl
  obtain ⟨_, c, fi, hp2, _, _, _, hz, _⟩ := slR.at hs 0 hl
  rw [hp] at hp2
  cases hp2
  exact ⟨g, hp, by simpa using hc, hz 0, trivial, trivial, trivial⟩
set_option maxRecDepth 100000 in
set_option maxHeartbeats 6400000 in
theorem l2AnyFact_any (w0 : World) (g : Nat) (sv : Value) (s : List Int) (fs : List Nat) (w : World) (h : CuW w0 g w) (hs : ints w sv s fs) (hgf : g ∉ fs) :
    Calls Tryz.prog 139 #[.pointer (some ⟨g, 0, none⟩), sv] w (FcsE (fun x => 1 ≤ x.vals.length ∧ x.vals.length ≤ 4) w0 g w) := by
  obtain ⟨ps, qs, rfl⟩ := slR.form hs
  have hglt := h.lt
  have D1 := (((DW.refl h).al (.cells #[.int .i64 0, .slice none 0 0] 79)).al (.cells #[.int .i64 1] 3)).al (.cells #[.int .i64 0, .slice (some ⟨w.heap.size + 1, 0, none⟩) 1 1] 79)
  have z1 : (w.alloc (.cells #[.int .i64 0, .slice none 0 0] 79)).heap.size = w.heap.size + 1 := by simp only [World.alloc, Array.size_push]
  have z2 : ((w.alloc (.cells #[.int .i64 0, .slice none 0 0] 79)).alloc (.cells #[.int .i64 1] 3)).heap.size = w.heap.size + 1 + 1 := by simp only [World.alloc, Array.size_push]
  have T01 : Two (((w.alloc (.cells #[.int .i64 0, .slice none 0 0] 79)).alloc (.cells #[.int .i64 1] 3)).alloc (.cells #[.int .i64 0, .slice (some ⟨w.heap.size + 1, 0, none⟩) 1 1] 79)) w.heap.size (.int .i64 0) (.slice none 0 0) := (Two.new w 79 _ _).below (ba (ba (Below.refl _ _)))
  have Tb1 := Two.new ((w.alloc (.cells #[.int .i64 0, .slice none 0 0] 79)).alloc (.cells #[.int .i64 1] 3)) 79 (.int .i64 0) (.slice (some ⟨w.heap.size + 1, 0, none⟩) 1 1)
  have G1 := (grR.lit_ints (w := w.alloc (.cells #[.int .i64 0, .slice none 0 0] 79)) (B := w.heap.size + 1) [1] (by omega) (fun x hx => by rw [List.mem_singleton.1 hx]; exact ⟨by omega, by omega⟩) (by unfold maxLen; simp)).below' good_int (ba (o := .cells #[.int .i64 0, .slice (some ⟨w.heap.size + 1, 0, none⟩) 1 1] 79) (Below.refl _ _))
  rw [z1] at G1
  rw [z2] at Tb1
  have G1 : grR 3 1 intR (w.heap.size + 1) (((w.alloc (.cells #[.int .i64 0, .slice none 0 0] 79)).alloc (.cells #[.int .i64 1] 3)).alloc (.cells #[.int .i64 0, .slice (some ⟨w.heap.size + 1, 0, none⟩) 1 1] 79)) (.slice (some ⟨w.heap.size + 1, 0, none⟩) 1 1) [1] [w.heap.size + 1] := G1
  have z3 : (((w.alloc (.cells #[.int .i64 0, .slice none 0 0] 79)).alloc (.cells #[.int .i64 1] 3)).alloc (.cells #[.int .i64 0, .slice (some ⟨w.heap.size + 1, 0, none⟩) 1 1] 79)).heap.size = w.heap.size + 1 + 1 + 1 := by simp only [World.alloc, Array.size_push]
  go_enter Tryz.func139, Tryz.ntmps139
  go_wp2_with fail
  obtain ⟨W1, hW1⟩ : ∃ W1, W1 = (((w.alloc (.cells #[.int .i64 0, .slice none 0 0] 79)).alloc (.cells #[.int .i64 1] 3)).alloc (.cells #[.int .i64 0, .slice (some ⟨w.heap.size + 1, 0, none⟩) 1 1] 79)) := ⟨_, rfl⟩
  rw [← hW1] at D1 T01 Tb1 G1 z3 ⊢
  clear hW1 z1 z2
  have hs1 := hs.dw D1 hgf
  refine (specIsSchema_any _ s fs _ hs1).mono ?_
  rintro e _ ⟨rfl, rfl⟩
  cases hsc : schemaB s with
  | false =>
    have D := D1
    have T0 := T01
    have Tb : Two W1 (w.heap.size + 1 + 1) (.int .i64 (FactD.mk 0 [1]).rel) (.slice (some ⟨w.heap.size + 1, 0, none⟩) 1 1) := Tb1
    have G : grR 3 1 intR (w.heap.size + 1) W1 (.slice (some ⟨w.heap.size + 1, 0, none⟩) 1 1) (FactD.mk 0 [1]).vals [w.heap.size + 1] := G1
    have nb : w.heap.size + 1 + 1 ∉ [w.heap.size + 1] := by simp
    have hr : I64 (FactD.mk 0 [1]).rel := ⟨by show _ ≤ (0 : Int); omega, by show (0 : Int) ≤ _; omega⟩
    have hl : 1 ≤ (FactD.mk 0 [1]).vals.length ∧ (FactD.mk 0 [1]).vals.length ≤ 3 := by simp
    clear D1 T01 Tb1 G1 hs1
    generalize Value.slice (some ⟨w.heap.size + 1, 0, none⟩) 1 1 = vv at Tb G
    generalize FactD.mk 0 [1] = x at Tb G hr hl
    generalize [w.heap.size + 1] = f at G nb
    obtain ⟨xr, xv⟩ := x
    dsimp only at Tb G hr hl
    go_wp2_with fail
    refine (cBelow_any w0 g 8 _ D.new (by omega) (by omega)).mono ?_
    rintro e w6 ⟨c, rfl, ⟨hc0, hc1⟩, hd6⟩
    have D6 := D.trans hd6
    have T06 := T0.dw hd6 (by omega)
    have Tb6 := Tb.dw hd6 (by omega)
    have G6 := G.dw good_int hd6 (by omega)
    obtain ⟨p, q, rfl⟩ := slR.form G6.sl
    have z6 := T06.lt
    have z7 := Tb6.lt
    have Tb6' := Tb6
    obtain ⟨⟨b0, b1⟩, b2, b3⟩ := Tb6'
    clear D T0 Tb G hd6
    obtain ⟨hl1, hl3⟩ := hl
    by_cases h0 : c = 0
    · subst h0
      go_wp2_with fail
      refine (cBelow_any w0 g 5 _ D6.new (by omega) (by omega)).mono ?_
      rintro e w7 ⟨y, rfl, ⟨hy0, hy1⟩, hd7⟩
      have D7 := D6.trans hd7
      have T07 := T06.dw hd7 (by omega)
      have Tb7 := Tb6.dw hd7 (by omega)
      have G7 := G6.dw good_int hd7 (by omega)
      have Ts := Tb7.set0 (.int .i64 (y - 1))
      have Gs := G7.set good_int (p := ⟨w.heap.size + 1 + 1, 0, none⟩) nb (.int .i64 (y - 1))
      have Ds := D7.set (p := ⟨w.heap.size + 1 + 1, 0, none⟩) (by show w.heap.size ≤ w.heap.size + 1 + 1; omega) (.int .i64 (y - 1))
      have T0s := T07.far (p := ⟨w.heap.size + 1 + 1, 0, none⟩) (by show w.heap.size + 1 + 1 ≠ w.heap.size; omega) (.int .i64 (y - 1))
      have HR := Lib.hid (show I64 (y - 1) from ⟨by omega, by omega⟩)
      have HL := Lib.hid (show 1 ≤ xv.length ∧ xv.length ≤ 4 from ⟨by omega, by omega⟩)
      clear b0 b1 b2 b3 Tb6 T06 G6
      have Tb7' := Tb7
      obtain ⟨⟨b0, b1⟩, b2, b3⟩ := Tb7'
      have HFr := Lib.hid Gs.fresh
      have Gs := Gs.sl
      have T1' := T0s
      obtain ⟨⟨t0, t1⟩, v0, v1⟩ := T1'
      have T5' := Ts
      obtain ⟨⟨t2, t3⟩, v2, v3⟩ := T5'
      have hnf : w.heap.size ∉ f := fun hm => by have := HFr.out.2 _ hm; omega
      (try go_wp2)
      (try simp only [Exit.inBlock, Exit.then])
      refine bodyPost_ret (v := .agg #[.int .i64 (y - 1), .slice p xv.length q]) ?_ rfl ?_
      · rw [results_cell_one rfl]
        simp [asAddr, Result.andThen, load_fact2 T0s]
      · exact FcsE.mk ⟨y - 1, xv⟩ _ f rfl HR.out (ints.far (ints.far Gs (p := ⟨w.heap.size, 0, none⟩) hnf _) (p := ⟨w.heap.size, 1, none⟩) hnf _) (HFr.out.mono (by omega)) HL.out (Ds.two2 (Nat.le_refl _) _ _)
    by_cases h1 : c = 1
    · subst h1
      obtain ⟨gv, e0, cv, zv, _⟩ := G6.at0 (by omega)
      cases e0
      have hgf : gv ∈ f := G6.mem gv rfl
      have hgb : gv ≠ w.heap.size + 1 + 1 := fun e => nb (e ▸ hgf)
      have hgv := G6.fresh.2 gv hgf
      have hi0 : (0 : Int) < (xv.length : Int) := by omega
      have hi1 : 0 < xv.length := by omega
      go_wp2_with fail
      go_region_held3 (fun w' => w'.cell? ⟨w.heap.size + 1 + 1, 1, none⟩ = some (.slice (some ⟨gv, 0, none⟩) xv.length q)) (first | exact b1 | exact cell_al b1 _ | exact b71 | exact bs7)
        (first
          | (go_at_call 155
             refine (cPickLit_any w0 g _ _ _ (D6.drew).new (by decide) (by decide) (by decide +kernel) 3 rfl).mono ?_
             rintro e w7 ⟨y, rfl, hy, hd7⟩
             have D7 := (D6.drew).trans hd7
             have T07 := (T06.below (bdr (Below.refl _ _))).dw hd7 (by omega)
             have Tb7 := (Tb6.below (bdr (Below.refl _ _))).dw hd7 (by omega)
             have G7 := (G6.below' good_int (bdr (Below.refl _ _))).dw good_int hd7 (by omega)
             obtain ⟨⟨b70, b71⟩, b72, b73⟩ := (id Tb7)
             obtain ⟨gv', e0, cv7, fz7, _⟩ := G7.at0 (by omega)
             cases e0
             have bs7 := (World.cell?_setCell_other w7 ⟨gv, 0, none⟩ ⟨w.heap.size + 1 + 1, 1, none⟩ (.int .i64 y) (by intro e; have e2 := congrArg Addr.block e; simp at e2; omega)).trans b71))
      have HR := Lib.hid hr
      have HL := Lib.hid (show 1 ≤ (xv.set 0 y).length ∧ (xv.set 0 y).length ≤ 4 from ⟨by rw [List.length_set]; omega, by rw [List.length_set]; omega⟩)
      have Ts := Tb7.far (p := ⟨gv, 0, none⟩) hgb (.int .i64 y)
      have T0s := T07.far (p := ⟨gv, 0, none⟩) (by show gv ≠ w.heap.size; omega) (.int .i64 y)
      have Ds := D7.set (p := ⟨gv, 0, none⟩) (by show w.heap.size ≤ gv; omega) (.int .i64 y)
      have HFr := Lib.hid G7.fresh
      have Gs := ints.store (g := gv) (show ints w7 (.slice (some ⟨gv, 0, none⟩) xv.length q) xv f from G7.sl) 0 hi1 (one_block (show ints w7 (.slice (some ⟨gv, 0, none⟩) xv.length q) xv f from G7.sl) hgf) y hy
      clear b0 b1 b2 b3 b70 b71 b72 b73 bs7
      have T1' := T0s
      obtain ⟨⟨t0, t1⟩, v0, v1⟩ := T1'
      have T5' := Ts
      obtain ⟨⟨t2, t3⟩, v2, v3⟩ := T5'
      have hnf : w.heap.size ∉ f := fun hm => by have := HFr.out.2 _ hm; omega
      (try go_wp2)
      (try simp only [Exit.inBlock, Exit.then])
      refine bodyPost_ret (v := .agg #[.int .i64 (xr), .slice (some ⟨gv, 0, none⟩) xv.length q]) ?_ rfl ?_
      · rw [results_cell_one rfl]
        simp [asAddr, Result.andThen, load_fact2 T0s]
      · exact FcsE.mk ⟨xr, xv.set 0 y⟩ _ f rfl HR.out (ints.far (ints.far Gs (p := ⟨w.heap.size, 0, none⟩) hnf _) (p := ⟨w.heap.size, 1, none⟩) hnf _) (HFr.out.mono (by omega)) HL.out (Ds.two2 (Nat.le_refl _) _ _)
    by_cases h2 : c = 2
    · subst h2
      have hd6s : w.heap.size ≤ w.heap.size + 1 := by omega
      have HR := Lib.hid hr
      have HL := Lib.hid (show 1 ≤ (xv ++ [(1 : Int)]).length ∧ (xv ++ [(1 : Int)]).length ≤ 4 from ⟨by simp, by simp; omega⟩)
      go_wp2_with (at_builtin; refine wpList_draw slInt good_int rfl _ _ rfl G6 D6 hd6s (by omega) rfl #[.int .i64 1] 1 [] ⟨rfl, rfl, ⟨by omega, by omega⟩⟩ rfl (Fresh.nil _) (by simp) rfl (by simp [Value.oneCell']) (by omega) (by unfold maxLen; omega) ?_; intro g7 cap7 w7 f7 G7 D7 gb7 mm7; have Tb7 := Tb6.grown gb7 (fun q hq e => nb (e ▸ G6.mem q hq)); have T07 := T06.grown gb7 (fun q hq => by have := G6.ownB q hq; omega); have Tb7' := Tb7; obtain ⟨⟨u0, u1⟩, x0, x1⟩ := Tb7'; have Ts := Tb7.set1 (.slice (some ⟨g7, 0, none⟩) (xv.length + 1) cap7); have T0s := T07.far (p := ⟨w.heap.size + 1 + 1, 1, none⟩) (by show w.heap.size + 1 + 1 ≠ w.heap.size; omega) (.slice (some ⟨g7, 0, none⟩) (xv.length + 1) cap7); have Ts' := Ts; obtain ⟨⟨s0, s1⟩, s2, s3⟩ := Ts'; have T0s' := T0s; obtain ⟨⟨s4, s5⟩, s6, s7⟩ := T0s')
      have nb7 : w.heap.size + 1 + 1 ∉ f7 := fun hm => (mm7.out _ hm).elim nb fun h => h.elim (by simp) (by omega)
      have Gs : grR 3 1 intR (w.heap.size + 1) _ (.slice (some ⟨g7, 0, none⟩) (xv.length + 1) cap7) (xv ++ [(1 : Int)]) f7 := G7.set good_int (p := ⟨w.heap.size + 1 + 1, 1, none⟩) nb7 (.slice (some ⟨g7, 0, none⟩) (xv.length + 1) cap7)
      have Ds := D7.set (p := ⟨w.heap.size + 1 + 1, 1, none⟩) (by show w.heap.size ≤ w.heap.size + 1 + 1; omega) (.slice (some ⟨g7, 0, none⟩) (xv.length + 1) cap7)
      have HFr := Lib.hid Gs.fresh
      have Gs := Gs.sl
      have T1' := T0s
      obtain ⟨⟨t0, t1⟩, v0, v1⟩ := T1'
      have T5' := Ts
      obtain ⟨⟨t2, t3⟩, v2, v3⟩ := T5'
      have hnf : w.heap.size ∉ f7 := fun hm => by have := HFr.out.2 _ hm; omega
      (try go_wp2)
      (try simp only [Exit.inBlock, Exit.then])
      refine bodyPost_ret (v := .agg #[.int .i64 (xr), .slice (some ⟨g7, 0, none⟩) (xv.length + 1) cap7]) ?_ rfl ?_
      · rw [results_cell_one rfl]
        simp [asAddr, Result.andThen, load_fact2 T0s]
      · exact FcsE.mk ⟨xr, xv ++ [(1 : Int)]⟩ _ f7 rfl HR.out (ints.far (ints.far Gs (p := ⟨w.heap.size, 0, none⟩) hnf _) (p := ⟨w.heap.size, 1, none⟩) hnf _) (HFr.out.mono (by omega)) HL.out (Ds.two2 (Nat.le_refl _) _ _)
    have hc3 : (c == 0) = false := by simp [h0]
    have hc4 : (c == 1) = false := by simp [h1]
    have hc5 : (c == 2) = false := by simp [h2]
    have HR := Lib.hid hr
    have HL := Lib.hid (show 1 ≤ xv.length ∧ xv.length ≤ 4 from ⟨by omega, by omega⟩)
    have HFr := Lib.hid G6.fresh
    have G6 := G6.sl
    have T1' := T06
    obtain ⟨⟨t0, t1⟩, v0, v1⟩ := T1'
    have T5' := Tb6
    obtain ⟨⟨t2, t3⟩, v2, v3⟩ := T5'
    have hnf : w.heap.size ∉ f := fun hm => by have := HFr.out.2 _ hm; omega
    (try go_wp2)
    (try simp only [Exit.inBlock, Exit.then])
    refine bodyPost_ret (v := .agg #[.int .i64 (xr), .slice p xv.length q]) ?_ rfl ?_
    · rw [results_cell_one rfl]
      simp [asAddr, Result.andThen, load_fact2 T06]
    · exact FcsE.mk ⟨xr, xv⟩ _ f rfl HR.out (ints.far (ints.far G6 (p := ⟨w.heap.size, 0, none⟩) hnf _) (p := ⟨w.heap.size, 1, none⟩) hnf _) (HFr.out.mono (by omega)) HL.out (D6.two2 (Nat.le_refl _) _ _)
  | true =>
    have hsl := schema_len hsc
    go_wp2_with fail
    refine (l2Fact_any w0 g _ s fs 10 _ D1.new hs1 hgf hsc (by omega) (by omega)).mono ?_
    rintro e w2 ⟨x, v, f, rfl, hr, G2, hl, D2⟩
    have Tb2 := Tb1.dw D2 (by omega)
    have T02 := T01.dw D2 (by omega)
    have D12 := D1.trans D2
    obtain ⟨p, q, rfl⟩ := slR.form G2.sl
    have nb : w.heap.size + 1 + 1 ∉ f := fun hm => by have := G2.fresh.2 _ hm; omega
    have Tb2' := Tb2
    obtain ⟨⟨r0, r1⟩, r2, r3⟩ := Tb2'
    have D := D12.two2 (j := w.heap.size + 1 + 1) (by omega) (.int .i64 x.rel) (.slice p x.vals.length q)
    have T0 := (T02.far (p := ⟨w.heap.size + 1 + 1, 0, none⟩) (by show w.heap.size + 1 + 1 ≠ w.heap.size; omega) (.int .i64 x.rel)).far (p := ⟨w.heap.size + 1 + 1, 1, none⟩) (by show w.heap.size + 1 + 1 ≠ w.heap.size; omega) (.slice p x.vals.length q)
    have Tb := Tb2.set (.int .i64 x.rel) (.slice p x.vals.length q)
    have G := ((G2.less (show w.heap.size + 1 ≤ W1.heap.size by omega)).set good_int (p := ⟨w.heap.size + 1 + 1, 0, none⟩) nb (.int .i64 x.rel)).set good_int (p := ⟨w.heap.size + 1 + 1, 1, none⟩) nb (.slice p x.vals.length q)
    clear D1 T01 Tb1 G1 hs1 D2 G2 T02 D12 Tb2
    obtain ⟨xr, xv⟩ := x
    dsimp only at Tb G hr hl
    go_wp2_with fail
    refine (cBelow_any w0 g 8 _ D.new (by omega) (by omega)).mono ?_
    rintro e w6 ⟨c, rfl, ⟨hc0, hc1⟩, hd6⟩
    have D6 := D.trans hd6
    have T06 := T0.dw hd6 (by omega)
    have Tb6 := Tb.dw hd6 (by omega)
    have G6 := G.dw good_int hd6 (by omega)
    skip
    have z6 := T06.lt
    have z7 := Tb6.lt
    have Tb6' := Tb6
    obtain ⟨⟨b0, b1⟩, b2, b3⟩ := Tb6'
    clear D T0 Tb G hd6
    obtain ⟨hl1, hl3⟩ := hl
    by_cases h0 : c = 0
    · subst h0
      go_wp2_with fail
      refine (cBelow_any w0 g 5 _ D6.new (by omega) (by omega)).mono ?_
      rintro e w7 ⟨y, rfl, ⟨hy0, hy1⟩, hd7⟩
      have D7 := D6.trans hd7
      have T07 := T06.dw hd7 (by omega)
      have Tb7 := Tb6.dw hd7 (by omega)
      have G7 := G6.dw good_int hd7 (by omega)
      have Ts := Tb7.set0 (.int .i64 (y - 1))
      have Gs := G7.set good_int (p := ⟨w.heap.size + 1 + 1, 0, none⟩) nb (.int .i64 (y - 1))
      have Ds := D7.set (p := ⟨w.heap.size + 1 + 1, 0, none⟩) (by show w.heap.size ≤ w.heap.size + 1 + 1; omega) (.int .i64 (y - 1))
      have T0s := T07.far (p := ⟨w.heap.size + 1 + 1, 0, none⟩) (by show w.heap.size + 1 + 1 ≠ w.heap.size; omega) (.int .i64 (y - 1))
      have HR := Lib.hid (show I64 (y - 1) from ⟨by omega, by omega⟩)
      have HL := Lib.hid (show 1 ≤ xv.length ∧ xv.length ≤ 4 from ⟨by omega, by omega⟩)
      clear b0 b1 b2 b3 Tb6 T06 G6
      have Tb7' := Tb7
      obtain ⟨⟨b0, b1⟩, b2, b3⟩ := Tb7'
      have HFr := Lib.hid Gs.fresh
      have Gs := Gs.sl
      have T1' := T0s
      obtain ⟨⟨t0, t1⟩, v0, v1⟩ := T1'
      have T5' := Ts
      obtain ⟨⟨t2, t3⟩, v2, v3⟩ := T5'
      have hnf : w.heap.size ∉ f := fun hm => by have := HFr.out.2 _ hm; omega
      (try go_wp2)
      (try simp only [Exit.inBlock, Exit.then])
      refine bodyPost_ret (v := .agg #[.int .i64 (y - 1), .slice p xv.length q]) ?_ rfl ?_
      · rw [results_cell_one rfl]
        simp [asAddr, Result.andThen, load_fact2 T0s]
      · exact FcsE.mk ⟨y - 1, xv⟩ _ f rfl HR.out (ints.far (ints.far Gs (p := ⟨w.heap.size, 0, none⟩) hnf _) (p := ⟨w.heap.size, 1, none⟩) hnf _) (HFr.out.mono (by omega)) HL.out (Ds.two2 (Nat.le_refl _) _ _)
    by_cases h1 : c = 1
    · subst h1
      obtain ⟨gv, e0, cv, zv, _⟩ := G6.at0 (by omega)
      cases e0
      have hgf : gv ∈ f := G6.mem gv rfl
      have hgb : gv ≠ w.heap.size + 1 + 1 := fun e => nb (e ▸ hgf)
      have hgv := G6.fresh.2 gv hgf
      have hi0 : (0 : Int) < (xv.length : Int) := by omega
      have hi1 : 0 < xv.length := by omega
      go_wp2_with fail
      go_region_held3 (fun w' => w'.cell? ⟨w.heap.size + 1 + 1, 1, none⟩ = some (.slice (some ⟨gv, 0, none⟩) xv.length q)) (first | exact b1 | exact cell_al b1 _ | exact b71 | exact bs7)
        (first
          | (go_at_call 155
             refine (cPickLit_any w0 g _ _ _ (D6.drew).new (by decide) (by decide) (by decide +kernel) 3 rfl).mono ?_
             rintro e w7 ⟨y, rfl, hy, hd7⟩
             have D7 := (D6.drew).trans hd7
             have T07 := (T06.below (bdr (Below.refl _ _))).dw hd7 (by omega)
             have Tb7 := (Tb6.below (bdr (Below.refl _ _))).dw hd7 (by omega)
             have G7 := (G6.below' good_int (bdr (Below.refl _ _))).dw good_int hd7 (by omega)
             obtain ⟨⟨b70, b71⟩, b72, b73⟩ := (id Tb7)
             obtain ⟨gv', e0, cv7, fz7, _⟩ := G7.at0 (by omega)
             cases e0
             have bs7 := (World.cell?_setCell_other w7 ⟨gv, 0, none⟩ ⟨w.heap.size + 1 + 1, 1, none⟩ (.int .i64 y) (by intro e; have e2 := congrArg Addr.block e; simp at e2; omega)).trans b71))
      have HR := Lib.hid hr
      have HL := Lib.hid (show 1 ≤ (xv.set 0 y).length ∧ (xv.set 0 y).length ≤ 4 from ⟨by rw [List.length_set]; omega, by rw [List.length_set]; omega⟩)
      have Ts := Tb7.far (p := ⟨gv, 0, none⟩) hgb (.int .i64 y)
      have T0s := T07.far (p := ⟨gv, 0, none⟩) (by show gv ≠ w.heap.size; omega) (.int .i64 y)
      have Ds := D7.set (p := ⟨gv, 0, none⟩) (by show w.heap.size ≤ gv; omega) (.int .i64 y)
      have HFr := Lib.hid G7.fresh
      have Gs := ints.store (g := gv) (show ints w7 (.slice (some ⟨gv, 0, none⟩) xv.length q) xv f from G7.sl) 0 hi1 (one_block (show ints w7 (.slice (some ⟨gv, 0, none⟩) xv.length q) xv f from G7.sl) hgf) y hy
      clear b0 b1 b2 b3 b70 b71 b72 b73 bs7
      have T1' := T0s
      obtain ⟨⟨t0, t1⟩, v0, v1⟩ := T1'
      have T5' := Ts
      obtain ⟨⟨t2, t3⟩, v2, v3⟩ := T5'
      have hnf : w.heap.size ∉ f := fun hm => by have := HFr.out.2 _ hm; omega
      (try go_wp2)
      (try simp only [Exit.inBlock, Exit.then])
      refine bodyPost_ret (v := .agg #[.int .i64 (xr), .slice (some ⟨gv, 0, none⟩) xv.length q]) ?_ rfl ?_
      · rw [results_cell_one rfl]
        simp [asAddr, Result.andThen, load_fact2 T0s]
      · exact FcsE.mk ⟨xr, xv.set 0 y⟩ _ f rfl HR.out (ints.far (ints.far Gs (p := ⟨w.heap.size, 0, none⟩) hnf _) (p := ⟨w.heap.size, 1, none⟩) hnf _) (HFr.out.mono (by omega)) HL.out (Ds.two2 (Nat.le_refl _) _ _)
    by_cases h2 : c = 2
    · subst h2
      have hd6s : w.heap.size ≤ w.heap.size + 1 := by omega
      have HR := Lib.hid hr
      have HL := Lib.hid (show 1 ≤ (xv ++ [(1 : Int)]).length ∧ (xv ++ [(1 : Int)]).length ≤ 4 from ⟨by simp, by simp; omega⟩)
      go_wp2_with (at_builtin; refine wpList_draw slInt good_int rfl _ _ rfl G6 D6 hd6s (by omega) rfl #[.int .i64 1] 1 [] ⟨rfl, rfl, ⟨by omega, by omega⟩⟩ rfl (Fresh.nil _) (by simp) rfl (by simp [Value.oneCell']) (by omega) (by unfold maxLen; omega) ?_; intro g7 cap7 w7 f7 G7 D7 gb7 mm7; have Tb7 := Tb6.grown gb7 (fun q hq e => nb (e ▸ G6.mem q hq)); have T07 := T06.grown gb7 (fun q hq => by have := G6.ownB q hq; omega); have Tb7' := Tb7; obtain ⟨⟨u0, u1⟩, x0, x1⟩ := Tb7'; have Ts := Tb7.set1 (.slice (some ⟨g7, 0, none⟩) (xv.length + 1) cap7); have T0s := T07.far (p := ⟨w.heap.size + 1 + 1, 1, none⟩) (by show w.heap.size + 1 + 1 ≠ w.heap.size; omega) (.slice (some ⟨g7, 0, none⟩) (xv.length + 1) cap7); have Ts' := Ts; obtain ⟨⟨s0, s1⟩, s2, s3⟩ := Ts'; have T0s' := T0s; obtain ⟨⟨s4, s5⟩, s6, s7⟩ := T0s')
      have nb7 : w.heap.size + 1 + 1 ∉ f7 := fun hm => (mm7.out _ hm).elim nb fun h => h.elim (by simp) (by omega)
      have Gs : grR 3 1 intR (w.heap.size + 1) _ (.slice (some ⟨g7, 0, none⟩) (xv.length + 1) cap7) (xv ++ [(1 : Int)]) f7 := G7.set good_int (p := ⟨w.heap.size + 1 + 1, 1, none⟩) nb7 (.slice (some ⟨g7, 0, none⟩) (xv.length + 1) cap7)
      have Ds := D7.set (p := ⟨w.heap.size + 1 + 1, 1, none⟩) (by show w.heap.size ≤ w.heap.size + 1 + 1; omega) (.slice (some ⟨g7, 0, none⟩) (xv.length + 1) cap7)
      have HFr := Lib.hid Gs.fresh
      have Gs := Gs.sl
      have T1' := T0s
      obtain ⟨⟨t0, t1⟩, v0, v1⟩ := T1'
      have T5' := Ts
      obtain ⟨⟨t2, t3⟩, v2, v3⟩ := T5'
      have hnf : w.heap.size ∉ f7 := fun hm => by have := HFr.out.2 _ hm; omega
      (try go_wp2)
      (try simp only [Exit.inBlock, Exit.then])
      refine bodyPost_ret (v := .agg #[.int .i64 (xr), .slice (some ⟨g7, 0, none⟩) (xv.length + 1) cap7]) ?_ rfl ?_
      · rw [results_cell_one rfl]
        simp [asAddr, Result.andThen, load_fact2 T0s]
      · exact FcsE.mk ⟨xr, xv ++ [(1 : Int)]⟩ _ f7 rfl HR.out (ints.far (ints.far Gs (p := ⟨w.heap.size, 0, none⟩) hnf _) (p := ⟨w.heap.size, 1, none⟩) hnf _) (HFr.out.mono (by omega)) HL.out (Ds.two2 (Nat.le_refl _) _ _)
    have hc3 : (c == 0) = false := by simp [h0]
    have hc4 : (c == 1) = false := by simp [h1]
    have hc5 : (c == 2) = false := by simp [h2]
    have HR := Lib.hid hr
    have HL := Lib.hid (show 1 ≤ xv.length ∧ xv.length ≤ 4 from ⟨by omega, by omega⟩)
    have HFr := Lib.hid G6.fresh
    have G6 := G6.sl
    have T1' := T06
    obtain ⟨⟨t0, t1⟩, v0, v1⟩ := T1'
    have T5' := Tb6
    obtain ⟨⟨t2, t3⟩, v2, v3⟩ := T5'
    have hnf : w.heap.size ∉ f := fun hm => by have := HFr.out.2 _ hm; omega
    (try go_wp2)
    (try simp only [Exit.inBlock, Exit.then])
    refine bodyPost_ret (v := .agg #[.int .i64 (xr), .slice p xv.length q]) ?_ rfl ?_
    · rw [results_cell_one rfl]
      simp [asAddr, Result.andThen, load_fact2 T06]
    · exact FcsE.mk ⟨xr, xv⟩ _ f rfl HR.out (ints.far (ints.far G6 (p := ⟨w.heap.size, 0, none⟩) hnf _) (p := ⟨w.heap.size, 1, none⟩) hnf _) (HFr.out.mono (by omega)) HL.out (D6.two2 (Nat.le_refl _) _ _)
end Go.Proofs.YtpdmdfkcaabnaaaGreatDoor
