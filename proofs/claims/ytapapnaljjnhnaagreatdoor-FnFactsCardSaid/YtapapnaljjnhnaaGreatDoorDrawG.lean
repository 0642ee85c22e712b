/- Lists of facts that the reference draws; the draws of facts. Condition: the code is no longer than 2^20. -/
import Derived.Test.YtapapnaljjnhnaaGreatDoorDrawF
import Derived.Test.YtapapnaljjnhnaaGreatDoorFaL
namespace Go.Proofs.YtapapnaljjnhnaaGreatDoor
open Go.RowKit
set_option linter.unusedVariables false
set_option linter.unusedSimpArgs false
/-- What a draw of facts ends in. -/
def FtsE (P : List FactD → Prop) (w0 : World) (g : Nat) (w : World) (e : Ending) (w' : World) : Prop := ∃ (v : Value) (l : List FactD) (f : List Nat), e = .returned v ∧ grR 79 2 factR w.heap.size w' v l f ∧ P l ∧ DW w0 g w w'
theorem FtsE.mk {P : List FactD → Prop} {w0 : World} {g : Nat} {w : World} {e : Ending} {w' : World} (v : Value) (l : List FactD) (f : List Nat) (he : e = .returned v) (h1 : grR 79 2 factR w.heap.size w' v l f) (h2 : P l) (h3 : DW w0 g w w') : FtsE P w0 g w e w' := ⟨v, l, f, he, h1, h2, h3⟩
theorem addFact_vals {l : List FactD} {x : FactD} {n : Nat} (h : ∀ y ∈ l, y.vals.length ≤ n) (hx : x.vals.length ≤ n) : ∀ y ∈ addFactL l x, y.vals.length ≤ n := by
  intro y hy
  rcases (addC_mem cmp_facts l x y).1 hy with h1 | h1
  · exact h y h1
  · rw [h1]; exact hx
theorem addFact_len1 (l : List FactD) (x : FactD) : (addFactL l x).length ≤ l.length + 1 := by rw [addFact_length]; split <;> omega
set_option maxRecDepth 100000 in
set_option maxHeartbeats 3200000 in
theorem l2Facts_any (w0 : World) (g : Nat) (sv : Value) (s : List Int) (fs : List Nat) (most : Nat) (w : World) (h : CuW w0 g w) (hs : ints w sv s fs) (hgf : g ∉ fs) (hsc : schemaB s = true) (hm : most ≤ 100) :
    Calls Tryz.prog 154 #[.pointer (some ⟨g, 0, none⟩), sv, .int .i64 (most : Int)] w (FtsE (fun l => l.length ≤ most ∧ ∀ y ∈ l, y.vals.length ≤ 3) w0 g w) := by
  obtain ⟨ps, qs, rfl⟩ := slR.form hs
  have hglt := h.lt
  have hal := (DW.refl h).al (.cells #[] 79)
  have hg0 := grR.lit (w := w) (B := w.heap.size) (E := 79) (sz := 2) factR (Nat.le_refl _) (Nat.le_refl _)
  go_enter Tryz.func154, Tryz.ntmps154
  go_wp2_with fail
  refine (cBelow_any w0 g ((most : Int) + 1) _ hal.new (by omega) (by omega)).mono ?_
  rintro e w1 ⟨n0, rfl, ⟨hn0, hn1⟩, hd1⟩
  have hd := hal.trans hd1
  have hg1 := hg0.dw good_fact hd1 hglt
  obtain ⟨n1, rfl⟩ := Int.eq_ofNat_of_zero_le hn0
  clear hg0 hal hd1
  go_wp2
  go_loopw [7, 8] (fun v x wr => ∃ (k : Nat) (l : List FactD) (f : List Nat), x = .int .i64 (k : Int) ∧ l.length + k ≤ most ∧ Hid (∀ y ∈ l, y.vals.length ≤ 3) ∧ grR 79 2 factR w.heap.size wr v l f ∧ DW w0 g w wr) (fun _ x _ => (intOf x).toNat)
  case atStart => exact ⟨n1, [], _, rfl, by simp; omega, Lib.hid (by simp), hg1, hd⟩
  case round =>
    obtain ⟨k, l, f, rfl, hlk, HL, hgr, hdr⟩ := hrel
    obtain ⟨p, q, rfl⟩ := slR.form hgr.sl
    by_cases hk : 0 < k
    · have hki : (0 : Int) < (k : Int) := by omega
      have hs1 := hs.dw hdr hgf
      go_wp2_with fail
      refine (l2Fact_any w0 g _ s fs 4 _ hdr.new hs1 hgf hsc (by omega) (by omega)).mono ?_
      rintro e w2 ⟨x, v, fx, rfl, hr, hx, ⟨hx1, hx3⟩, hd2⟩
      have hgr2 := hgr.dw good_fact hd2 hglt
      have hdr2 := hdr.trans hd2
      obtain ⟨p2, q2, rfl⟩ := slR.form hx.sl
      have HL2 := Lib.hid (addFact_vals HL.out hx3)
      have HN := Lib.hid (addFact_len1 l x)
      go_wp2_with fail
      refine (specAddFact_own _ l f x _ fx w2 hgr2.sl hx.sl hr (by omega) (fun y hy => by have := HL.out y hy; omega) (by omega)).mono ?_
      rintro e w3 ⟨v3, f3, rfl, hg3, hb3⟩
      have hdr3 := hdr2.below hb3
      go_wp2
      go_roundw
      case rel => exact ⟨k - 1, addFactL l x, f3, by go_num, by have := HN.out; omega, HL2, hg3.less hdr2.size, hdr3⟩
      case measure => simp [intOf]; omega
    · have hki : ¬ (0 : Int) < (k : Int) := by omega
      have HE := Lib.hid (show l.length ≤ most ∧ ∀ y ∈ l, y.vals.length ≤ 3 from ⟨by omega, HL.out⟩)
      go_wp2
      go_ret
      exact FtsE.mk _ l f rfl hgr HE.out hdr
set_option maxRecDepth 100000 in
set_option maxHeartbeats 3200000 in
theorem l2AnyFacts_any (w0 : World) (g : Nat) (sv : Value) (s : List Int) (fs : List Nat) (w : World) (h : CuW w0 g w) (hs : ints w sv s fs) (hgf : g ∉ fs) :
    Calls Tryz.prog 137 #[.pointer (some ⟨g, 0, none⟩), sv] w (FtsE (fun l => l.length ≤ 9 ∧ ∀ y ∈ l, y.vals.length ≤ 4) w0 g w) := by
  obtain ⟨ps, qs, rfl⟩ := slR.form hs
  have hglt := h.lt
  have D1 := (DW.refl h).al (.cells #[] 79)
  have G1 := grR.lit (w := w) (B := w.heap.size) (E := 79) (sz := 2) factR (Nat.le_refl _) (Nat.le_refl _)
  have hs1 := hs.dw D1 hgf
  go_enter Tryz.func137, Tryz.ntmps137
  go_wp2_with fail
  refine (specIsSchema_any _ s fs _ hs1).mono ?_
  rintro e _ ⟨rfl, rfl⟩
  have tail : ∀ (W : World) (l : List FactD) (f : List Nat) (v : Value), True := fun _ _ _ _ => trivial
  cases hsc : schemaB s with

  | false =>
    have D := D1
    have G := G1
    have HL := Lib.hid (show ([] : List FactD).length ≤ 8 ∧ ∀ y ∈ ([] : List FactD), y.vals.length ≤ 3 by simp)
    obtain ⟨f, hf⟩ : ∃ f, f = [w.heap.size] := ⟨_, rfl⟩
    rw [← hf] at G
    clear D1 G1 hs1 tail hf
    go_wp2_with fail
    refine (cOnce_any w0 g 10 _ D.new (by omega) (by omega)).mono ?_
    rintro e w3 ⟨b, rfl, hd3⟩
    have D3 := D.trans hd3
    have G3 := G.dw good_fact hd3 hglt
    clear D G hd3
    cases b with
    | false =>
      go_wp2
      go_ret
      exact FtsE.mk _ ([] : List FactD) f rfl G3 ⟨by have := HL.out.1; omega, fun y hy => by have := HL.out.2 y hy; omega⟩ D3
    | true =>
      go_wp2_with fail
      refine (l2AnyFact_any w0 g _ s fs _ D3.new (hs.dw D3 hgf) hgf).mono ?_
      rintro e w4 ⟨x, vx, fx, rfl, hr, hx, hfx, ⟨hx1, hx4⟩, hd4⟩
      have D4 := D3.trans hd4
      have G4 := G3.dw good_fact hd4 hglt
      obtain ⟨p2, q2, rfl⟩ := slR.form hx
      have hdis : ∀ j ∈ fx, j ∉ f := fun j hj hm => by have h1 := hfx.2 j hj; have h2 := G3.lt good_fact j hm; omega
      have hlen : (([] : List FactD)).length ≤ 8 := HL.out.1
      have hfx2 : Fresh w.heap.size fx := hfx.mono D3.size
      clear G3 D3 hd4 hfx
      go_wp2_with (at_builtin; refine wpList_draw slFactS good_fact rfl _ _ rfl G4 D4 (Nat.le_refl _) D4.size rfl #[.int .i64 x.rel, .slice p2 x.vals.length q2] x fx ⟨_, rfl, hr, hx⟩ rfl hfx2 hdis rfl (by simp [Value.oneCell']) (by omega) (by unfold maxLen; omega) ?_; intro g5 cap5 w5 f5 G5 D5 gb5 mm5)
      go_ret
      exact FtsE.mk _ (([] : List FactD) ++ [x]) f5 rfl (by simpa using G5) ⟨by first | (simp; done) | (simp; omega), fun y hy => (List.mem_append.1 hy).elim (fun h => by have := HL.out.2 y h; omega) fun h => by rw [List.mem_singleton.1 h]; exact hx4⟩ D5
  | true =>
    go_wp2_with fail
    refine (l2Facts_any w0 g _ s fs 8 _ D1.new hs1 hgf hsc (by omega)).mono ?_
    rintro e w2 ⟨v, l, f, rfl, G2, hl, D2⟩
    have D := D1.trans D2
    have G := G2.less D1.size
    have HL := Lib.hid hl
    obtain ⟨p0, q0, rfl⟩ := slR.form G.sl
    clear D1 G1 hs1 tail D2 G2 hl
    go_wp2_with fail
    refine (cOnce_any w0 g 10 _ D.new (by omega) (by omega)).mono ?_
    rintro e w3 ⟨b, rfl, hd3⟩
    have D3 := D.trans hd3
    have G3 := G.dw good_fact hd3 hglt
    clear D G hd3
    cases b with
    | false =>
      go_wp2
      go_ret
      exact FtsE.mk _ l f rfl G3 ⟨by have := HL.out.1; omega, fun y hy => by have := HL.out.2 y hy; omega⟩ D3
    | true =>
      go_wp2_with fail
      refine (l2AnyFact_any w0 g _ s fs _ D3.new (hs.dw D3 hgf) hgf).mono ?_
      rintro e w4 ⟨x, vx, fx, rfl, hr, hx, hfx, ⟨hx1, hx4⟩, hd4⟩
      have D4 := D3.trans hd4
      have G4 := G3.dw good_fact hd4 hglt
      obtain ⟨p2, q2, rfl⟩ := slR.form hx
      have hdis : ∀ j ∈ fx, j ∉ f := fun j hj hm => by have h1 := hfx.2 j hj; have h2 := G3.lt good_fact j hm; omega
      have hlen : (l).length ≤ 8 := HL.out.1
      have hfx2 : Fresh w.heap.size fx := hfx.mono D3.size
      clear G3 D3 hd4 hfx
      go_wp2_with (at_builtin; refine wpList_draw slFactS good_fact rfl _ _ rfl G4 D4 (Nat.le_refl _) D4.size rfl #[.int .i64 x.rel, .slice p2 x.vals.length q2] x fx ⟨_, rfl, hr, hx⟩ rfl hfx2 hdis rfl (by simp [Value.oneCell']) (by omega) (by unfold maxLen; omega) ?_; intro g5 cap5 w5 f5 G5 D5 gb5 mm5)
      go_ret
      exact FtsE.mk _ (l ++ [x]) f5 rfl (by simpa using G5) ⟨by first | (simp; done) | (simp; omega), fun y hy => (List.mem_append.1 hy).elim (fun h => by have := HL.out.2 y h; omega) fun h => by rw [List.mem_singleton.1 h]; exact hx4⟩ D5
end Go.Proofs.YtapapnaljjnhnaaGreatDoor
