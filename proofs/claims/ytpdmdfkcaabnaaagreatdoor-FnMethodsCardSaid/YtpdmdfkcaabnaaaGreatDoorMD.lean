/- Several of my texts as one: DrawM, DrawN, DrawO, DrawP, DrawU, DrawV. -/
import Derived.Test.YtpdmdfkcaabnaaaGreatDoorMR
import Derived.Test.YtpdmdfkcaabnaaaGreatDoorMF
import Derived.Deep.Cut
import Derived.Deep.CutBlock
import Derived.Test.YtpdmdfkcaabnaaaGreatDoorHas
import Derived.Test.YtpdmdfkcaabnaaaGreatDoorCopy
/- The methods that the reference draws. No condition. -/
namespace Go.Proofs.YtpdmdfkcaabnaaaGreatDoor
open Go.RowKit
set_option linter.unusedVariables false
set_option linter.unusedSimpArgs false
theorem Five.dw {w0 w w' : World} {g j : Nat} {a b c d e : Value} (h : Five w j a b c d e) (k : DW w0 g w w') (hj : j ≠ g) : Five w' j a b c d e := h.sx k.sx (by simpa using hj)
theorem Five.grown {w w' : World} {j : Nat} {a b c d e : Value} {o : Option Nat} (h : Five w j a b c d e) (hg : w.grownBy w' o) (ho : ∀ q, o = some q → q ≠ j) : Five w' j a b c d e := by
  have s : SX o.toList w w' := ⟨hg.size, fun j hj hn => hg.block j hj (by intro e; subst e; simp at hn)⟩
  exact h.sx s (fun hm => ho j (by simpa using hm) rfl)
theorem Five.far {w : World} {j : Nat} {a b c d e : Value} (h : Five w j a b c d e) {p : Addr} (hp : p.block ≠ j) (u : Value) : Five (w.setCell p u) j a b c d e := h.sx (SX.set p u) (by simpa using Ne.symm hp)
theorem DW.set5 {w0 w w1 : World} {g j : Nat} (h : DW w0 g w w1) (hj : w.heap.size ≤ j) (a b c d e : Value) : DW w0 g w (Go.Proofs.YtpdmdfkcaabnaaaGreatDoor.set5 w1 j a b c d e) := ((((h.set (p := ⟨j, 0, none⟩) hj a).set (p := ⟨j, 1, none⟩) hj b).set (p := ⟨j, 2, none⟩) hj c).set (p := ⟨j, 3, none⟩) hj d).set (p := ⟨j, 4, none⟩) hj e
theorem grR.set5 {α : Type} {E : TypeId} {sz : Nat} {R : Rd α} {B : Nat} {w : World} {v : Value} {l : List α} {f : List Nat} {j : Nat} (hR : Good R) (h : grR E sz R B w v l f) (hj : j ∉ f) (a b c d e : Value) : grR E sz R B (Go.Proofs.YtpdmdfkcaabnaaaGreatDoor.set5 w j a b c d e) v l f := ((((h.set hR (p := ⟨j, 0, none⟩) hj a).set hR (p := ⟨j, 1, none⟩) hj b).set hR (p := ⟨j, 2, none⟩) hj c).set hR (p := ⟨j, 3, none⟩) hj d).set hR (p := ⟨j, 4, none⟩) hj e
/-- What a draw of a method ends in. -/
def MtdE (P : MethD → Prop) (w0 : World) (g : Nat) (w : World) (e : Ending) (w' : World) : Prop := ∃ (m : MethD) (v : Value) (f : List Nat), e = .returned (.agg #[.int .i64 m.rel, v, .int .i64 m.limit, .int .i64 m.cost, .int .i64 m.quota]) ∧ (I64 m.rel ∧ I64 m.limit ∧ I64 m.cost ∧ I64 m.quota) ∧ grR 3 1 intR w.heap.size w' v m.inputs f ∧ P m ∧ DW w0 g w w'
theorem MtdE.mk {P : MethD → Prop} {w0 : World} {g : Nat} {w : World} {e : Ending} {w' : World} (m : MethD) (v : Value) (f : List Nat) (he : e = .returned (.agg #[.int .i64 m.rel, v, .int .i64 m.limit, .int .i64 m.cost, .int .i64 m.quota])) (hi : I64 m.rel ∧ I64 m.limit ∧ I64 m.cost ∧ I64 m.quota) (h1 : grR 3 1 intR w.heap.size w' v m.inputs f) (h2 : P m) (h3 : DW w0 g w w') : MtdE P w0 g w e w' := ⟨m, v, f, he, hi, h1, h2, h3⟩
set_option maxRecDepth 100000 in
set_option maxHeartbeats 3200000 in
theorem l5Method_any (w0 : World) (g : Nat) (sv : Value) (s : List Int) (fs : List Nat) (w : World) (h : CuW w0 g w) (hs : ints w sv s fs) (hgf : g ∉ fs) (hsc : schemaB s = true) :
    Calls Tryz.prog 161 #[.pointer (some ⟨g, 0, none⟩), sv] w (MtdE (fun m => m.inputs.length ≤ 3) w0 g w) := by
  obtain ⟨ps, qs, rfl⟩ := slR.form hs
  have hsl := schema_len hsc
  obtain ⟨gs, rfl, _⟩ := hs.get 0 (by omega)
  have hglt := h.lt
  have hal := (DW.refl h).al (.cells #[.int .i64 0, .slice none 0 0, .int .i64 0, .int .i64 0, .int .i64 0] 38)
  have T0 := Five.new w 38 (.int .i64 0) (.slice none 0 0) (.int .i64 0) (.int .i64 0) (.int .i64 0)
  have hsz0 : (w.alloc (.cells #[.int .i64 0, .slice none 0 0, .int .i64 0, .int .i64 0, .int .i64 0] 38)).heap.size = w.heap.size + 1 := by simp only [World.alloc, Array.size_push]
  go_enter Tryz.func161, Tryz.ntmps161
  go_wp2_with fail
  refine (cBelow_any w0 g (s.length : Int) _ hal.new (by omega) (by omega)).mono ?_
  rintro e w1 ⟨r, rfl, ⟨hr0, hr1⟩, hd1⟩
  obtain ⟨r1, rfl⟩ := Int.eq_ofNat_of_zero_le hr0
  have hr1' : r1 < s.length := by omega
  obtain ⟨a, ha, ha1, ha3⟩ := schema_at hsc hr1'
  generalize w.alloc (.cells #[.int .i64 0, .slice none 0 0, .int .i64 0, .int .i64 0, .int .i64 0] 38) = W0 at hal T0 hsz0 hd1
  go_wp2_with fail
  refine (cPickLit_any w0 g _ _ _ hd1.new (by decide) (by decide) (by decide +kernel) 5 rfl).mono ?_
  rintro e w2 ⟨li, rfl, hli, hd2⟩
  have hd12 := hd1.trans hd2
  go_wp2_with fail
  refine (cBelow_any w0 g 5 _ hd12.new (by omega) (by omega)).mono ?_
  rintro e w3 ⟨co, rfl, ⟨hco0, hco1⟩, hd3⟩
  have hd13 := hd12.trans hd3
  go_wp2_with fail
  refine (cBelow_any w0 g 6 _ hd13.new (by omega) (by omega)).mono ?_
  rintro e w4 ⟨qu, rfl, ⟨hqu0, hqu1⟩, hd4⟩
  have hd14 := hd13.trans hd4
  have hb1 := Five.new w4 38 (.int .i64 (r1 : Int)) (.slice none 0 0) (.int .i64 li) (.int .i64 co) (.int .i64 (1 + qu))
  have hd5 := hd14.al (.cells #[.int .i64 (r1 : Int), .slice none 0 0, .int .i64 li, .int .i64 co, .int .i64 (1 + qu)] 38)
  have hsz1 : W0.heap.size ≤ w4.heap.size := hd14.size
  clear hd1 hd2 hd12 hd3 hd13 hd4 hd14
  go_wp2
  go_loopw [6] (fun i wr => ∃ (k : Nat) (l : List Int) (v : Value) (f : List Nat), i = .int .i64 (k : Int) ∧ l.length ≤ k ∧ k ≤ a ∧ Five wr w4.heap.size (.int .i64 (r1 : Int)) v (.int .i64 li) (.int .i64 co) (.int .i64 (1 + qu)) ∧ grR 3 1 intR (w4.heap.size + 1) wr v l f ∧ DW w0 g W0 wr) (fun i _ => a - (intOf i).toNat)
  case atStart => exact ⟨0, [], .slice none 0 0, [], rfl, Nat.le_refl _, Nat.zero_le _, hb1, grR.nilv _, hd5⟩
  case round =>
    obtain ⟨k, l, v, f, rfl, hlk, hka, hbx, hgr, hdr⟩ := hrel
    have hlen : l.length ≤ 3 := by omega
    obtain ⟨p, q, rfl⟩ := slR.form hgr.sl
    have hs1 := hs.dw (hal.trans hdr) hgf
    obtain ⟨g', e', cs, _, _, _⟩ := hs1.get r1 hr1'
    cases e'
    rw [ha] at cs
    obtain ⟨⟨c0, c1, c2, c3, c4⟩, z0, z1, z2, z3, z4⟩ := (id hbx)
    have hrl : (r1 : Int) < (s.length : Int) := by omega
    have hr00 : (0 : Int) ≤ (r1 : Int) := by omega
    have hwr := hbx.lt
    by_cases hk : k < a
    · have hki : (k : Int) < (a : Int) := by omega
      go_wp2_with fail
      refine (cOnce_any w0 g 3 _ hdr.new (by omega) (by omega)).mono ?_
      rintro e w5 ⟨b, rfl, hd6⟩
      have hbx2 := hbx.dw hd6 (by omega)
      have hgr2 := hgr.dw good_int hd6 (by omega)
      have hdr2 := hdr.trans hd6
      have hwr2 := hbx2.lt
      obtain ⟨⟨e0, e1, e2, e3, e4⟩, y0, y1, y2, y3, y4⟩ := (id hbx2)
      clear c0 c1 c2 c3 c4 z0 z1 z2 z3 z4 hbx hgr hdr hd6 cs hs1 hwr
      cases b with
      | false =>
        go_wp2
        go_roundw
        case rel => exact ⟨k + 1, l, _, f, by go_num, by omega, by omega, hbx2, hgr2, hdr2⟩
        case measure => simp [intOf]; omega
      | true =>
        have hy : I64 (k : Int) := ⟨by omega, by omega⟩
        go_wp2_with (at_builtin; refine wpList_draw slInt good_int rfl _ _ rfl hgr2 hdr2 (show W0.heap.size ≤ w4.heap.size + 1 by omega) (by omega) rfl #[.int .i64 (k : Int)] (k : Int) [] ⟨rfl, rfl, hy⟩ rfl (Fresh.nil _) (by simp) rfl (by simp [Value.oneCell']) (by omega) (by unfold maxLen; omega) ?_; intro g4 cap4 w6 f4 hgr4 hdr4 hgb4 hmm4; have hbx4 := hbx2.grown hgb4 (fun q hq => by have := hgr2.ownB q hq; omega); obtain ⟨⟨u0, u1, u2, u3, u4⟩, x0, x1, x2, x3, x4⟩ := (id hbx4))
        have hnf : w4.heap.size ∉ f4 := fun hm => by have := hgr4.fresh.2 _ hm; omega
        go_roundw
        case rel => exact ⟨k + 1, l ++ [(k : Int)], _, f4, by go_num, by simp; omega, by omega, hbx4.set1 _, by simpa using hgr4.set good_int (p := ⟨w4.heap.size, 1, none⟩) hnf _, hdr4.set (by show W0.heap.size ≤ w4.heap.size; omega) _⟩
        case measure => simp [intOf]; omega
    · have hka' : k = a := by omega
      have hki : ¬ (k : Int) < (a : Int) := by omega
      have T1 := T0.dw hdr (by omega)
      have hnf : w.heap.size ∉ f := fun hm => by have := hgr.fresh.2 _ hm; omega
      obtain ⟨⟨t0, t1, t2, t3, t4⟩, v0, v1, v2, v3, v4⟩ := (id T1)
      have HG := Lib.hid ((hgr.set5 good_int hnf (.int .i64 (r1 : Int)) (.slice p l.length q) (.int .i64 li) (.int .i64 co) (.int .i64 (1 + qu))).less (show w.heap.size ≤ w4.heap.size + 1 by omega))
      have HD := Lib.hid ((hal.trans hdr).set5 (Nat.le_refl _) (.int .i64 (r1 : Int)) (.slice p l.length q) (.int .i64 li) (.int .i64 co) (.int .i64 (1 + qu)))
      have HI := Lib.hid (show I64 (r1 : Int) ∧ I64 li ∧ I64 co ∧ I64 (1 + qu) from ⟨⟨by omega, by omega⟩, hli, ⟨by omega, by omega⟩, ⟨by omega, by omega⟩⟩)
      clear hka'
      go_wp2
      (try simp only [Exit.inBlock, Exit.then])
      refine bodyPost_ret (v := .agg #[.int .i64 (r1 : Int), .slice p l.length q, .int .i64 li, .int .i64 co, .int .i64 (1 + qu)]) ?_ rfl ?_
      · rw [results_cell_one rfl]
        simp [asAddr, Result.andThen, load_set5 T1]
      · exact MtdE.mk ⟨(r1 : Int), l, li, co, 1 + qu⟩ _ f rfl HI.out HG.out hlen HD.out
end Go.Proofs.YtpdmdfkcaabnaaaGreatDoor
/- The lists of methods and the spoilt methods that the reference draws. No condition. -/
namespace Go.Proofs.YtpdmdfkcaabnaaaGreatDoor
open Go.RowKit
set_option linter.unusedVariables false
set_option linter.unusedSimpArgs false
/-- What a draw of methods ends in. -/
def MtsE (P : List MethD → Prop) (w0 : World) (g : Nat) (w : World) (e : Ending) (w' : World) : Prop := ∃ (v : Value) (l : List MethD) (f : List Nat), e = .returned v ∧ grR 38 5 methR w.heap.size w' v l f ∧ P l ∧ DW w0 g w w'
theorem MtsE.mk {P : List MethD → Prop} {w0 : World} {g : Nat} {w : World} {e : Ending} {w' : World} (v : Value) (l : List MethD) (f : List Nat) (he : e = .returned v) (h1 : grR 38 5 methR w.heap.size w' v l f) (h2 : P l) (h3 : DW w0 g w w') : MtsE P w0 g w e w' := ⟨v, l, f, he, h1, h2, h3⟩
set_option maxRecDepth 100000 in
set_option maxHeartbeats 3200000 in
theorem l5Methods_any (w0 : World) (g : Nat) (sv : Value) (s : List Int) (fs : List Nat) (w : World) (h : CuW w0 g w) (hs : ints w sv s fs) (hgf : g ∉ fs) (hsc : schemaB s = true) :
    Calls Tryz.prog 153 #[.pointer (some ⟨g, 0, none⟩), sv] w (MtsE (fun l => l.length ≤ 4 ∧ ∀ m ∈ l, m.inputs.length ≤ 3) w0 g w) := by
  obtain ⟨ps, qs, rfl⟩ := slR.form hs
  have hglt := h.lt
  have hal := (DW.refl h).al (.cells #[] 38)
  have hg0 := grR.lit (w := w) (B := w.heap.size) (E := 38) (sz := 5) methR (Nat.le_refl _) (Nat.le_refl _)
  go_enter Tryz.func153, Tryz.ntmps153
  go_wp2_with fail
  refine (cBelow_any w0 g 4 _ hal.new (by omega) (by omega)).mono ?_
  rintro e w1 ⟨n0, rfl, ⟨hn0, hn1⟩, hd1⟩
  have hd := hal.trans hd1
  have hg1 := hg0.dw good_meth hd1 hglt
  obtain ⟨n1, rfl⟩ := Int.eq_ofNat_of_zero_le hn0
  clear hg0 hal hd1
  go_wp2
  go_loopw [5, 6] (fun v x wr => ∃ (k : Nat) (l : List MethD) (f : List Nat), x = .int .i64 (k : Int) ∧ l.length + k ≤ 4 ∧ Hid (∀ y ∈ l, y.inputs.length ≤ 3) ∧ grR 38 5 methR w.heap.size wr v l f ∧ DW w0 g w wr) (fun _ x _ => (intOf x).toNat)
  case atStart => exact ⟨n1 + 1, [], _, by go_num, by simp; omega, Lib.hid (by simp), hg1, hd⟩
  case round =>
    obtain ⟨k, l, f, rfl, hlk, HL, hgr, hdr⟩ := hrel
    obtain ⟨p, q, rfl⟩ := slR.form hgr.sl
    by_cases hk : 0 < k
    · have hki : (0 : Int) < (k : Int) := by omega
      have hs1 := hs.dw hdr hgf
      have hzr := hdr.size
      go_wp2_with fail
      refine (l5Method_any w0 g _ s fs _ hdr.new hs1 hgf hsc).mono ?_
      rintro e w2 ⟨m, vi, fi, rfl, hI, hgi, hmi, hd2⟩
      obtain ⟨pi, qi, rfl⟩ := slR.form hgi.sl
      have hgr2 := hgr.dw good_meth hd2 hglt
      have hdr2 := hdr.trans hd2
      have hlt2 := hgr.lt good_meth
      have HL2 := Lib.hid (show ∀ y ∈ l ++ [m], y.inputs.length ≤ 3 from fun y hy => (List.mem_append.1 hy).elim (HL.out y) fun h => by rw [List.mem_singleton.1 h]; exact hmi)
      have hdis : ∀ j ∈ fi, j ∉ f := fun j hj hm => by have h1 := hgi.fresh.2 j hj; have h2 := hlt2 j hm; omega
      have hfi : Fresh w.heap.size fi := hgi.fresh.mono hzr
      go_upto_region 6 with fail
      obtain ⟨w3, hw3⟩ : ∃ x, x = w2.alloc (.cells #[.int .i64 m.rel, .slice pi m.inputs.length qi, .int .i64 m.limit, .int .i64 m.cost, .int .i64 m.quota] 38) := ⟨_, rfl⟩
      have b3 : Below w2.heap.size w2 w3 := by rw [hw3]; exact ba (Below.refl _ _)
      have F3 : Five w3 w2.heap.size (.int .i64 m.rel) (.slice pi m.inputs.length qi) (.int .i64 m.limit) (.int .i64 m.cost) (.int .i64 m.quota) := by rw [hw3]; exact Five.new _ _ _ _ _ _ _
      rw [← hw3]
      clear hw3
      have hgr3 := hgr2.below' good_meth b3
      have hdr3 := hdr2.below b3
      have hi3 := ints.below' hgi.sl b3
      have hz3 := hdr3.size
      obtain ⟨⟨c0, c1, c2, c3, c4⟩, z0, z1, z2, z3, z4⟩ := (id F3)
      clear hgr hdr hgr2 hdr2 hgi hd2 hs1 F3 b3
      go_wp2_with (at_builtin; refine wpList_draw slMethodS good_meth rfl _ _ rfl hgr3 hdr3 (Nat.le_refl _) hz3 rfl #[.int .i64 m.rel, .slice pi m.inputs.length qi, .int .i64 m.limit, .int .i64 m.cost, .int .i64 m.quota] m fi ⟨_, rfl, hI.1, hI.2.1, hI.2.2.1, hI.2.2.2, hi3⟩ rfl hfi hdis rfl (by simp [Value.oneCell']) (by omega) (by unfold maxLen; omega) ?_; intro g4 cap4 w4 f4 hgr4 hdr4 hgb4 hmm4)
      go_roundw
      case rel => exact ⟨k - 1, l ++ [m], f4, by go_num, by simp; omega, HL2, by simpa using hgr4, hdr4⟩
      case measure => simp [intOf]; omega
    · have hki : ¬ (0 : Int) < (k : Int) := by omega
      have HE := Lib.hid (show l.length ≤ 4 ∧ ∀ y ∈ l, y.inputs.length ≤ 3 from ⟨by omega, HL.out⟩)
      go_wp2
      go_ret
      exact MtsE.mk _ l f rfl hgr HE.out hdr
/-- How the two boxes of a draw of any method stand. -/
def StM (n : Nat) (w0 : World) (g : Nat) (w wr : World) : Prop := ∃ (r li co qu : Int) (ip : List Int) (p : Option Addr) (q : Nat) (f : List Nat), Five wr (w.heap.size + 1) (.int .i64 r) (.slice p ip.length q) (.int .i64 li) (.int .i64 co) (.int .i64 qu) ∧ Five wr w.heap.size (.int .i64 0) (.slice none 0 0) (.int .i64 0) (.int .i64 0) (.int .i64 0) ∧ grR 3 1 intR (w.heap.size + 1 + 1) wr (.slice p ip.length q) ip f ∧ (I64 r ∧ I64 li ∧ I64 co ∧ I64 qu) ∧ ip.length ≤ n ∧ DW w0 g w wr
theorem StM.mk {n : Nat} {w0 : World} {g : Nat} {w wr : World} (r li co qu : Int) (ip : List Int) (p : Option Addr) (q : Nat) (f : List Nat) (h1 : Five wr (w.heap.size + 1) (.int .i64 r) (.slice p ip.length q) (.int .i64 li) (.int .i64 co) (.int .i64 qu)) (h2 : Five wr w.heap.size (.int .i64 0) (.slice none 0 0) (.int .i64 0) (.int .i64 0) (.int .i64 0)) (h3 : grR 3 1 intR (w.heap.size + 1 + 1) wr (.slice p ip.length q) ip f) (h4 : I64 r ∧ I64 li ∧ I64 co ∧ I64 qu) (h5 : ip.length ≤ n) (h6 : DW w0 g w wr) : StM n w0 g w wr := ⟨r, li, co, qu, ip, p, q, f, h1, h2, h3, h4, h5, h6⟩
set_option maxRecDepth 100000 in
set_option maxHeartbeats 6400000 in
theorem l5AnyMethod_any (w0 : World) (g : Nat) (sv : Value) (s : List Int) (fs : List Nat) (w : World) (h : CuW w0 g w) (hs : ints w sv s fs) (hgf : g ∉ fs) :
    Calls Tryz.prog 90 #[.pointer (some ⟨g, 0, none⟩), sv] w (MtdE (fun m => m.inputs.length ≤ 4) w0 g w) := by
  obtain ⟨ps, qs, rfl⟩ := slR.form hs
  have hglt := h.lt
  have D1 := ((DW.refl h).al (.cells #[.int .i64 0, .slice none 0 0, .int .i64 0, .int .i64 0, .int .i64 0] 38)).al (.cells #[.int .i64 0, .slice none 0 0, .int .i64 0, .int .i64 0, .int .i64 1] 38)
  have z1 : (w.alloc (.cells #[.int .i64 0, .slice none 0 0, .int .i64 0, .int .i64 0, .int .i64 0] 38)).heap.size = w.heap.size + 1 := by simp only [World.alloc, Array.size_push]
  have z2 : ((w.alloc (.cells #[.int .i64 0, .slice none 0 0, .int .i64 0, .int .i64 0, .int .i64 0] 38)).alloc (.cells #[.int .i64 0, .slice none 0 0, .int .i64 0, .int .i64 0, .int .i64 1] 38)).heap.size = w.heap.size + 1 + 1 := by simp only [World.alloc, Array.size_push]
  have T1 := (Five.new w 38 (.int .i64 0) (.slice none 0 0) (.int .i64 0) (.int .i64 0) (.int .i64 0)).below (ba (o := .cells #[.int .i64 0, .slice none 0 0, .int .i64 0, .int .i64 0, .int .i64 1] 38) (Below.refl _ _))
  have F1 := Five.new (w.alloc (.cells #[.int .i64 0, .slice none 0 0, .int .i64 0, .int .i64 0, .int .i64 0] 38)) 38 (.int .i64 0) (.slice none 0 0) (.int .i64 0) (.int .i64 0) (.int .i64 1)
  rw [z1] at F1
  go_enter Tryz.func90, Tryz.ntmps90
  have hs0 := hs.dw D1 hgf
  go_upto_if 8 with (go_at_call 78; refine (specIsSchema_any _ s fs _ hs0).mono ?_; rintro e _ ⟨rfl, rfl⟩)
  obtain ⟨W1, hW1⟩ : ∃ W1, W1 = ((w.alloc (.cells #[.int .i64 0, .slice none 0 0, .int .i64 0, .int .i64 0, .int .i64 0] 38)).alloc (.cells #[.int .i64 0, .slice none 0 0, .int .i64 0, .int .i64 0, .int .i64 1] 38)) := ⟨_, rfl⟩
  rw [← hW1] at D1 T1 F1 z2 hs0 ⊢
  have hs1 := hs0
  clear hW1 z1 hs0
  go_cut [] from 7 (fun wr => StM 3 w0 g w wr)
  case first =>
    cases hsc : schemaB s with
    | false =>
      go_wp2_with fail
      go_meet
      exact StM.mk 0 0 0 1 [] none 0 [] F1 T1 (grR.nilv _) ⟨⟨by omega, by omega⟩, ⟨by omega, by omega⟩, ⟨by omega, by omega⟩, ⟨by omega, by omega⟩⟩ (by simp) D1
    | true =>
      go_wp2_with fail
      refine (l5Method_any w0 g _ s fs _ D1.new hs1 hgf hsc).mono ?_
      rintro e w2 ⟨⟨r, ip, li, co, qu⟩, vi, f, rfl, hI, G2, hm, D2⟩
      dsimp only at hI G2 hm
      obtain ⟨p, q, rfl⟩ := slR.form G2.sl
      have F2 := F1.dw D2 (by omega)
      have T2 := T1.dw D2 (by omega)
      have nf : w.heap.size + 1 ∉ f := fun hm => by have := G2.fresh.2 _ hm; omega
      have Fs := F2.set (.int .i64 r) (.slice p ip.length q) (.int .i64 li) (.int .i64 co) (.int .i64 qu)
      have Ts : Five (set5 w2 (w.heap.size + 1) (.int .i64 r) (.slice p ip.length q) (.int .i64 li) (.int .i64 co) (.int .i64 qu)) w.heap.size (.int .i64 0) (.slice none 0 0) (.int .i64 0) (.int .i64 0) (.int .i64 0) := T2.sx (SX.set5 _ _ _ _ _ _) (by simp)
      have Gs := (G2.set5 good_int nf (.int .i64 r) (.slice p ip.length q) (.int .i64 li) (.int .i64 co) (.int .i64 qu)).less (show w.heap.size + 1 + 1 ≤ W1.heap.size by omega)
      have Ds := (D1.trans D2).set5 (j := w.heap.size + 1) (by omega) (.int .i64 r) (.slice p ip.length q) (.int .i64 li) (.int .i64 co) (.int .i64 qu)
      obtain ⟨⟨c0, c1, c2, c3, c4⟩, y0, y1, y2, y3, y4⟩ := (id F2)
      go_wp2_with fail
      go_meet
      exact StM.mk r li co qu ip p q f Fs Ts Gs hI hm Ds
  case rest =>
    clear D1 T1 F1 hs1 z2
    obtain ⟨r, li, co, qu, ip, p, q, f, F, T, G, hI, hm, D⟩ := hcut
    obtain ⟨w5, ew5⟩ : ∃ x, x = wc := ⟨_, rfl⟩
    subst ew5
    go_wp2_with fail
    refine (cBelow_any w0 g 10 _ D.new (by omega) (by omega)).mono ?_
    rintro e w6 ⟨c, rfl, ⟨hc0, hc1⟩, hd6⟩
    have D6 := D.trans hd6
    have F6 := F.dw hd6 (by omega)
    have T6 := T.dw hd6 (by omega)
    have G6 := G.dw good_int hd6 (by omega)
    have z6 := F6.lt
    have z6t := T6.lt
    have nf6 : w.heap.size + 1 ∉ f := fun hm => by have := G6.fresh.2 _ hm; omega
    obtain ⟨⟨b0, b1, b2, b3, b4⟩, x0, x1, x2, x3, x4⟩ := (id F6)
    clear D F T G hd6
    go_upto_block 0 with fail
    go_cut [] from 14 (fun wr => StM 4 w0 g w wr)
    case first =>
      by_cases h0 : c = 0
      · subst h0
        go_wp2_with fail
        refine (cPickLit_any w0 g _ _ _ D6.new (by decide) (by decide) (by decide +kernel) 3 rfl).mono ?_
        rintro e w7 ⟨y, rfl, hy, hd7⟩
        have D7 := D6.trans hd7
        have F7 := F6.dw hd7 (by omega)
        have T7 := T6.dw hd7 (by omega)
        have G7 := G6.dw good_int hd7 (by omega)
        have Fs := F7.set2 (.int .i64 y)
        have Ts := T7.far (p := ⟨w.heap.size + 1, 2, none⟩) (by show w.heap.size + 1 ≠ w.heap.size; omega) (.int .i64 y)
        have nf : w.heap.size + 1 ∉ f := fun hm => by have := G7.fresh.2 _ hm; omega
        have Gs := G7.set good_int (p := ⟨w.heap.size + 1, 2, none⟩) nf (.int .i64 y)
        have Ds := D7.set (p := ⟨w.heap.size + 1, 2, none⟩) (by show w.heap.size ≤ w.heap.size + 1; omega) (.int .i64 y)
        obtain ⟨⟨c0, c1, c2, c3, c4⟩, y0, y1, y2, y3, y4⟩ := (id F7)
        go_wp2_with fail
        go_meet
        exact StM.mk r y co qu ip p q f Fs Ts Gs ⟨by first | exact hy | exact hI.1, by first | exact hI.2.1 | exact hy, by first | exact hI.2.2.1 | exact hy, by first | exact hI.2.2.2 | exact hy⟩ (by omega) Ds
      by_cases h1 : c = 1
      · subst h1
        go_wp2_with fail
        go_region_law ((first
          | (refine step_draw_lit slInt rfl (.tmp 23) (.tmp 27) rfl (G7.below' good_int (by repeat (first | exact Below.refl _ _ | refine bdr ?_ | refine ba ?_))) (D7.below (by repeat (first | exact Below.refl _ _ | refine bdr ?_ | refine ba ?_))) (show w.heap.size ≤ w.heap.size + 1 + 1 by omega) (Nat.le_trans (show w.heap.size + 1 + 1 ≤ w7.heap.size by omega) (Below.size (B := w7.heap.size) (by repeat (first | exact Below.refl _ _ | refine bdr ?_ | refine ba ?_)))) rfl w7.heap.size (y - 1) hyI rfl (heap_alloc_new w7 _) (by omega) (by unfold maxLen; omega) ?_
             intro g8 cap8 w8 f8 G8 D8 gb8 mm8
             have F8 := (F7.below (by repeat (first | exact Below.refl _ _ | refine bdr ?_ | refine ba ?_))).grown gb8 (fun q hq e => by have := G7.ownB q hq; omega)
             have T8 := (T7.below (by repeat (first | exact Below.refl _ _ | refine bdr ?_ | refine ba ?_))).grown gb8 (fun q hq => by have := G7.ownB q hq; omega)
             obtain ⟨⟨u0, u1, u2, u3, u4⟩, v0, v1, v2, v3, v4⟩ := (id F8))
          | (go_simp; go_wp2_with (go_at_call 82; refine (cBelow_any w0 g 5 _ (D6.below (by repeat (first | exact Below.refl _ _ | refine bdr ?_ | refine ba ?_))).new (by omega) (by omega)).mono ?_; rintro e w7 ⟨y, rfl, ⟨hy0, hy1⟩, hd7⟩; have D7 := (D6.below (by repeat (first | exact Below.refl _ _ | refine bdr ?_ | refine ba ?_))).trans hd7; have F7 := (F6.below (by repeat (first | exact Below.refl _ _ | refine bdr ?_ | refine ba ?_))).dw hd7 (by omega); have T7 := (T6.below (by repeat (first | exact Below.refl _ _ | refine bdr ?_ | refine ba ?_))).dw hd7 (by omega); have G7 := (G6.below' good_int (by repeat (first | exact Below.refl _ _ | refine bdr ?_ | refine ba ?_))).dw good_int hd7 (by omega); have z77 := F7.lt; have hyI : I64 (y - 1) := ⟨by omega, by omega⟩; have hwy : IntKind.i64.wrap (y - 1) = y - 1 := IntWalk.i64_in _ (by omega); obtain ⟨⟨b70, b71, b72, b73, b74⟩, x70, x71, x72, x73, x74⟩ := (id F7)))))
        all_goals (try go_wp2_with fail)
        all_goals have nf8 : w.heap.size + 1 ∉ f8 := fun hm => by have := G8.fresh.2 _ hm; omega
        all_goals have Fs := F8.set1 (.slice (some ⟨g8, 0, none⟩) (ip.length + 1) cap8)
        all_goals have Ts := T8.far (p := ⟨w.heap.size + 1, 1, none⟩) (by show w.heap.size + 1 ≠ w.heap.size; omega) (.slice (some ⟨g8, 0, none⟩) (ip.length + 1) cap8)
        all_goals have Gs := G8.set good_int (p := ⟨w.heap.size + 1, 1, none⟩) nf8 (.slice (some ⟨g8, 0, none⟩) (ip.length + 1) cap8)
        all_goals have Ds := D8.set (p := ⟨w.heap.size + 1, 1, none⟩) (by show w.heap.size ≤ w.heap.size + 1; omega) (.slice (some ⟨g8, 0, none⟩) (ip.length + 1) cap8)
        all_goals go_meet
        all_goals exact StM.mk r li co qu (ip ++ [y - 1]) (some ⟨g8, 0, none⟩) cap8 f8 (by simpa using Fs) Ts (by simpa using Gs) hI (by simp; omega) Ds
      by_cases h2 : c = 2
      · subst h2
        go_wp2_with fail
        refine (cPickLit_any w0 g _ _ _ D6.new (by decide) (by decide) (by decide +kernel) 3 rfl).mono ?_
        rintro e w7 ⟨y, rfl, hy, hd7⟩
        have D7 := D6.trans hd7
        have F7 := F6.dw hd7 (by omega)
        have T7 := T6.dw hd7 (by omega)
        have G7 := G6.dw good_int hd7 (by omega)
        have Fs := F7.set4 (.int .i64 y)
        have Ts := T7.far (p := ⟨w.heap.size + 1, 4, none⟩) (by show w.heap.size + 1 ≠ w.heap.size; omega) (.int .i64 y)
        have nf : w.heap.size + 1 ∉ f := fun hm => by have := G7.fresh.2 _ hm; omega
        have Gs := G7.set good_int (p := ⟨w.heap.size + 1, 4, none⟩) nf (.int .i64 y)
        have Ds := D7.set (p := ⟨w.heap.size + 1, 4, none⟩) (by show w.heap.size ≤ w.heap.size + 1; omega) (.int .i64 y)
        obtain ⟨⟨c0, c1, c2, c3, c4⟩, y0, y1, y2, y3, y4⟩ := (id F7)
        go_wp2_with fail
        go_meet
        exact StM.mk r li co y ip p q f Fs Ts Gs ⟨by first | exact hy | exact hI.1, by first | exact hI.2.1 | exact hy, by first | exact hI.2.2.1 | exact hy, by first | exact hI.2.2.2 | exact hy⟩ (by omega) Ds
      by_cases h3 : c = 3
      · subst h3
        go_wp2_with fail
        refine (cPickLit_any w0 g _ _ _ D6.new (by decide) (by decide) (by decide +kernel) 3 rfl).mono ?_
        rintro e w7 ⟨y, rfl, hy, hd7⟩
        have D7 := D6.trans hd7
        have F7 := F6.dw hd7 (by omega)
        have T7 := T6.dw hd7 (by omega)
        have G7 := G6.dw good_int hd7 (by omega)
        have Fs := F7.set3 (.int .i64 y)
        have Ts := T7.far (p := ⟨w.heap.size + 1, 3, none⟩) (by show w.heap.size + 1 ≠ w.heap.size; omega) (.int .i64 y)
        have nf : w.heap.size + 1 ∉ f := fun hm => by have := G7.fresh.2 _ hm; omega
        have Gs := G7.set good_int (p := ⟨w.heap.size + 1, 3, none⟩) nf (.int .i64 y)
        have Ds := D7.set (p := ⟨w.heap.size + 1, 3, none⟩) (by show w.heap.size ≤ w.heap.size + 1; omega) (.int .i64 y)
        obtain ⟨⟨c0, c1, c2, c3, c4⟩, y0, y1, y2, y3, y4⟩ := (id F7)
        go_wp2_with fail
        go_meet
        exact StM.mk r li y qu ip p q f Fs Ts Gs ⟨by first | exact hy | exact hI.1, by first | exact hI.2.1 | exact hy, by first | exact hI.2.2.1 | exact hy, by first | exact hI.2.2.2 | exact hy⟩ (by omega) Ds
      go_wp2_with fail
      go_meet
      exact StM.mk r li co qu ip p q f F6 T6 G6 hI (by omega) D6
    case rest =>
      clear F6 T6 G6 D6 nf6 b0 b1 b2 b3 b4 x0 x1 x2 x3 x4 z6 z6t hI hm
      obtain ⟨r, li, co, qu, ip, p, q, f, F6, T6, G6, hI, hm, D6⟩ := hcut
      obtain ⟨w9, ew⟩ : ∃ x, x = wc := ⟨_, rfl⟩
      subst ew
      obtain ⟨⟨b0, b1, b2, b3, b4⟩, x0, x1, x2, x3, x4⟩ := (id F6)
      obtain ⟨⟨t0, t1, t2, t3, t4⟩, v0, v1, v2, v3, v4⟩ := (id T6)
      have nf : w.heap.size ∉ f := fun hm => by have := G6.fresh.2 _ hm; omega
      have HG := Lib.hid ((G6.set5 good_int nf (.int .i64 r) (.slice p ip.length q) (.int .i64 li) (.int .i64 co) (.int .i64 qu)).less (show w.heap.size ≤ w.heap.size + 1 + 1 by omega))
      have HD := Lib.hid (D6.set5 (Nat.le_refl _) (.int .i64 r) (.slice p ip.length q) (.int .i64 li) (.int .i64 co) (.int .i64 qu))
      go_wp2
      (try simp only [Exit.inBlock, Exit.then])
      refine bodyPost_ret (v := .agg #[.int .i64 r, .slice p ip.length q, .int .i64 li, .int .i64 co, .int .i64 qu]) ?_ rfl ?_
      · rw [results_cell_one rfl]
        simp [asAddr, Result.andThen, load_set5 T6]
      · exact MtdE.mk ⟨r, ip, li, co, qu⟩ _ f rfl hI HG.out hm HD.out
end Go.Proofs.YtpdmdfkcaabnaaaGreatDoor
/- The accesses that the reference draws; its draw of a schema, methods and facts. No condition. -/
namespace Go.Proofs.YtpdmdfkcaabnaaaGreatDoor
open Go.RowKit
set_option linter.unusedVariables false
set_option linter.unusedSimpArgs false
theorem load_acc {w : World} {g : Nat} {a b : Value} (h : Two w g a b) : (loadVar 28 ⟨g, 0, none⟩).run Tryz.prog w = .ok (.agg #[a, b]) w := load2 h Tryz.underlying28 rfl (by kernel_rfl)
theorem load_acc2 {w : World} {g : Nat} {a b : Value} (h : Two w g a b) (a' b' : Value) : (loadVar 28 ⟨g, 0, none⟩).run Tryz.prog ((w.setCell ⟨g, 0, none⟩ a').setCell ⟨g, 1, none⟩ b') = .ok (.agg #[a', b']) ((w.setCell ⟨g, 0, none⟩ a').setCell ⟨g, 1, none⟩ b') := load_acc (h.set a' b')
/-- What a draw of an access ends in. -/
def AcsE (P : AccD → Prop) (w0 : World) (g : Nat) (w : World) (e : Ending) (w' : World) : Prop := ∃ (x : AccD) (v : Value) (f : List Nat), e = .returned (.agg #[.int .i64 x.meth, v]) ∧ I64 x.meth ∧ grR 3 1 intR w.heap.size w' v x.vals f ∧ P x ∧ DW w0 g w w'
theorem AcsE.mk {P : AccD → Prop} {w0 : World} {g : Nat} {w : World} {e : Ending} {w' : World} (x : AccD) (v : Value) (f : List Nat) (he : e = .returned (.agg #[.int .i64 x.meth, v])) (hi : I64 x.meth) (h1 : grR 3 1 intR w.heap.size w' v x.vals f) (h2 : P x) (h3 : DW w0 g w w') : AcsE P w0 g w e w' := ⟨x, v, f, he, hi, h1, h2, h3⟩
theorem meths.dw {w0 w w1 : World} {g : Nat} {v : Value} {l : List MethD} {f : List Nat} (h : meths w v l f) (d : DW w0 g w w1) (hg : g ∉ f) : meths w1 v l f := slR.dw good_meth h d hg
set_option maxRecDepth 100000 in
set_option maxHeartbeats 3200000 in
theorem l5Access_any (w0 : World) (g : Nat) (vl : Value) (l : List MethD) (fl : List Nat) (w : World) (h : CuW w0 g w) (hl : meths w vl l fl) (hgf : g ∉ fl) (hl5 : l.length ≤ 5) (hin : Hid (∀ m ∈ l, m.inputs.length ≤ 4)) :
    Calls Tryz.prog 100 #[.pointer (some ⟨g, 0, none⟩), vl] w (AcsE (fun x => x.vals.length ≤ 4) w0 g w) := by
  obtain ⟨pl, ql, rfl⟩ := slR.form hl
  have hglt := h.lt
  have hal := (DW.refl h).al (.cells #[.int .i64 0, .slice none 0 0] 28)
  have T0 := Two.new w 28 (.int .i64 0) (.slice none 0 0)
  have hsz0 : (w.alloc (.cells #[.int .i64 0, .slice none 0 0] 28)).heap.size = w.heap.size + 1 := by simp only [World.alloc, Array.size_push]
  by_cases hz : l.length = 0
  · have hzb : ((l.length : Int) == 0) = true := by simp [hz]
    have HD := Lib.hid (hal.two2 (Nat.le_refl _) (.int .i64 0) (.slice none 0 0))
    obtain ⟨⟨t0, t1⟩, v0, v1⟩ := (id T0)
    clear hz
    go_enter Tryz.func100, Tryz.ntmps100
    go_wp2_with fail
    (try simp only [Exit.inBlock, Exit.then])
    refine bodyPost_ret (v := .agg #[.int .i64 0, .slice none 0 0]) ?_ rfl ?_
    · rw [results_cell_one rfl]
      first | (simp [asAddr, Result.andThen, load_acc2 T0]; done) | (simp [asAddr, Result.andThen, load_acc T0]; done)
    · exact AcsE.mk ⟨0, []⟩ _ [] rfl ⟨by show _ ≤ (0 : Int); omega, by show (0 : Int) ≤ _; omega⟩ (grR.nilv _) (by simp) (by first | exact HD.out | exact hal)
  · have hzb : ((l.length : Int) == 0) = false := by simpa using hz
    go_enter Tryz.func100, Tryz.ntmps100
    go_wp2_with fail
    refine (cBelow_any w0 g (l.length : Int) _ hal.new (by omega) (by omega)).mono ?_
    rintro e w1 ⟨r, rfl, ⟨hr0, hr1⟩, hd1⟩
    obtain ⟨r1, rfl⟩ := Int.eq_ofNat_of_zero_le hr0
    have hr1' : r1 < l.length := by omega
    obtain ⟨a, ha⟩ : ∃ a, a = l[r1].inputs.length := ⟨_, rfl⟩
    have ha4 : a ≤ 4 := by rw [ha]; exact hin.out _ (List.getElem_mem hr1')
    have HA := Lib.hid ha
    generalize w.alloc (.cells #[.int .i64 0, .slice none 0 0] 28) = W0 at hal T0 hsz0 hd1
    have hb1 := Two.new w1 28 (.int .i64 (r1 : Int)) (.slice none 0 0)
    have hd2 := hd1.al (.cells #[.int .i64 (r1 : Int), .slice none 0 0] 28)
    have hsz1 : W0.heap.size ≤ w1.heap.size := hd1.size
    clear hd1 ha
    go_wp2
    go_loopw [6] (fun i wr => ∃ (k : Nat) (ip : List Int) (v : Value) (f : List Nat), i = .int .i64 (k : Int) ∧ Hid (ip.length = k) ∧ k ≤ a ∧ Two wr w1.heap.size (.int .i64 (r1 : Int)) v ∧ grR 3 1 intR (w1.heap.size + 1) wr v ip f ∧ DW w0 g W0 wr) (fun i _ => a - (intOf i).toNat)
    case atStart => exact ⟨0, [], .slice none 0 0, [], rfl, Lib.hid rfl, Nat.zero_le _, hb1, grR.nilv _, hd2⟩
    case round =>
      obtain ⟨k, ip, v, f, rfl, Hlk, hka, hbx, hgr, hdr⟩ := hrel
      have hlen : ip.length ≤ 4 := by have := Hlk.out; omega
      obtain ⟨p, q, rfl⟩ := slR.form hgr.sl
      have hl1 := hl.dw (hal.trans hdr) hgf
      obtain ⟨gm, vi, fi, e', m0, m1, m2, m3, m4, hvi⟩ := hl1.get r1 hr1'
      subst e'
      obtain ⟨pi, qi, rfl⟩ := slR.form hvi
      rw [← HA.out] at m1
      obtain ⟨⟨c0, c1⟩, z0, z1⟩ := (id hbx)
      have hrl : (r1 : Int) < (l.length : Int) := by omega
      have hr00 : (0 : Int) ≤ (r1 : Int) := by omega
      have hwr := hbx.lt
      by_cases hk : k < a
      · have hki : (k : Int) < (a : Int) := by omega
        go_wp2_with fail
        refine (cBelow_any w0 g 4 _ hdr.new (by omega) (by omega)).mono ?_
        rintro e w2 ⟨y, rfl, ⟨hy0, hy1⟩, hd3⟩
        have hbx2 := hbx.dw hd3 (by omega)
        have hgr2 := hgr.dw good_int hd3 (by omega)
        have hdr2 := hdr.trans hd3
        have hwr2 := hbx2.lt
        obtain ⟨⟨e0, e1⟩, y0, y1⟩ := (id hbx2)
        clear c0 c1 z0 z1 hbx hgr hdr hd3 m0 m1 m2 m3 m4 hl1 hwr hvi
        have hy : I64 y := ⟨by omega, by omega⟩
        go_wp2_with (at_builtin; refine wpList_draw slInt good_int rfl _ _ rfl hgr2 hdr2 (show W0.heap.size ≤ w1.heap.size + 1 by omega) (by omega) rfl #[.int .i64 y] y [] ⟨rfl, rfl, hy⟩ rfl (Fresh.nil _) (by simp) rfl (by simp [Value.oneCell']) (by omega) (by unfold maxLen; omega) ?_; intro g4 cap4 w4 f4 hgr4 hdr4 hgb4 hmm4; have hbx4 := hbx2.grown hgb4 (fun q hq => by have := hgr2.ownB q hq; omega); obtain ⟨⟨u0, u1⟩, x0, x1⟩ := (id hbx4))
        have hnf : w1.heap.size ∉ f4 := fun hm => by have := hgr4.fresh.2 _ hm; omega
        go_roundw
        case rel => exact ⟨k + 1, ip ++ [y], _, f4, by go_num, Lib.hid (by simp [Hlk.out]), by omega, hbx4.set1 _, by simpa using hgr4.set good_int (p := ⟨w1.heap.size, 1, none⟩) hnf _, hdr4.set (by show W0.heap.size ≤ w1.heap.size; omega) _⟩
        case measure => simp [intOf]; omega
      · have hki : ¬ (k : Int) < (a : Int) := by omega
        have T1 := T0.dw hdr (by omega)
        have hnf : w.heap.size ∉ f := fun hm => by have := hgr.fresh.2 _ hm; omega
        obtain ⟨⟨t0, t1⟩, v0, v1⟩ := (id T1)
        have HG := Lib.hid (((hgr.set good_int (p := ⟨w.heap.size, 0, none⟩) hnf (.int .i64 (r1 : Int))).set good_int (p := ⟨w.heap.size, 1, none⟩) hnf (.slice p ip.length q)).less (show w.heap.size ≤ w1.heap.size + 1 by omega))
        have HD := Lib.hid ((hal.trans hdr).two2 (Nat.le_refl _) (.int .i64 (r1 : Int)) (.slice p ip.length q))
        go_wp2
        (try simp only [Exit.inBlock, Exit.then])
        refine bodyPost_ret (v := .agg #[.int .i64 (r1 : Int), .slice p ip.length q]) ?_ rfl ?_
        · rw [results_cell_one rfl]
          simp [asAddr, Result.andThen, load_acc2 T1]
        · exact AcsE.mk ⟨(r1 : Int), ip⟩ _ f rfl ⟨by show _ ≤ (r1 : Int); omega, by show (r1 : Int) ≤ _; omega⟩ HG.out hlen HD.out
/-- What a draw of any access ends in. -/
def AcaE (P : AccD → Prop) (w0 : World) (g : Nat) (w : World) (e : Ending) (w' : World) : Prop := ∃ (x : AccD) (v : Value) (f : List Nat), e = .returned (.agg #[.int .i64 x.meth, v]) ∧ I64 x.meth ∧ grR 3 1 intR w.heap.size w' v x.vals f ∧ P x ∧ DW w0 g w w'
def StA (n : Nat) (w0 : World) (g : Nat) (w : World) (b : Nat) (wr : World) : Prop := ∃ (x : Int) (ip : List Int) (p : Option Addr) (q : Nat) (f : List Nat), Two wr b (.int .i64 x) (.slice p ip.length q) ∧ Two wr w.heap.size (.int .i64 0) (.slice none 0 0) ∧ grR 3 1 intR (w.heap.size + 1) wr (.slice p ip.length q) ip f ∧ b ∉ f ∧ I64 x ∧ ip.length ≤ n ∧ DW w0 g w wr
theorem StA.mk {n : Nat} {w0 : World} {g : Nat} {w : World} {b : Nat} {wr : World} (x : Int) (ip : List Int) (p : Option Addr) (q : Nat) (f : List Nat) (h1 : Two wr b (.int .i64 x) (.slice p ip.length q)) (h2 : Two wr w.heap.size (.int .i64 0) (.slice none 0 0)) (h3 : grR 3 1 intR (w.heap.size + 1) wr (.slice p ip.length q) ip f) (h4 : b ∉ f) (h5 : I64 x) (h6 : ip.length ≤ n) (h7 : DW w0 g w wr) : StA n w0 g w b wr := ⟨x, ip, p, q, f, h1, h2, h3, h4, h5, h6, h7⟩
set_option maxRecDepth 100000 in
set_option maxHeartbeats 6400000 in
theorem l5AnyAccess_any (w0 : World) (g : Nat) (vl : Value) (l : List MethD) (fl : List Nat) (w : World) (h : CuW w0 g w) (hl : meths w vl l fl) (hgf : g ∉ fl) (hl5 : l.length ≤ 5) (hin : Hid (∀ m ∈ l, m.inputs.length ≤ 4)) :
    Calls Tryz.prog 81 #[.pointer (some ⟨g, 0, none⟩), vl] w (AcsE (fun x => x.vals.length ≤ 5) w0 g w) := by
  obtain ⟨pl, ql, rfl⟩ := slR.form hl
  have hglt := h.lt
  have hal := (DW.refl h).al (.cells #[.int .i64 0, .slice none 0 0] 28)
  have T0 := Two.new w 28 (.int .i64 0) (.slice none 0 0)
  have hsz0 : (w.alloc (.cells #[.int .i64 0, .slice none 0 0] 28)).heap.size = w.heap.size + 1 := by simp only [World.alloc, Array.size_push]
  go_enter Tryz.func81, Tryz.ntmps81
  go_wp2_with fail
  refine (l5Access_any w0 g _ l fl _ hal.new (hl.dw hal hgf) hgf hl5 hin).mono ?_
  rintro e w1 ⟨⟨x, ip⟩, va, f, rfl, hI, G1, hm, hd1⟩
  dsimp only at hI G1 hm
  obtain ⟨p, q, rfl⟩ := slR.form G1.sl
  have D1 := hal.trans hd1
  have T1 := T0.dw hd1 (by omega)
  have hz1 := hd1.size
  have fl1 := G1.lt good_int
  generalize w.alloc (.cells #[.int .i64 0, .slice none 0 0] 28) = W0 at hal T0 hsz0 hd1 G1 hz1
  have hb := Two.new w1 28 (.int .i64 x) (.slice p ip.length q)
  have D2 := D1.al (.cells #[.int .i64 x, .slice p ip.length q] 28)
  have T2 := T1.below (ba (o := .cells #[.int .i64 x, .slice p ip.length q] 28) (Below.refl _ _))
  have G2 := (G1.below' good_int (ba (o := .cells #[.int .i64 x, .slice p ip.length q] 28) (Below.refl _ _))).less (show w.heap.size + 1 ≤ W0.heap.size by omega)
  have nb2 : w1.heap.size ∉ f := fun hm => by have := fl1 _ hm; omega
  clear T0 T1 D1 hd1 G1 hal
  go_wp2_with fail
  refine (cBelow_any w0 g 12 _ D2.new (by omega) (by omega)).mono ?_
  rintro e w6 ⟨c, rfl, ⟨hc0, hc1⟩, hd6⟩
  have D6 := D2.trans hd6
  have F6 := hb.dw hd6 (by omega)
  have T6 := T2.dw hd6 (by omega)
  have G6 := G2.dw good_int hd6 (by omega)
  have z6 := F6.lt
  have z6t := T6.lt
  have hbw : w.heap.size + 1 ≤ w1.heap.size := by omega
  obtain ⟨⟨b0, b1⟩, x0, x1⟩ := (id F6)
  clear hb D2 T2 G2 hd6
  go_upto_block 0 with fail
  go_cut [] from 11 (fun wr => StA 5 w0 g w (w1.heap.size) wr)
  case first =>
    by_cases h0 : c = 0
    · subst h0
      go_wp2_with fail
      refine (cBelow_any w0 g 7 _ D6.new (by omega) (by omega)).mono ?_
      rintro e w7 ⟨y, rfl, ⟨hy0, hy1⟩, hd7⟩
      have D7 := D6.trans hd7
      have F7 := F6.dw hd7 (by omega)
      have T7 := T6.dw hd7 (by omega)
      have G7 := G6.dw good_int hd7 (by omega)
      have Fs := F7.set0 (.int .i64 (y - 1))
      have Ts := T7.far (p := ⟨w1.heap.size, 0, none⟩) (by show w1.heap.size ≠ w.heap.size; omega) (.int .i64 (y - 1))
      have Gs := G7.set good_int (p := ⟨w1.heap.size, 0, none⟩) nb2 (.int .i64 (y - 1))
      have Ds := D7.set (p := ⟨w1.heap.size, 0, none⟩) (by show w.heap.size ≤ w1.heap.size; omega) (.int .i64 (y - 1))
      obtain ⟨⟨c0, c1⟩, y0, y1⟩ := (id F7)
      go_wp2_with fail
      go_meet
      exact StA.mk (y - 1) ip p q f Fs Ts Gs nb2 ⟨by omega, by omega⟩ (by omega) Ds
    by_cases h1 : c = 1
    · subst h1
      go_wp2_with fail
      go_region_law ((first
        | (refine step_draw_lit slInt rfl (.tmp 20) (.tmp 24) rfl (G7.below' good_int (by repeat (first | exact Below.refl _ _ | refine bdr ?_ | refine ba ?_))) (D7.below (by repeat (first | exact Below.refl _ _ | refine bdr ?_ | refine ba ?_))) (show w.heap.size ≤ w.heap.size + 1 by omega) (Nat.le_trans (show w.heap.size + 1 ≤ w7.heap.size by omega) (Below.size (B := w7.heap.size) (by repeat (first | exact Below.refl _ _ | refine bdr ?_ | refine ba ?_)))) rfl w7.heap.size y hy rfl (heap_alloc_new w7 _) (by omega) (by unfold maxLen; omega) ?_
           intro g8 cap8 w8 f8 G8 D8 gb8 mm8
           have F8 := (F7.below (by repeat (first | exact Below.refl _ _ | refine bdr ?_ | refine ba ?_))).grown gb8 (fun q hq e => nb2 (e ▸ G7.mem q hq))
           have T8 := (T7.below (by repeat (first | exact Below.refl _ _ | refine bdr ?_ | refine ba ?_))).grown gb8 (fun q hq => by have := G7.ownB q hq; omega)
           have mm9 : ∀ j ∈ f8, j ∈ f ∨ w7.heap.size ≤ j := fun j hj => (mm8.out j hj).imp id (Nat.le_trans (Below.size (B := w7.heap.size) (by repeat (first | exact Below.refl _ _ | refine bdr ?_ | refine ba ?_))))
           obtain ⟨⟨u0, u1⟩, v0, v1⟩ := (id F8))
        | (go_simp; go_wp2_with (go_at_call 155; refine (cPickLit_any w0 g w6.drew _ _ D6.drew.new (by decide) (by decide) (by decide +kernel) 3 rfl).mono ?_; rintro e w7 ⟨y, rfl, hy, hd7⟩; have D7 := D6.drew.trans hd7; have F7 := (F6.below (by repeat (first | exact Below.refl _ _ | refine bdr ?_ | refine ba ?_))).dw hd7 (by omega); have T7 := (T6.below (by repeat (first | exact Below.refl _ _ | refine bdr ?_ | refine ba ?_))).dw hd7 (by omega); have G7 := (G6.below' good_int (by repeat (first | exact Below.refl _ _ | refine bdr ?_ | refine ba ?_))).dw good_int hd7 (by omega); have z77 := F7.lt; obtain ⟨⟨b70, b71⟩, x70, x71⟩ := (id F7)))))
      all_goals (try go_wp2_with fail)
      all_goals have nf8 : w1.heap.size ∉ f8 := fun hm => (mm9 _ hm).elim nb2 fun h => by have := F7.lt; omega
      all_goals have Fs := F8.set1 (.slice (some ⟨g8, 0, none⟩) (ip.length + 1) cap8)
      all_goals have Ts := T8.far (p := ⟨w1.heap.size, 1, none⟩) (by show w1.heap.size ≠ w.heap.size; omega) (.slice (some ⟨g8, 0, none⟩) (ip.length + 1) cap8)
      all_goals have Gs := G8.set good_int (p := ⟨w1.heap.size, 1, none⟩) nf8 (.slice (some ⟨g8, 0, none⟩) (ip.length + 1) cap8)
      all_goals have Ds := D8.set (p := ⟨w1.heap.size, 1, none⟩) (by show w.heap.size ≤ w1.heap.size; omega) (.slice (some ⟨g8, 0, none⟩) (ip.length + 1) cap8)
      all_goals go_meet
      all_goals exact StA.mk x (ip ++ [y]) (some ⟨g8, 0, none⟩) cap8 f8 (by simpa using Fs) Ts (by simpa using Gs) nf8 hI (by simp; omega) Ds
    go_wp2_with fail
    go_meet
    exact StA.mk x ip p q f F6 T6 G6 nb2 hI (by omega) D6
  case rest =>
    clear F6 T6 G6 D6 nb2 b0 b1 x0 x1 z6 z6t hI hm
    obtain ⟨x, ip, p, q, f, F6, T6, G6, nb, hI, hm, D6⟩ := hcut
    obtain ⟨w9, ew⟩ : ∃ x, x = wc := ⟨_, rfl⟩
    subst ew
    obtain ⟨⟨b0, b1⟩, x0, x1⟩ := (id F6)
    obtain ⟨⟨t0, t1⟩, v0, v1⟩ := (id T6)
    have nf : w.heap.size ∉ f := fun hm => by have := G6.fresh.2 _ hm; omega
    have HG := Lib.hid (((G6.set good_int (p := ⟨w.heap.size, 0, none⟩) nf (.int .i64 x)).set good_int (p := ⟨w.heap.size, 1, none⟩) nf (.slice p ip.length q)).less (show w.heap.size ≤ w.heap.size + 1 by omega))
    have HD := Lib.hid (D6.two2 (Nat.le_refl _) (.int .i64 x) (.slice p ip.length q))
    go_wp2
    (try simp only [Exit.inBlock, Exit.then])
    refine bodyPost_ret (v := .agg #[.int .i64 x, .slice p ip.length q]) ?_ rfl ?_
    · rw [results_cell_one rfl]
      simp [asAddr, Result.andThen, load_acc2 T6]
    · exact AcsE.mk ⟨x, ip⟩ _ f rfl hI HG.out hm HD.out
end Go.Proofs.YtpdmdfkcaabnaaaGreatDoor
/- The reference's draw of a schema, methods and facts, and what is drawn by it. Condition: the code is no longer than 2^20. -/
namespace Go.Proofs.YtpdmdfkcaabnaaaGreatDoor
open Go.RowKit
set_option linter.unusedVariables false
set_option linter.unusedSimpArgs false
/-- What a draw of a schema, methods and facts ends in. -/
def DrwE (w0 : World) (g : Nat) (w : World) (e : Ending) (w' : World) : Prop := ∃ (sv : Value) (s : List Int) (fs : List Nat) (vl : Value) (l : List MethD) (fl : List Nat) (vf : Value) (fa : List FactD) (ff : List Nat), e = .returned (.tuple #[sv, vl, vf]) ∧ ints w' sv s fs ∧ meths w' vl l fl ∧ facts w' vf fa ff ∧ (∀ j, j ∈ fs ∨ j ∈ fl ∨ j ∈ ff → w.heap.size ≤ j) ∧ s.length ≤ 4 ∧ l.length ≤ 5 ∧ Hid (∀ m ∈ l, m.inputs.length ≤ 4) ∧ fa.length ≤ 9 ∧ Hid (∀ y ∈ fa, y.vals.length ≤ 4) ∧ DW w0 g w w'
theorem DrwE.mk {w0 : World} {g : Nat} {w : World} {e : Ending} {w' : World} (sv : Value) (s : List Int) (fs : List Nat) (vl : Value) (l : List MethD) (fl : List Nat) (vf : Value) (fa : List FactD) (ff : List Nat) (he : e = .returned (.tuple #[sv, vl, vf])) (h1 : ints w' sv s fs) (h2 : meths w' vl l fl) (h3 : facts w' vf fa ff) (h4 : ∀ j, j ∈ fs ∨ j ∈ fl ∨ j ∈ ff → w.heap.size ≤ j) (h5 : s.length ≤ 4) (h6 : l.length ≤ 5) (h7 : Hid (∀ m ∈ l, m.inputs.length ≤ 4)) (h8 : fa.length ≤ 9) (h9 : Hid (∀ y ∈ fa, y.vals.length ≤ 4)) (h10 : DW w0 g w w') : DrwE w0 g w e w' := ⟨sv, s, fs, vl, l, fl, vf, fa, ff, he, h1, h2, h3, h4, h5, h6, h7, h8, h9, h10⟩
set_option maxRecDepth 100000 in
set_option maxHeartbeats 3200000 in
theorem l5Draw_any (w0 : World) (g : Nat) (w : World) (h : CuW w0 g w) :
    Calls Tryz.prog 80 #[.pointer (some ⟨g, 0, none⟩)] w (DrwE w0 g w) := by
  have hglt := h.lt
  go_enter Tryz.func80, Tryz.ntmps80
  go_wp2_with fail
  refine (l2Schema_any w0 g _ h).mono ?_
  rintro e w1 ⟨sv, s, fs, rfl, Gs, hsc, d1⟩
  obtain ⟨ps, qs, rfl⟩ := slR.form Gs.sl
  have hgs : g ∉ fs := fun hm => by have := Gs.fresh.2 _ hm; omega
  have hsl := schema_len hsc
  go_wp2_with fail
  refine (l5Methods_any w0 g _ s fs _ d1.new Gs.sl hgs hsc).mono ?_
  rintro e w2 ⟨vl, l, fl, rfl, Gl, ⟨hl4, hli⟩, d2⟩
  obtain ⟨pl, ql, rfl⟩ := slR.form Gl.sl
  have D2 := d1.trans d2
  have hs2 := ints.dw Gs.sl d2 hgs
  have hz1 := d1.size
  have hgl : g ∉ fl := fun hm => by have := Gl.fresh.2 _ hm; omega
  go_wp2_with fail
  refine (l2Facts_any w0 g _ s fs 8 _ D2.new hs2 hgs hsc (by omega)).mono ?_
  rintro e w3 ⟨vf, fa, ff, rfl, Gf, ⟨hf8, hfv⟩, d3⟩
  obtain ⟨pf, qf, rfl⟩ := slR.form Gf.sl
  have D3 := D2.trans d3
  have hs3 := hs2.dw d3 hgs
  have Gl3 := (Gl.dw good_meth d3 (by omega)).less (show w.heap.size ≤ w1.heap.size by omega)
  have hz2 := D2.size
  have hgf : g ∉ ff := fun hm => by have := Gf.fresh.2 _ hm; omega
  have hfs := Gs.fresh.2
  have hfl := Gl.fresh.2
  have hff := Gf.fresh.2
  have HS := Lib.hid (ints.lt Gs.sl)
  have hlF := Lib.hid (Gl.lt good_meth)
  go_wp2_with fail
  refine (cBelow_any w0 g 20 _ D3.new (by omega) (by omega)).mono ?_
  rintro e w4 ⟨c, rfl, ⟨hc0, hc1⟩, d4⟩
  have D4 := D3.trans d4
  have hs4 := hs3.dw d4 hgs
  have Gl4 := Gl3.dw good_meth d4 hglt
  have hf4 : facts w4 (.slice pf fa.length qf) fa ff := facts.dw Gf.sl d4 hgf
  have HL4 := Lib.hid (show ∀ m ∈ l, m.inputs.length ≤ 4 from fun m hm => by have := hli m hm; omega)
  have HF4 := Lib.hid (show ∀ y ∈ fa, y.vals.length ≤ 4 from fun y hy => by have := hfv y hy; omega)
  have HJ := Lib.hid (show ∀ j, j ∈ fs ∨ j ∈ fl ∨ j ∈ ff → w.heap.size ≤ j by
    rintro j (h | h | h)
    · exact hfs j h
    · have := hfl j h; omega
    · have := hff j h; omega)
  have hz4 := D4.size
  clear Gs d1 Gl d2 hs2 D2 Gf d3 D3 hs3 Gl3 d4 hfv hli
  by_cases h0 : c = 0
  · subst h0
    go_wp2_with fail
    refine (l5AnyMethod_any w0 g _ s fs _ D4.new hs4 hgs).mono ?_
    rintro e w5 ⟨m, vi, fi, rfl, hI, Gi, hmi, d5⟩
    obtain ⟨pi, qi, rfl⟩ := slR.form Gi.sl
    have D5 := D4.trans d5
    have hs5 := hs4.dw d5 hgs
    have Gl5 := Gl4.dw good_meth d5 hglt
    have hf5 := facts.dw hf4 d5 hgf
    have hlt4 := Gl4.lt good_meth
    have hff5 := facts.lt hf4
    have hfs5 := ints.lt hs4
    have hdis : ∀ j ∈ fi, j ∉ fl := fun j hj hm => by have h1 := Gi.fresh.2 j hj; have h2 := hlt4 j hm; omega
    have hfi : Fresh w.heap.size fi := Gi.fresh.mono hz4
    have hi5 := Gi.sl
    have HL5 := Lib.hid (show ∀ y ∈ l ++ [m], y.inputs.length ≤ 4 from fun y hy => (List.mem_append.1 hy).elim (HL4.out y) fun h => by rw [List.mem_singleton.1 h]; exact hmi)
    have hfl4 : ∀ j ∈ fl, w1.heap.size ≤ j := hfl
    have hz5 := D5.size
    clear D4 hs4 Gl4 hf4 d5 Gi
    go_wp2_with (at_builtin; refine wpList_draw slMethodS good_meth rfl _ _ rfl Gl5 D5 (Nat.le_refl _) hz5 rfl #[.int .i64 m.rel, .slice pi m.inputs.length qi, .int .i64 m.limit, .int .i64 m.cost, .int .i64 m.quota] m fi ⟨_, rfl, hI.1, hI.2.1, hI.2.2.1, hI.2.2.2, hi5⟩ rfl hfi hdis rfl (by simp [Value.oneCell']) (by omega) (by unfold maxLen; omega) ?_; intro g6 cap6 w6 f6 Gl6 D6 gb6 mm6)
    have own6 : ∀ q, (Value.slice pl l.length ql).ownBlock = some q → q ∈ fl := Gl5.mem
    have hs6 : ints w6 (.slice ps s.length qs) s fs := hs5.frame (fun j hj => gb6.block j (hs5.lt j hj) (fun e => by have h1 := hfl4 j (own6 j e.symm); have h2 := HS.out j hj; omega))
    have hf6 : facts w6 (.slice pf fa.length qf) fa ff := facts.frame hf5 (fun j hj => gb6.block j (facts.lt hf5 j hj) (fun e => by have h1 := hlF.out j (own6 j e.symm); have h2 := hff j hj; omega))
    have Gl6' := Gl6.sl
    have hl6 : (l ++ [m]).length = l.length + 1 := by simp
    rw [← hl6] at Gl6'
    have hfr6 := Gl6.fresh.2
    go_ret3
    exact DrwE.mk _ s fs _ (l ++ [m]) f6 _ fa ff (by rw [hl6]; rfl) hs6 Gl6' hf6 (by
      rintro j (h | h | h)
      · exact HJ.out j (.inl h)
      · exact hfr6 j h
      · exact HJ.out j (.inr (.inr h))) (by omega) (by omega) HL5 (by omega) HF4 D6
  by_cases h1 : c = 1
  · subst h1
    go_wp2_with fail
    refine (l2AnyFacts_any w0 g _ s fs _ D4.new hs4 hgs).mono ?_
    rintro e w5 ⟨vg, fb, fg, rfl, Gg, ⟨hg9, hgv⟩, d5⟩
    obtain ⟨pg, qg, rfl⟩ := slR.form Gg.sl
    have hs5 := hs4.dw d5 hgs
    have Gl5 := Gl4.dw good_meth d5 hglt
    have hfg := Gg.fresh.2
    go_wp2
    go_ret3
    exact DrwE.mk _ s fs _ l fl _ fb fg rfl hs5 Gl5.sl Gg.sl (by
      rintro j (h | h | h)
      · exact HJ.out j (.inl h)
      · exact HJ.out j (.inr (.inl h))
      · have := hfg j h; omega) (by omega) (by omega) HL4 hg9 (Lib.hid hgv) (D4.trans d5)
  by_cases h2 : c = 2
  · subst h2
    go_wp2_with fail
    refine (l2AnySchema_any w0 g _ D4.new).mono ?_
    rintro e w5 ⟨vt, t, ft, rfl, Gt, ⟨ht1, ht4⟩, d5⟩
    obtain ⟨pt, qt, rfl⟩ := slR.form Gt.sl
    have Gl5 := Gl4.dw good_meth d5 hglt
    have hf5 := facts.dw hf4 d5 hgf
    have hft := Gt.fresh.2
    go_wp2
    go_ret3
    exact DrwE.mk _ t ft _ l fl _ fa ff rfl Gt.sl Gl5.sl hf5 (by
      rintro j (h | h | h)
      · have := hft j h; omega
      · exact HJ.out j (.inr (.inl h))
      · exact HJ.out j (.inr (.inr h))) ht4 (by omega) HL4 (by omega) HF4 (D4.trans d5)
  go_wp2
  go_ret3
  exact DrwE.mk _ s fs _ l fl _ fa ff rfl hs4 Gl4.sl hf4 HJ.out (by omega) (by omega) HL4 (by omega) HF4 D4
end Go.Proofs.YtpdmdfkcaabnaaaGreatDoor
/- The draws of methods and accesses. Condition: the code is no longer than 2^20. -/
namespace Go.Proofs.YtpdmdfkcaabnaaaGreatDoor
open Go.RowKit
set_option linter.unusedVariables false
set_option linter.unusedSimpArgs false
theorem results_tt_cell {fn : Func} {t u p : Tmp} {ty : TypeId} (h : fn.results = #[.tmp t, .tmp u, .cell p ty]) (tmps : Array Value) (P : Program) (w : World) :
    (results fn tmps).run P w = ((asAddr (tmps.getD p undef)).run P w).andThen fun a w₁ => ((loadVar ty a).run P w₁).andThen fun v w₂ => .ok (.tuple #[tmps.getD t undef, tmps.getD u undef, v]) w₂ := by
  simp only [results, h]
  simp [Sem.run_bind, Result.andThen]
theorem results_ttt_cell_t {fn : Func} {t u x p y : Tmp} {ty : TypeId} (h : fn.results = #[.tmp t, .tmp u, .tmp x, .cell p ty, .tmp y]) (tmps : Array Value) (P : Program) (w : World) :
    (results fn tmps).run P w = ((asAddr (tmps.getD p undef)).run P w).andThen fun a w₁ => ((loadVar ty a).run P w₁).andThen fun v w₂ => .ok (.tuple #[tmps.getD t undef, tmps.getD u undef, tmps.getD x undef, v, tmps.getD y undef]) w₂ := by
  simp only [results, h]
  simp [Sem.run_bind, Result.andThen]
theorem meths_two2 {w : World} {v : Value} {l : List MethD} {f : List Nat} {g : Nat} (h : meths w v l f) (hg : g ∉ f) (a b : Value) : meths (two2 w g a b) v l f := (meths.far h (p := ⟨g, 0, none⟩) hg a).far (p := ⟨g, 1, none⟩) hg b
/-- A schema and a method. -/
def DimE (w : World) (e : Ending) (w' : World) : Prop := ∃ (sv : Value) (s : List Int) (fs : List Nat) (m : MethD) (vi : Value) (fi : List Nat), e = .returned (.tuple #[sv, .agg #[.int .i64 m.rel, vi, .int .i64 m.limit, .int .i64 m.cost, .int .i64 m.quota]]) ∧ ints w' sv s fs ∧ s.length ≤ 4 ∧ (I64 m.rel ∧ I64 m.limit ∧ I64 m.cost ∧ I64 m.quota) ∧ ints w' vi m.inputs fi ∧ m.inputs.length ≤ 4 ∧ Below w.heap.size w w'
theorem DimE.mk {w : World} {e : Ending} {w' : World} (sv : Value) (s : List Int) (fs : List Nat) (m : MethD) (vi : Value) (fi : List Nat) (he : e = .returned (.tuple #[sv, .agg #[.int .i64 m.rel, vi, .int .i64 m.limit, .int .i64 m.cost, .int .i64 m.quota]])) (h1 : ints w' sv s fs) (h2 : s.length ≤ 4) (h3 : I64 m.rel ∧ I64 m.limit ∧ I64 m.cost ∧ I64 m.quota) (h4 : ints w' vi m.inputs fi) (h5 : m.inputs.length ≤ 4) (h6 : Below w.heap.size w w') : DimE w e w' := ⟨sv, s, fs, m, vi, fi, he, h1, h2, h3, h4, h5, h6⟩
set_option maxRecDepth 100000 in
set_option maxHeartbeats 3200000 in
theorem DrawIsMethod_any (b : Option Addr) (cap : Nat) (l : List Int) (w : World) (hl : bytesV w (.slice b l.length cap) l) (hn : l.length ≤ 1048576) :
    Calls Tryz.prog 17 #[.slice b l.length cap] w (DimE w) := by
  have T0 := Five.new w 38 (.int .i64 0) (.slice none 0 0) (.int .i64 0) (.int .i64 0) (.int .i64 0)
  have hsz : (w.alloc (.cells #[.int .i64 0, .slice none 0 0, .int .i64 0, .int .i64 0, .int .i64 0] 38)).heap.size = w.heap.size + 1 := by simp only [World.alloc, Array.size_push]
  go_enter Tryz.func17, Tryz.ntmps17
  go_wp2_with fail
  refine (cNew_any b cap l _ (hl.below' (ba (Below.refl _ _))) hn).mono ?_
  rintro e w1 ⟨g, rfl, hc⟩
  have hglt := hc.lt
  have hgg := hc.hg
  go_wp2_with fail
  refine (l2AnySchema_any _ g w1 hc).mono ?_
  rintro e w2 ⟨sv, s, fs, rfl, hs, hsl, d2⟩
  obtain ⟨p, q, rfl⟩ := slR.form hs.sl
  have hgf : g ∉ fs := fun hm => by have := hs.fresh.2 _ hm; omega
  go_wp2_with fail
  refine (l5AnyMethod_any _ g _ s fs w2 d2.new hs.sl hgf).mono ?_
  rintro e w3 ⟨⟨r, ip, li, co, qu⟩, vi, fi, rfl, hI, G, hm, d3⟩
  dsimp only at hI G hm
  obtain ⟨pi, qi, rfl⟩ := slR.form G.sl
  have d := d2.trans d3
  have T3 := (T0.below hc.hb).dw d (by omega)
  obtain ⟨⟨t0, t1, t2, t3, t4⟩, v0, v1, v2, v3, v4⟩ := (id T3)
  have hs3 : ints w3 (.slice p s.length q) s fs := ints.dw hs.sl d3 hgf
  have hz1 := d2.size
  have hn1 : w.heap.size ∉ fs := fun hm => by have := hs.fresh.2 _ hm; omega
  have hn2 : w.heap.size ∉ fi := fun hm => by have := G.fresh.2 _ hm; omega
  have HB := Lib.hid (below_set5 (g := w.heap.size) (bt (ba (Below.refl _ _)) d.below0) (Nat.le_refl _) (.int .i64 r) (.slice pi ip.length qi) (.int .i64 li) (.int .i64 co) (.int .i64 qu))
  clear T0 hsz
  go_wp2
  refine bodyPost_ret (v := .tuple #[.slice p s.length q, .agg #[.int .i64 r, .slice pi ip.length qi, .int .i64 li, .int .i64 co, .int .i64 qu]]) ?_ rfl ?_
  · rw [results_tmp_cell rfl]
    simp [asAddr, Result.andThen, load_set5 T3]
  · exact DimE.mk _ s fs ⟨r, ip, li, co, qu⟩ _ fi rfl (ints_set5 hs3 hn1 _ _ _ _ _) hsl.2 hI (ints_set5 G.sl hn2 _ _ _ _ _) hm HB.out
/-- A schema and methods. -/
def DamE (w : World) (e : Ending) (w' : World) : Prop := ∃ (sv : Value) (s : List Int) (fs : List Nat) (vl : Value) (l : List MethD) (fl : List Nat), e = .returned (.tuple #[sv, vl]) ∧ ints w' sv s fs ∧ s.length ≤ 4 ∧ meths w' vl l fl ∧ l.length ≤ 5 ∧ Hid (∀ m ∈ l, m.inputs.length ≤ 4) ∧ Below w.heap.size w w'
theorem DamE.mk {w : World} {e : Ending} {w' : World} (sv : Value) (s : List Int) (fs : List Nat) (vl : Value) (l : List MethD) (fl : List Nat) (he : e = .returned (.tuple #[sv, vl])) (h1 : ints w' sv s fs) (h2 : s.length ≤ 4) (h3 : meths w' vl l fl) (h4 : l.length ≤ 5) (h5 : Hid (∀ m ∈ l, m.inputs.length ≤ 4)) (h6 : Below w.heap.size w w') : DamE w e w' := ⟨sv, s, fs, vl, l, fl, he, h1, h2, h3, h4, h5, h6⟩
set_option maxRecDepth 100000 in
theorem DrawAreMethods_any (b : Option Addr) (cap : Nat) (l : List Int) (w : World) (hl : bytesV w (.slice b l.length cap) l) (hn : l.length ≤ 1048576) :
    Calls Tryz.prog 21 #[.slice b l.length cap] w (DamE w) := by
  go_enter Tryz.func21, Tryz.ntmps21
  go_wp2_with fail
  refine (cNew_any b cap l _ hl hn).mono ?_
  rintro e w1 ⟨g, rfl, hc⟩
  go_wp2_with fail
  refine (l5Draw_any _ g w1 hc).mono ?_
  rintro e w2 ⟨sv, s, fs, vl, ml, fl, vf, fa, ff, rfl, hs, hml, hf, hJ, hs4, hl5, hin, hf9, hfv, d2⟩
  obtain ⟨p, q, rfl⟩ := slR.form hs
  obtain ⟨pl, ql, rfl⟩ := slR.form hml
  obtain ⟨pf, qf, rfl⟩ := slR.form hf
  go_wp2
  go_ret2
  exact DamE.mk _ s fs _ ml fl rfl hs hs4 hml hl5 hin d2.below0
/-- A schema, methods and an access. -/
def DiaxE (w : World) (e : Ending) (w' : World) : Prop := ∃ (sv : Value) (s : List Int) (fs : List Nat) (vl : Value) (l : List MethD) (fl : List Nat) (x : AccD) (vx : Value) (fx : List Nat), e = .returned (.tuple #[sv, vl, .agg #[.int .i64 x.meth, vx]]) ∧ ints w' sv s fs ∧ meths w' vl l fl ∧ I64 x.meth ∧ ints w' vx x.vals fx ∧ x.vals.length ≤ 5 ∧ (∀ j ∈ fx, w.heap.size ≤ j) ∧ Below w.heap.size w w'
theorem DiaxE.mk {w : World} {e : Ending} {w' : World} (sv : Value) (s : List Int) (fs : List Nat) (vl : Value) (l : List MethD) (fl : List Nat) (x : AccD) (vx : Value) (fx : List Nat) (he : e = .returned (.tuple #[sv, vl, .agg #[.int .i64 x.meth, vx]])) (h1 : ints w' sv s fs) (h2 : meths w' vl l fl) (h3 : I64 x.meth) (h4 : ints w' vx x.vals fx) (h5 : x.vals.length ≤ 5) (h7 : ∀ j ∈ fx, w.heap.size ≤ j) (h6 : Below w.heap.size w w') : DiaxE w e w' := ⟨sv, s, fs, vl, l, fl, x, vx, fx, he, h1, h2, h3, h4, h5, h7, h6⟩
set_option maxRecDepth 100000 in
set_option maxHeartbeats 3200000 in
theorem DrawIsAccess_any (b : Option Addr) (cap : Nat) (l : List Int) (w : World) (hl : bytesV w (.slice b l.length cap) l) (hn : l.length ≤ 1048576) :
    Calls Tryz.prog 99 #[.slice b l.length cap] w (DiaxE w) := by
  have T0 := Two.new w 28 (.int .i64 0) (.slice none 0 0)
  have hsz : (w.alloc (.cells #[.int .i64 0, .slice none 0 0] 28)).heap.size = w.heap.size + 1 := by simp only [World.alloc, Array.size_push]
  go_enter Tryz.func99, Tryz.ntmps99
  go_wp2_with fail
  refine (cNew_any b cap l _ (hl.below' (ba (Below.refl _ _))) hn).mono ?_
  rintro e w1 ⟨g, rfl, hc⟩
  have hglt := hc.lt
  have hgg := hc.hg
  go_wp2_with fail
  refine (l5Draw_any _ g w1 hc).mono ?_
  rintro e w2 ⟨sv, s, fs, vl, ml, fl, vf, fa, ff, rfl, hs, hml, hf, hJ, hs4, hl5, hin, hf9, hfv, d2⟩
  obtain ⟨p, q, rfl⟩ := slR.form hs
  obtain ⟨pl, ql, rfl⟩ := slR.form hml
  obtain ⟨pf, qf, rfl⟩ := slR.form hf
  have hgl : g ∉ fl := fun hm => by have := hJ g (.inr (.inl hm)); omega
  have hgs : g ∉ fs := fun hm => by have := hJ g (.inl hm); omega
  go_wp2_with fail
  refine (l5AnyAccess_any _ g _ ml fl w2 d2.new hml hgl hl5 hin).mono ?_
  rintro e w3 ⟨⟨x, ip⟩, vx, fx, rfl, hI, G, hm, d3⟩
  dsimp only at hI G hm
  obtain ⟨px, qx, rfl⟩ := slR.form G.sl
  have d := d2.trans d3
  have T3 := (T0.below hc.hb).dw d (by omega)
  obtain ⟨⟨t0, t1⟩, v0, v1⟩ := (id T3)
  have hs3 := ints.dw hs d3 hgs
  have hl3 := meths.dw hml d3 hgl
  have hz1 := d2.size
  have hn1 : w.heap.size ∉ fs := fun hm => by have := hJ _ (.inl hm); omega
  have hn2 : w.heap.size ∉ fl := fun hm => by have := hJ _ (.inr (.inl hm)); omega
  have hn3 : w.heap.size ∉ fx := fun hm => by have := G.fresh.2 _ hm; omega
  have HB := Lib.hid (below_two2 (g := w.heap.size) (bt (ba (Below.refl _ _)) d.below0) (Nat.le_refl _) (.int .i64 x) (.slice px ip.length qx))
  have hfx9 := G.fresh.2
  have hz9 : w.heap.size ≤ w2.heap.size := by have := hc.hb.size; omega
  clear T0 hsz hin
  go_wp2
  refine bodyPost_ret (v := .tuple #[.slice p s.length q, .slice pl ml.length ql, .agg #[.int .i64 x, .slice px ip.length qx]]) ?_ rfl ?_
  · rw [results_tt_cell rfl]
    simp [asAddr, Result.andThen, load_acc2 T3]
  · exact DiaxE.mk _ s fs _ ml fl ⟨x, ip⟩ _ fx rfl (ints_two2 hs3 hn1 _ _) (meths_two2 hl3 hn2 _ _) hI (ints_two2 G.sl hn3 _ _) hm (fun j hj => by have := hfx9 j hj; omega) HB.out
/-- An access. -/
def DfaE (w : World) (e : Ending) (w' : World) : Prop := ∃ (x : AccD) (vx : Value) (fx : List Nat), e = .returned (.agg #[.int .i64 x.meth, vx]) ∧ I64 x.meth ∧ ints w' vx x.vals fx ∧ x.vals.length ≤ 5 ∧ Below w.heap.size w w'
theorem DfaE.mk {w : World} {e : Ending} {w' : World} (x : AccD) (vx : Value) (fx : List Nat) (he : e = .returned (.agg #[.int .i64 x.meth, vx])) (h3 : I64 x.meth) (h4 : ints w' vx x.vals fx) (h5 : x.vals.length ≤ 5) (h6 : Below w.heap.size w w') : DfaE w e w' := ⟨x, vx, fx, he, h3, h4, h5, h6⟩
set_option maxRecDepth 100000 in
set_option maxHeartbeats 3200000 in
theorem DrawFormatAccess_any (b : Option Addr) (cap : Nat) (l : List Int) (w : World) (hl : bytesV w (.slice b l.length cap) l) (hn : l.length ≤ 1048576) :
    Calls Tryz.prog 22 #[.slice b l.length cap] w (DfaE w) := by
  have T0 := Two.new w 28 (.int .i64 0) (.slice none 0 0)
  have hsz : (w.alloc (.cells #[.int .i64 0, .slice none 0 0] 28)).heap.size = w.heap.size + 1 := by simp only [World.alloc, Array.size_push]
  have hnl := (slW.below goodW_byte hl (ba (o := .cells #[.int .i64 0, .slice none 0 0] 28) (Below.refl _ _)))
  go_enter Tryz.func22, Tryz.ntmps22
  go_wp2_with fail
  refine (DrawIsAccess_any b cap l _ (hl.below' (ba (Below.refl _ _))) hn).mono ?_
  rintro e w1 ⟨sv, s, fs, vl, ml, fl, ⟨x, ip⟩, vx, fx, rfl, hs, hml, hI, hx, hm, hfx, hb⟩
  dsimp only at hI hx hm
  obtain ⟨p, q, rfl⟩ := slR.form hs
  obtain ⟨pl, ql, rfl⟩ := slR.form hml
  obtain ⟨px, qx, rfl⟩ := slR.form hx
  have hn3 : w.heap.size ∉ fx := fun h => by have := hfx _ h; omega
  have hb2 : Below w.heap.size w w1 := bt (ba (Below.refl _ _)) hb
  have T1 := (T0.below hb).below (ba (o := .cells #[.int .i64 x, .slice px ip.length qx] 28) (Below.refl _ _))
  have hx1 := ints.below' hx (ba (o := .cells #[.int .i64 x, .slice px ip.length qx] 28) (Below.refl _ _))
  have HB := Lib.hid (below_two2 (g := w.heap.size) (bt hb2 (ba (o := .cells #[.int .i64 x, .slice px ip.length qx] 28) (Below.refl _ _))) (Nat.le_refl _) (.int .i64 x) (.slice px ip.length qx))
  obtain ⟨⟨t0, t1⟩, v0, v1⟩ := (id T1)
  clear T0 hsz hnl hs hml
  go_wp2
  (try simp only [Exit.inBlock, Exit.then])
  refine bodyPost_ret (v := .agg #[.int .i64 x, .slice px ip.length qx]) ?_ rfl ?_
  · rw [results_cell_one rfl]
    simp [asAddr, Result.andThen, load_acc2 T1]
  · exact DfaE.mk ⟨x, ip⟩ _ fx rfl hI (ints_two2 hx1 hn3 _ _) hm HB.out
/-- All that FnMethods draws first. -/
def DrtE (w : World) (e : Ending) (w' : World) : Prop := ∃ (sv : Value) (s : List Int) (fs : List Nat) (vl : Value) (l : List MethD) (fl : List Nat) (vf : Value) (fa : List FactD) (ff : List Nat) (x : AccD) (vx : Value) (fx : List Nat) (ch : Int), e = .returned (.tuple #[sv, vl, vf, .agg #[.int .i64 x.meth, vx], .int .i64 ch]) ∧ ints w' sv s fs ∧ meths w' vl l fl ∧ facts w' vf fa ff ∧ (fa.length ≤ 9 ∧ Hid (∀ y ∈ fa, y.vals.length ≤ 4)) ∧ I64 x.meth ∧ ints w' vx x.vals fx ∧ (-1 ≤ ch ∧ ch ≤ 6) ∧ Below w.heap.size w w'
theorem DrtE.mk {w : World} {e : Ending} {w' : World} (sv : Value) (s : List Int) (fs : List Nat) (vl : Value) (l : List MethD) (fl : List Nat) (vf : Value) (fa : List FactD) (ff : List Nat) (x : AccD) (vx : Value) (fx : List Nat) (ch : Int) (he : e = .returned (.tuple #[sv, vl, vf, .agg #[.int .i64 x.meth, vx], .int .i64 ch])) (h1 : ints w' sv s fs) (h2 : meths w' vl l fl) (h3 : facts w' vf fa ff) (h4 : fa.length ≤ 9 ∧ Hid (∀ y ∈ fa, y.vals.length ≤ 4)) (h5 : I64 x.meth) (h6 : ints w' vx x.vals fx) (h7 : -1 ≤ ch ∧ ch ≤ 6) (h8 : Below w.heap.size w w') : DrtE w e w' := ⟨sv, s, fs, vl, l, fl, vf, fa, ff, x, vx, fx, ch, he, h1, h2, h3, h4, h5, h6, h7, h8⟩
set_option maxRecDepth 100000 in
set_option maxHeartbeats 3200000 in
theorem DrawRespondTo_any (b : Option Addr) (cap : Nat) (l : List Int) (w : World) (hl : bytesV w (.slice b l.length cap) l) (hn : l.length ≤ 1048576) :
    Calls Tryz.prog 7 #[.slice b l.length cap] w (DrtE w) := by
  have T0 := Two.new w 28 (.int .i64 0) (.slice none 0 0)
  have hsz : (w.alloc (.cells #[.int .i64 0, .slice none 0 0] 28)).heap.size = w.heap.size + 1 := by simp only [World.alloc, Array.size_push]
  go_enter Tryz.func7, Tryz.ntmps7
  go_wp2_with fail
  refine (cNew_any b cap l _ (hl.below' (ba (Below.refl _ _))) hn).mono ?_
  rintro e w1 ⟨g, rfl, hc⟩
  have hglt := hc.lt
  have hgg := hc.hg
  go_wp2_with fail
  refine (l5Draw_any _ g w1 hc).mono ?_
  rintro e w2 ⟨sv, s, fs, vl, ml, fl, vf, fa, ff, rfl, hs, hml, hf, hJ, hs4, hl5, hin, hf9, hfv, d2⟩
  obtain ⟨p, q, rfl⟩ := slR.form hs
  obtain ⟨pl, ql, rfl⟩ := slR.form hml
  obtain ⟨pf, qf, rfl⟩ := slR.form hf
  have hgl : g ∉ fl := fun hm => by have := hJ g (.inr (.inl hm)); omega
  have hgs : g ∉ fs := fun hm => by have := hJ g (.inl hm); omega
  have hgf : g ∉ ff := fun hm => by have := hJ g (.inr (.inr hm)); omega
  go_wp2_with fail
  refine (l5AnyAccess_any _ g _ ml fl w2 d2.new hml hgl hl5 hin).mono ?_
  rintro e w3 ⟨⟨x, ip⟩, vx, fx, rfl, hI, G, hm, d3⟩
  dsimp only at hI G hm
  obtain ⟨px, qx, rfl⟩ := slR.form G.sl
  have d := (d2.trans d3).al (.cells #[.int .i64 x, .slice px ip.length qx] 28)
  have hs3 := ints.al (ints.dw hs d3 hgs) (.cells #[.int .i64 x, .slice px ip.length qx] 28)
  have hl3 := meths.below' (meths.dw hml d3 hgl) (ba (o := .cells #[.int .i64 x, .slice px ip.length qx] 28) (Below.refl _ _))
  have hf3 := facts.below' (facts.dw hf d3 hgf) (ba (o := .cells #[.int .i64 x, .slice px ip.length qx] 28) (Below.refl _ _))
  have hx3 := ints.al G.sl (.cells #[.int .i64 x, .slice px ip.length qx] 28)
  have hgx : g ∉ fx := fun hm => by have := G.fresh.2 _ hm; have := d2.size; omega
  have F3 := Two.new w3 28 (.int .i64 x) (.slice px ip.length qx)
  have hz1 := d2.size
  have hz2 := d3.size
  have hz3 : (w3.alloc (.cells #[.int .i64 x, .slice px ip.length qx] 28)).heap.size = w3.heap.size + 1 := by simp only [World.alloc, Array.size_push]
  have T3 := (T0.below hc.hb).dw d (by omega)
  have hn1 : w.heap.size ∉ fs := fun hm => by have := hJ _ (.inl hm); omega
  have hn2 : w.heap.size ∉ fl := fun hm => by have := hJ _ (.inr (.inl hm)); omega
  have hn4 : w.heap.size ∉ ff := fun hm => by have := hJ _ (.inr (.inr hm)); omega
  have hn3 : w.heap.size ∉ fx := fun hm => by have := G.fresh.2 _ hm; omega
  have HFV := Lib.hid (show fa.length ≤ 9 ∧ Hid (∀ y ∈ fa, y.vals.length ≤ 4) from ⟨hf9, hfv⟩)
  clear T0 hin G hs hml hf d2 d3
  obtain ⟨⟨f0, f1⟩, y0, y1⟩ := (id F3)
  go_wp2_with fail
  generalize w3.alloc (.cells #[.int .i64 x, .slice px ip.length qx] 28) = w4 at d hs3 hl3 hf3 hx3 F3 hz3 T3 f0 f1 y0 y1 ⊢
  go_region_law ((first
    | (go_simp; go_wp2_with (go_at_call 82; refine (cBelow_any _ g 8 _ (d.below (by repeat (first | exact Below.refl _ _ | refine bdr ?_ | refine ba ?_))).new (by omega) (by omega)).mono ?_; rintro e w5 ⟨y, rfl, ⟨hy0, hy1⟩, d5⟩; have hwy : IntKind.i64.wrap (y - 1) = y - 1 := IntWalk.i64_in _ (by omega); have D5 := (d.below (by repeat (first | exact Below.refl _ _ | refine bdr ?_ | refine ba ?_))).trans d5; have T5 := (T3.below (by repeat (first | exact Below.refl _ _ | refine bdr ?_ | refine ba ?_))).dw d5 (by omega); have F5 := (F3.below (by repeat (first | exact Below.refl _ _ | refine bdr ?_ | refine ba ?_))).dw d5 (by omega); obtain ⟨⟨t0, t1⟩, v0, v1⟩ := (id T5); obtain ⟨⟨g0, g1⟩, u0, u1⟩ := (id F5)))))
  all_goals (try go_wp2_with fail)
  all_goals (try simp only [Exit.inBlock, Exit.then])
  all_goals have hs5 := ints.dw (ints.below' hs3 (by repeat (first | exact Below.refl _ _ | refine bdr ?_ | refine ba ?_))) d5 hgs
  all_goals have hl5' := meths.dw (meths.below' hl3 (by repeat (first | exact Below.refl _ _ | refine bdr ?_ | refine ba ?_))) d5 hgl
  all_goals have hf5 := facts.dw (facts.below' hf3 (by repeat (first | exact Below.refl _ _ | refine bdr ?_ | refine ba ?_))) d5 hgf
  all_goals have hx5 := ints.dw (ints.below' hx3 (by repeat (first | exact Below.refl _ _ | refine bdr ?_ | refine ba ?_))) d5 hgx
  all_goals have HB := Lib.hid (below_two2 (g := w.heap.size) (bt (ba (Below.refl _ _)) D5.below0) (Nat.le_refl _) (.int .i64 x) (.slice px ip.length qx))
  all_goals refine bodyPost_ret (v := .tuple #[.slice p s.length q, .slice pl ml.length ql, .slice pf fa.length qf, .agg #[.int .i64 x, .slice px ip.length qx], .int .i64 (y - 1)]) ?_ rfl ?_
  all_goals (first
    | (rw [results_ttt_cell_t rfl]
       simp [asAddr, Result.andThen, Act.put, load_acc2 T5]
       done)
    | exact DrtE.mk _ s fs _ ml fl _ fa ff ⟨x, ip⟩ _ fx (y - 1) rfl (ints_two2 hs5 hn1 _ _) (meths_two2 hl5' hn2 _ _) (facts_two2 hf5 hn4 _ _) HFV.out hI (ints_two2 hx5 hn3 _ _) (by omega) HB.out)
end Go.Proofs.YtpdmdfkcaabnaaaGreatDoor
/- The draws of a response and of two lists of accesses; inside. Condition: the code is no longer than 2^20. -/
namespace Go.Proofs.YtpdmdfkcaabnaaaGreatDoor
open Go.RowKit
set_option linter.unusedVariables false
set_option linter.unusedSimpArgs false
theorem load_acc2d {w : World} {g : Nat} {a b : Value} (h : Two w g a b) (a' b' : Value) : (loadVar 28 ⟨g, 0, none⟩).run Tryz.prog ((w.setCell ⟨g, 0, none⟩ a').setCell ⟨g, 1, none⟩ b').drew = .ok (.agg #[a', b']) ((w.setCell ⟨g, 0, none⟩ a').setCell ⟨g, 1, none⟩ b').drew := load_acc ((h.set a' b').below (bdr (Below.refl _ _)))
/-- A response as it is drawn: whole, or with its first element cut off. -/
def RepR (w : World) (v : Value) (r : List FactD) : Prop := (∃ (p : Option Addr) (q : Nat) (f : List Nat), v = .slice p r.length q ∧ facts w (.slice p r.length q) r f) ∨ ∃ (g q c : Nat) (x : FactD) (f : List Nat), v = .slice (some ⟨g, 2, none⟩) r.length c ∧ facts w (.slice (some ⟨g, 0, none⟩) (r.length + 1) q) (x :: r) f
theorem RepR.whole {w : World} {v : Value} {r : List FactD} {f : List Nat} (h : facts w v r f) : RepR w v r := by
  obtain ⟨p, q, rfl⟩ := slR.form h
  exact .inl ⟨p, q, f, rfl, h⟩
theorem RepR.below {w w' : World} {v : Value} {r : List FactD} (h : RepR w v r) (hb : Below w.heap.size w w') : RepR w' v r := by
  rcases h with ⟨p, q, f, rfl, h⟩ | ⟨g, q, c, x, f, rfl, h⟩
  · exact .inl ⟨p, q, f, rfl, facts.below' h hb⟩
  · exact .inr ⟨g, q, c, x, f, rfl, facts.below' h hb⟩
theorem slR_cap {α : Type} {E : TypeId} {sz : Nat} {R : Rd α} {w : World} {p : Option Addr} {n q : Nat} {l : List α} {f : List Nat} (h : slR E sz R w (.slice p n q) l f) : n ≤ q := by
  obtain ⟨_, _, _, _, _, hr, _⟩ := h
  rcases hr.2 with ⟨_, hv, h0, _⟩ | ⟨g, cap, cur, hv, _, _, h1, _⟩
  · cases hv; omega
  · cases hv; exact h1
set_option maxRecDepth 100000 in
set_option maxHeartbeats 1600000 in
theorem inside_any (va vb : Value) (a b : List FactD) (f g : List Nat) (w : World) (ha : facts w va a f) (hb : facts w vb b g) (h : ∀ y ∈ a, hasFactB b y = true) :
    Calls Tryz.prog 13 #[va, vb] w fun e w' => e = .returned (.bool true) ∧ Below w.heap.size w w' := by
  obtain ⟨pa, ca, rfl⟩ := slR.form ha
  obtain ⟨pb, cb, rfl⟩ := slR.form hb
  have hla := slR.le_max ha
  have H := Lib.hid h
  clear h
  go_enter Tryz.func13, Tryz.ntmps13
  go_wp2
  go_loopw [5] (fun i wr => ∃ k : Nat, i = .int .i64 (k : Int) ∧ k ≤ a.length ∧ Below w.heap.size w wr) (fun i _ => a.length - (intOf i).toNat)
  case atStart => exact ⟨0, rfl, Nat.zero_le _, Below.refl _ _⟩
  case round =>
    obtain ⟨k, rfl, hk, hbel⟩ := hrel
    by_cases hlt : k < a.length
    · obtain ⟨g', c, fi, rfl, ⟨vv, rfl, ir, hv⟩, _, hc, _, _, _⟩ := slR.at (ha.below' hbel) k hlt
      obtain ⟨pv, cv, rfl⟩ := slR.form hv
      have hc0 : wr.cell? ⟨g', k * 2, none⟩ = some (.int .i64 a[k].rel) := hc 0 _ rfl
      have hc1 : wr.cell? ⟨g', k * 2 + 1, none⟩ = some (.slice pv a[k].vals.length cv) := hc 1 _ rfl
      have hkl : (k : Int) < (a.length : Int) := by omega
      have hk0 : (0 : Int) ≤ (k : Int) := Int.natCast_nonneg _
      have hq := H.out a[k] (List.getElem_mem hlt)
      have hb1 := hb.below' hbel
      clear hc
      go_wp2_with (go_at_call 61; refine (retBB (specHasFact_any _ b g a[k] _ fi _ hb1 hv) hq).mono ?_; rintro e w2 ⟨rfl, hb2⟩)
      go_roundw
      case rel => exact ⟨k + 1, by go_num, by omega, hbel.trans (hb2.mono hbel.size)⟩
      case measure => simp [intOf]; omega
    · have hkl : ¬ (k : Int) < (a.length : Int) := by omega
      go_wp2
      go_ret
      exact ⟨rfl, hbel⟩
/-- What DrawIsResponse ends in. -/
def DirE (w : World) (e : Ending) (w' : World) : Prop := ∃ (sv : Value) (s : List Int) (fs : List Nat) (vl : Value) (l : List MethD) (fl : List Nat) (vf : Value) (fa : List FactD) (ff : List Nat) (x : AccD) (vx : Value) (fx : List Nat) (vr : Value) (r : List FactD), e = .returned (.tuple #[sv, vl, vf, .agg #[.int .i64 x.meth, vx], vr]) ∧ ints w' sv s fs ∧ meths w' vl l fl ∧ facts w' vf fa ff ∧ (fa.length ≤ 9 ∧ Hid (∀ y ∈ fa, y.vals.length ≤ 4)) ∧ I64 x.meth ∧ ints w' vx x.vals fx ∧ RepR w' vr r ∧ Below w.heap.size w w'
theorem DirE.mk {w : World} {e : Ending} {w' : World} (sv : Value) (s : List Int) (fs : List Nat) (vl : Value) (l : List MethD) (fl : List Nat) (vf : Value) (fa : List FactD) (ff : List Nat) (x : AccD) (vx : Value) (fx : List Nat) (vr : Value) (r : List FactD) (he : e = .returned (.tuple #[sv, vl, vf, .agg #[.int .i64 x.meth, vx], vr])) (h1 : ints w' sv s fs) (h2 : meths w' vl l fl) (h3 : facts w' vf fa ff) (h4 : fa.length ≤ 9 ∧ Hid (∀ y ∈ fa, y.vals.length ≤ 4)) (h5 : I64 x.meth) (h6 : ints w' vx x.vals fx) (h7 : RepR w' vr r) (h8 : Below w.heap.size w w') : DirE w e w' := ⟨sv, s, fs, vl, l, fl, vf, fa, ff, x, vx, fx, vr, r, he, h1, h2, h3, h4, h5, h6, h7, h8⟩
/-- A response, with its blocks behind a bound: whole, or with its first element cut off. -/
def RepB (B : Nat) (w : World) (v : Value) (r : List FactD) : Prop := (∃ (p : Option Addr) (q : Nat) (f : List Nat), v = .slice p r.length q ∧ facts w (.slice p r.length q) r f ∧ ∀ j ∈ f, B ≤ j) ∨ ∃ (g q c : Nat) (x : FactD) (f : List Nat), v = .slice (some ⟨g, 2, none⟩) r.length c ∧ facts w (.slice (some ⟨g, 0, none⟩) (r.length + 1) q) (x :: r) f ∧ ∀ j ∈ f, B ≤ j
theorem RepB.rep {B : Nat} {w : World} {v : Value} {r : List FactD} (h : RepB B w v r) (a b : Value) (g0 : Nat) (hg : g0 < B) : RepR (two2 w g0 a b) v r := by
  rcases h with ⟨p, q, f, rfl, h, hB⟩ | ⟨g, q, c, x, f, rfl, h, hB⟩
  · exact .inl ⟨p, q, f, rfl, facts_two2 h (fun hm => by have := hB _ hm; omega) _ _⟩
  · exact .inr ⟨g, q, c, x, f, rfl, facts_two2 h (fun hm => by have := hB _ hm; omega) _ _⟩
set_option maxRecDepth 100000 in
set_option maxHeartbeats 6400000 in
theorem DrawIsResponse_any (b : Option Addr) (cap : Nat) (l : List Int) (w : World) (hl : bytesV w (.slice b l.length cap) l) (hn : l.length ≤ 1048576) :
    Calls Tryz.prog 20 #[.slice b l.length cap] w (DirE w) := by
  have T0 := Two.new w 28 (.int .i64 0) (.slice none 0 0)
  have hsz : (w.alloc (.cells #[.int .i64 0, .slice none 0 0] 28)).heap.size = w.heap.size + 1 := by simp only [World.alloc, Array.size_push]
  go_enter Tryz.func20, Tryz.ntmps20
  go_wp2_with fail
  refine (cNew_any b cap l _ (hl.below' (ba (Below.refl _ _))) hn).mono ?_
  rintro e w1 ⟨g, rfl, hc⟩
  have hglt := hc.lt
  have hgg := hc.hg
  go_wp2_with fail
  refine (l5Draw_any _ g w1 hc).mono ?_
  rintro e w2 ⟨sv, s, fs, vl, ml, fl, vf, fa, ff, rfl, hs, hml, hf, hJ, hs4, hl5, hin, hf9, hfv, d2⟩
  obtain ⟨p, q, rfl⟩ := slR.form hs
  obtain ⟨pl, ql, rfl⟩ := slR.form hml
  obtain ⟨pf, qf, rfl⟩ := slR.form hf
  have hgl : g ∉ fl := fun hm => by have := hJ g (.inr (.inl hm)); omega
  have hgs : g ∉ fs := fun hm => by have := hJ g (.inl hm); omega
  have hgf : g ∉ ff := fun hm => by have := hJ g (.inr (.inr hm)); omega
  go_wp2_with fail
  refine (l5AnyAccess_any _ g _ ml fl w2 d2.new hml hgl hl5 hin).mono ?_
  rintro e w3 ⟨⟨x, ip⟩, vx, fx, rfl, hI, G, hm, d3⟩
  dsimp only at hI G hm
  obtain ⟨px, qx, rfl⟩ := slR.form G.sl
  have d := (d2.trans d3).al (.cells #[.int .i64 x, .slice px ip.length qx] 28)
  have hs3 := ints.al (ints.dw hs d3 hgs) (.cells #[.int .i64 x, .slice px ip.length qx] 28)
  have hl3 := meths.below' (meths.dw hml d3 hgl) (ba (o := .cells #[.int .i64 x, .slice px ip.length qx] 28) (Below.refl _ _))
  have hf3 := facts.below' (facts.dw hf d3 hgf) (ba (o := .cells #[.int .i64 x, .slice px ip.length qx] 28) (Below.refl _ _))
  have hx3 := ints.al G.sl (.cells #[.int .i64 x, .slice px ip.length qx] 28)
  have hgx : g ∉ fx := fun hm => by have := G.fresh.2 _ hm; have := d2.size; omega
  have F3 := Two.new w3 28 (.int .i64 x) (.slice px ip.length qx)
  have hz1 := d2.size
  have hz2 := d3.size
  have hz3 : (w3.alloc (.cells #[.int .i64 x, .slice px ip.length qx] 28)).heap.size = w3.heap.size + 1 := by simp only [World.alloc, Array.size_push]
  have T3 := (T0.below hc.hb).dw d (by omega)
  have hn1 : w.heap.size ∉ fs := fun hm => by have := hJ _ (.inl hm); omega
  have hn2 : w.heap.size ∉ fl := fun hm => by have := hJ _ (.inr (.inl hm)); omega
  have hn4 : w.heap.size ∉ ff := fun hm => by have := hJ _ (.inr (.inr hm)); omega
  have hn3 : w.heap.size ∉ fx := fun hm => by have := G.fresh.2 _ hm; omega
  have HFV := Lib.hid (show fa.length ≤ 9 ∧ Hid (∀ y ∈ fa, y.vals.length ≤ 4) from ⟨hf9, hfv⟩)
  have Hln := Lib.hid (show ∀ y ∈ fa, y.vals.length ≤ 1048576 from fun y hy => by have := hfv.out y hy; omega)
  have hf10 : fa.length ≤ 1048576 := by omega
  clear T0 hin G hs hml hf d2 d3
  obtain ⟨⟨f0, f1⟩, y0, y1⟩ := (id F3)
  have hw34 : w3.heap.size < (w3.alloc (.cells #[.int .i64 x, .slice px ip.length qx] 28)).heap.size := by omega
  go_upto_region 4 with fail
  generalize w3.alloc (.cells #[.int .i64 x, .slice px ip.length qx] 28) = w4 at d hs3 hl3 hf3 hx3 F3 hz3 T3 f0 f1 y0 y1 hw34 ⊢
  go_cut [12] from 24 (fun s12 wr => ∃ (p : Option Addr) (q : Nat) (r : List FactD) (f : List Nat), s12 = .slice p r.length q ∧ facts wr (.slice p r.length q) r f ∧ Fresh w4.heap.size f ∧ DW (w.alloc (.cells #[.int .i64 0, .slice none 0 0] 28)) g w4 wr)
  case first =>
    have D0 := DW.refl d.new
    go_wp2_with fail
    go_region_law ((first
      | (go_simp; go_wp2_with (first
          | (go_at_call 82; refine (cBelow_any _ g 4 _ (D0.below (by repeat (first | exact Below.refl _ _ | refine bdr ?_ | refine ba ?_))).new (by omega) (by omega)).mono ?_; rintro e w5 ⟨y, rfl, ⟨hy0, hy1⟩, d5⟩; have D5 := (D0.below (by repeat (first | exact Below.refl _ _ | refine bdr ?_ | refine ba ?_))).trans d5; have F5 := F3.dw D5 (by omega); obtain ⟨⟨g0, g1⟩, u0, u1⟩ := (id F5))
          | (go_at_call 11; refine (specRespondTo_any _ s fs _ ml fl _ fa ff ⟨x, ip⟩ _ fx y _ (ints.below' (ints.dw hs3 D5 hgs) (by repeat (first | exact Below.refl _ _ | refine bdr ?_ | refine ba ?_))) (meths.below' (meths.dw hl3 D5 hgl) (by repeat (first | exact Below.refl _ _ | refine bdr ?_ | refine ba ?_))) (facts.below' (facts.dw hf3 D5 hgf) (by repeat (first | exact Below.refl _ _ | refine bdr ?_ | refine ba ?_))) (ints.below' (ints.dw hx3 D5 hgx) (by repeat (first | exact Below.refl _ _ | refine bdr ?_ | refine ba ?_))) hf10 Hln.out).mono ?_; rintro e w6 ⟨v6, f6, rfl, hr6, hfr6, hb6⟩; obtain ⟨p6, q6, rfl⟩ := slR.form hr6; have hfr7 := hfr6.mono (Below.size (B := w5.heap.size) (by repeat (first | exact Below.refl _ _ | refine bdr ?_ | refine ba ?_))); have D6 := (D5.below (by repeat (first | exact Below.refl _ _ | refine bdr ?_ | refine ba ?_))).below hb6)))))
    all_goals (try go_wp2_with fail)
    all_goals go_meet
    all_goals exact ⟨p6, q6, _, f6, rfl, hr6, hfr7.mono D5.size, D6⟩
  case rest =>
    obtain ⟨p5, q5, r, f, rfl, hr, hfr, D⟩ := hcut
    obtain ⟨w5, ew⟩ : ∃ x, x = wc := ⟨_, rfl⟩
    subst ew
    have hgr : g ∉ f := fun hm => by have := hfr.2 _ hm; have := d.new.lt; omega
    go_wp2_with fail
    refine (cBelow_any _ g 4 _ D.new (by omega) (by omega)).mono ?_
    rintro e w6 ⟨c, rfl, ⟨hc0, hc1⟩, d6⟩
    have D6 := D.trans d6
    have hr6 := facts.dw hr d6 hgr
    have F6 := F3.dw D6 (by omega)
    have hs6 := ints.dw hs3 D6 hgs
    have hl6 := meths.dw hl3 D6 hgl
    have hf6 := facts.dw hf3 D6 hgf
    have hx6 := ints.dw hx3 D6 hgx
    obtain ⟨⟨b0, b1⟩, b2, b3⟩ := (id F6)
    clear D d6 hr
    go_upto_block 0 with fail
    go_cut [12] from 33 (fun s12 wr => ∃ (r : List FactD) (a : Option Addr) (n c : Nat), s12 = .slice a n c ∧ RepB w4.heap.size wr (.slice a n c) r ∧ DW (w.alloc (.cells #[.int .i64 0, .slice none 0 0] 28)) g w4 wr)
    case first =>
      by_cases h0 : c = 0
      · subst h0
        cases r with
        | nil =>
          go_wp2_with fail
          go_meet
          exact ⟨[], _, _, _, rfl, .inl ⟨_, _, f, rfl, hr6, hfr.2⟩, D6⟩
        | cons x0 r1 =>
          obtain ⟨gr, _, _, rfl, _⟩ := slR.at hr6 0 (by simp)
          have hq := slR_cap hr6
          have hr7 := hr6
          simp only [List.length_cons] at hr7 hq
          have hpos : (0 : Int) < ((r1.length + 1 : Nat) : Int) := by omega
          by_cases hq1 : q5 = 1
          · subst hq1
            have he : r1 = [] := List.length_eq_zero_iff.1 (by omega)
            subst he
            go_wp2_with fail
            go_meet
            exact ⟨[], _, _, _, rfl, .inl ⟨_, 0, [], rfl, ⟨[], [], none, .nil, by simp, ⟨by simp, .inl ⟨_, rfl, rfl, rfl⟩⟩, by simp⟩, by simp⟩, D6⟩
          · simp only [List.length_cons]
            go_wp2_with fail
            go_meet
            exact ⟨r1, _, _, _, rfl, .inr ⟨gr, q5, q5 - 1, x0, f, rfl, hr7, hfr.2⟩, D6⟩
      by_cases h1 : c = 1
      · subst h1
        go_wp2_with fail
        refine (specMatchesOf_any _ s fs _ ml fl _ fa ff ⟨x, ip⟩ _ fx _ hs6 hl6 hf6 hx6 hf10 Hln.out).mono ?_
        rintro e w7 ⟨v7, f7, rfl, hr7, hfr7, hb7⟩
        obtain ⟨p7, q7, rfl⟩ := slR.form hr7
        go_wp2_with fail
        go_meet
        exact ⟨_, _, _, _, rfl, .inl ⟨p7, q7, f7, rfl, hr7, (hfr7.mono D6.size).2⟩, D6.below hb7⟩
      go_wp2_with fail
      go_meet
      exact ⟨r, _, _, _, rfl, .inl ⟨p5, q5, f, rfl, hr6, hfr.2⟩, D6⟩
    case rest =>
      obtain ⟨r9, a9, n9, c9, rfl, hrep, D9⟩ := hcut
      obtain ⟨w9, ew⟩ : ∃ x, x = wc := ⟨_, rfl⟩
      subst ew
      have hs9 := ints.dw hs3 D9 hgs
      have hl9 := meths.dw hl3 D9 hgl
      have hf9' := facts.dw hf3 D9 hgf
      have hx9 := ints.dw hx3 D9 hgx
      have F9 := F3.dw D9 (by omega)
      have T9 := T3.dw D9 (by omega)
      have hlt4 := T3.lt
      have HB := Lib.hid (below_two2 (g := w.heap.size) (bt (ba (Below.refl _ _)) (d.trans D9).below0) (Nat.le_refl _) (.int .i64 x) (.slice px ip.length qx))
      have HR := Lib.hid (hrep.rep (.int .i64 x) (.slice px ip.length qx) w.heap.size hlt4)
      obtain ⟨⟨t0, t1⟩, v0, v1⟩ := (id T9)
      obtain ⟨⟨g0, g1⟩, u0, u1⟩ := (id F9)
      clear F6 b0 b1 b2 b3 hr6 hs6 hl6 hf6 hx6 D6 hrep
      go_wp2_with fail
      go_region
      all_goals (try go_wp2_with fail)
      all_goals (try simp only [Exit.inBlock, Exit.then])
      all_goals refine bodyPost_ret (v := .tuple #[.slice p s.length q, .slice pl ml.length ql, .slice pf fa.length qf, .agg #[.int .i64 x, .slice px ip.length qx], .slice a9 n9 c9]) ?_ rfl ?_
      all_goals (first
        | (rw [results_ttt_cell_t rfl]
           first
             | (simp [asAddr, Result.andThen, Act.put, load_acc2 T9]; done)
             | (simp [asAddr, Result.andThen, Act.put, load_acc2d T9]; done))
        | exact DirE.mk _ s fs _ ml fl _ fa ff ⟨x, ip⟩ _ fx _ r9 rfl (ints_two2 hs9 hn1 _ _) (meths_two2 hl9 hn2 _ _) (facts_two2 hf9' hn4 _ _) HFV.out hI (ints_two2 hx9 hn3 _ _) HR.out HB.out
        | exact DirE.mk _ s fs _ ml fl _ fa ff ⟨x, ip⟩ _ fx _ r9 rfl (ints.below' (ints_two2 hs9 hn1 _ _) (bdr (Below.refl _ _))) (meths.below' (meths_two2 hl9 hn2 _ _) (bdr (Below.refl _ _))) (facts.below' (facts_two2 hf9' hn4 _ _) (bdr (Below.refl _ _))) HFV.out hI (ints.below' (ints_two2 hx9 hn3 _ _) (bdr (Below.refl _ _))) (HR.out.below (bdr (Below.refl _ _))) (bdr HB.out))
theorem accs_one {w : World} {rows : List (List Value)} {l : List AccD} {fs : List (List Nat)} (h : All accR w rows l fs) : ∀ u ∈ rows.flatten, u.oneCell' = true := by
  induction h with
  | nil => simp
  | cons h _ ih =>
    obtain ⟨v, rfl, _, hv⟩ := h
    obtain ⟨p, q, rfl⟩ := slR.form hv
    intro u hu
    rw [List.flatten_cons, List.mem_append] at hu
    rcases hu with h1 | h1
    · simp at h1
      rcases h1 with rfl | rfl <;> rfl
    · exact ih u h1
/-- A copy of a list of accesses, made by append onto a new empty literal: the rows are new, what they hold is shared. -/
theorem wpList_copy_accs {w : World} {B : Nat} {ops : Array Oper} {rest : List Oper} {o : Oper} {a : Act} {Q : Exit → Act → World → Prop}
    (hgd : o.guard = none) (s x : Operand) (ho : o.op = .call { callee := .builtin .append, args := #[s, x], argTypes := #[49, 49] })
    (hs : a.eval s = .slice (some ⟨w.heap.size, 0, none⟩) 0 0) (y : Value) (l : List AccD) (f : List Nat) (hx : a.eval x = y) (hy : grR 28 2 accR B w y l f) (hB : B ≤ w.heap.size) (hn : l.length ≤ 1000)
    (h : ∀ v' w' f', grR 28 2 accR B w' v' l f' → Below w.heap.size w w' → (∀ j, v'.ownBlock = some j → w.heap.size ≤ j) → wpList Tryz.prog ops Q rest (a.put o.dst v') w') :
    wpList Tryz.prog ops Q (o :: rest) a (w.alloc (.cells #[] 28)) := by
  have hlt := hy.lt good_acc
  obtain ⟨rows, fs, hall, hlen, hown, rfl, hfr⟩ := hy
  have hb0 : Below w.heap.size w (w.alloc (.cells #[] 28)) := ba (Below.refl _ _)
  have hrow := (own_row hown).below' hb0
  have hlit : (w.alloc (.cells #[] 28)).ownsRow w.heap.size 28 2 (.slice (some ⟨w.heap.size, 0, none⟩) 0 0) 0 [] := World.ownsRow_lit _ _ _ (Nat.le_refl _) (by simp) (by simp)
  refine wpList_append_row slAccessS hgd s x ho w.heap.size _ 0 [] hs hlit y l.length rows.flatten _ hx hrow (accs_one hall) (by omega) (by unfold maxLen; omega) (by simp) ?_
  intro v' w' h2 h3 h5
  rw [Nat.zero_add, List.nil_append] at h2
  have hb : Below w.heap.size w w' := below_of_grown (grownBy_trans (World.grownBy_alloc _ _ _) h3) (Nat.le_refl _) fun k hk => by simp [Value.ownBlock] at hk; omega
  have hin : ∀ j ∈ fs.flatten, j < w.heap.size := fun j hj => hlt j (List.mem_append.2 (.inr hj))
  have hlt2 := own_lt h2
  have hall2 : All accR w' rows l fs := hall.frame good_acc (fun j hj => (SX.of_below hb).2 j (hin j hj) (by simp))
  refine h v' w' (v'.ownBlock.toList ++ fs.flatten) ⟨rows, fs, hall2, hlen, ?_, rfl, ?_, ?_⟩ hb (fun j hj => (hlt2 j hj).1)
  · refine ⟨h2.1, h2.2.imp id (fun ⟨g, cap, cur, hv, hb', hg, r⟩ => ⟨g, cap, cur, hv, Nat.le_trans hB hb', hg, r⟩)⟩
  · have hnd := (List.nodup_append.1 hfr.1).2.1
    cases hv : v'.ownBlock with
    | none => simpa using hnd
    | some q =>
      simp only [Option.toList, List.singleton_append, List.nodup_cons]
      exact ⟨fun hm => by have h1 := hin q hm; have h2 := (hlt2 q hv).1; omega, hnd⟩
  · intro j hj
    rcases List.mem_append.1 hj with h1 | h1
    · cases hv : v'.ownBlock with
      | none => rw [hv] at h1; simp at h1
      | some q => rw [hv] at h1; simp at h1; subst h1; have := (hlt2 j hv).1; omega
    · exact hfr.2 j (List.mem_append.2 (.inr h1))
/-- Two lists of accesses. -/
def DsaE (w : World) (e : Ending) (w' : World) : Prop := ∃ (va : Value) (a : List AccD) (fa : List Nat) (vb : Value) (b : List AccD) (fb : List Nat), e = .returned (.tuple #[va, vb]) ∧ accs w' va a fa ∧ accs w' vb b fb ∧ Below w.heap.size w w'
theorem DsaE.mk {w : World} {e : Ending} {w' : World} (va : Value) (a : List AccD) (fa : List Nat) (vb : Value) (b : List AccD) (fb : List Nat) (he : e = .returned (.tuple #[va, vb])) (h1 : accs w' va a fa) (h2 : accs w' vb b fb) (h3 : Below w.heap.size w w') : DsaE w e w' := ⟨va, a, fa, vb, b, fb, he, h1, h2, h3⟩
theorem accs.dw {w0 w w1 : World} {g : Nat} {v : Value} {l : List AccD} {f : List Nat} (h : accs w v l f) (d : DW w0 g w w1) (hg : g ∉ f) : accs w1 v l f := slR.dw good_acc h d hg
set_option maxRecDepth 100000 in
set_option maxHeartbeats 6400000 in
theorem DrawSameAccesses_any (b : Option Addr) (cap : Nat) (l : List Int) (w : World) (hl : bytesV w (.slice b l.length cap) l) (hn : l.length ≤ 1048576) :
    Calls Tryz.prog 23 #[.slice b l.length cap] w (DsaE w) := by
  go_enter Tryz.func23, Tryz.ntmps23
  go_wp2_with fail
  refine (cNew_any b cap l _ hl hn).mono ?_
  rintro e w1 ⟨g, rfl, hc⟩
  have hglt := hc.lt
  go_wp2_with fail
  refine (l5Draw_any _ g w1 hc).mono ?_
  rintro e w2 ⟨sv, s, fs, vl, ml, fl, vf, fa, ff, rfl, hs, hml, hf, hJ, hs4, hl5, hin, hf9, hfv, d2⟩
  obtain ⟨p, q, rfl⟩ := slR.form hs
  obtain ⟨pl, ql, rfl⟩ := slR.form hml
  obtain ⟨pf, qf, rfl⟩ := slR.form hf
  have hgl : g ∉ fl := fun hm => by have := hJ g (.inr (.inl hm)); omega
  have hg2 : g < w2.heap.size := d2.new.lt
  have D3 := (DW.refl d2.new).al (.cells #[] 28)
  have hg0 := grR.lit (w := w2) (B := w2.heap.size) (E := 28) (sz := 2) accR (Nat.le_refl _) (Nat.le_refl _)
  have hb2 := d2.below0
  clear hs hf hJ hfv
  go_wp2_with fail
  refine (cBelow_any _ g 4 _ D3.new (by omega) (by omega)).mono ?_
  rintro e w3 ⟨n0, rfl, ⟨hn0, hn1⟩, d3⟩
  have D4 := D3.trans d3
  have hg4 := hg0.dw good_acc d3 hg2
  obtain ⟨n1, rfl⟩ := Int.eq_ofNat_of_zero_le hn0
  clear hg0 D3 d3
  go_wp2
  go_loopw [8, 9] (fun v x wr => ∃ (k : Nat) (a : List AccD) (f : List Nat), x = .int .i64 (k : Int) ∧ a.length + k ≤ 3 ∧ grR 28 2 accR w2.heap.size wr v a f ∧ DW w g w2 wr) (fun _ x _ => (intOf x).toNat)
  case atStart => exact ⟨n1, [], _, rfl, by simp; omega, hg4, D4⟩
  case round =>
    obtain ⟨k, a, f, rfl, hak, hgr, hdr⟩ := hrel
    obtain ⟨pa, qa, rfl⟩ := slR.form hgr.sl
    have hl1 := meths.dw hml hdr hgl
    by_cases hk : 0 < k
    · have hki : (0 : Int) < (k : Int) := by omega
      have hzr := hdr.size
      go_wp2_with fail
      refine (l5Access_any _ g _ ml fl _ hdr.new hl1 hgl hl5 hin).mono ?_
      rintro e w5 ⟨⟨x, ip⟩, vx, fx, rfl, hI, G, hm, d5⟩
      dsimp only at hI G hm
      obtain ⟨px, qx, rfl⟩ := slR.form G.sl
      have hgr5 := hgr.dw good_acc d5 hg2
      have D5 := hdr.trans d5
      have hlt := hgr.lt good_acc
      have hdis : ∀ j ∈ fx, j ∉ f := fun j hj hm => by have h1 := G.fresh.2 j hj; have h2 := hlt j hm; omega
      have hfx : Fresh w2.heap.size fx := G.fresh.mono hzr
      have hx5 := G.sl
      have hz5 := D5.size
      clear hgr hdr d5 G hl1
      go_wp2_with (at_builtin; refine wpList_draw slAccessS good_acc rfl _ _ rfl hgr5 D5 (Nat.le_refl _) hz5 rfl #[.int .i64 x, .slice px ip.length qx] ⟨x, ip⟩ fx ⟨_, rfl, hI, hx5⟩ rfl hfx hdis rfl (by simp [Value.oneCell']) (by omega) (by unfold maxLen; omega) ?_; intro g6 cap6 w6 f6 G6 D6 gb6 mm6)
      go_roundw
      case rel => exact ⟨k - 1, a ++ [⟨x, ip⟩], f6, by go_num, by simp; omega, by simpa using G6, D6⟩
      case measure => simp [intOf]; omega
    · have hki : ¬ (0 : Int) < (k : Int) := by omega
      obtain ⟨w7, e7⟩ : ∃ x, x = wr := ⟨_, rfl⟩
      subst e7
      go_wp2_with fail
      refine (cOnce_any _ g 2 _ hdr.new (by omega) (by omega)).mono ?_
      rintro e w8 ⟨bb, rfl, d8⟩
      have D8 := hdr.trans d8
      have G8 := hgr.dw good_acc d8 hg2
      have hz8 := D8.size
      have hl8 := meths.dw hl1 d8 hgl
      have hga : g ∉ f := fun hm => by have := hgr.fresh.2 _ hm; omega
      have a8 := G8.sl
      have hlt8 := G8.lt good_acc
      clear hgr hdr d8 hl1
      cases bb with
      | true =>
        go_wp2_with (at_builtin; refine wpList_copy_accs rfl _ _ rfl rfl _ a f rfl G8 hz8 (by omega) ?_; intro v9 w9 f9 G9 hb9 _; have a9 := slR.below' good_acc a8 hb9)
        obtain ⟨p9, q9, rfl⟩ := slR.form G9.sl
        go_ret2
        exact DsaE.mk _ a f _ a f9 rfl a9 G9.sl (D8.below hb9).below0
      | false =>
        go_wp2_with (first
          | (at_builtin; refine wpList_copy_accs rfl _ _ rfl rfl _ a f rfl G8 hz8 (by omega) ?_; intro v9 w9 f9 G9 hb9 hown9; obtain ⟨p9, q9, rfl⟩ := slR.form G9.sl; have a9 := slR.below' good_acc a8 hb9; have D9 := D8.below hb9; have hl9 := meths.below' hl8 hb9)
          | (go_at_call 100; refine (l5Access_any _ g _ ml fl _ D9.new hl9 hgl hl5 hin).mono ?_; rintro e w10 ⟨⟨x, ip⟩, vx, fx, rfl, hI, G, hm, d10⟩; dsimp only at hI G hm; obtain ⟨px, qx, rfl⟩ := slR.form G.sl; have G10 := G9.dw good_acc d10 hg2; have D10 := D9.trans d10; have hlt := G9.lt good_acc; have hdis : ∀ j ∈ fx, j ∉ f9 := fun j hj hm => (by have h1 := G.fresh.2 j hj; have h2 := hlt j hm; omega); have hfx : Fresh w2.heap.size fx := G.fresh.mono D9.size; have hx10 := G.sl; have hz10 := D10.size; have a10 := accs.dw a9 d10 hga)
          | (at_builtin; refine wpList_draw slAccessS good_acc rfl _ _ rfl G10 D10 (Nat.le_refl _) hz10 rfl #[.int .i64 x, .slice px ip.length qx] ⟨x, ip⟩ fx ⟨_, rfl, hI, hx10⟩ rfl hfx hdis rfl (by simp [Value.oneCell']) (by omega) (by unfold maxLen; omega) ?_; intro g11 cap11 w11 f11 G11 D11 gb11 mm11))
        have a11 : accs w11 (.slice pa a.length qa) a f := slR.frame good_acc a10 (fun j hj => gb11.block j (slR.lt good_acc a10 j hj) (fun e => by have h1 := hown9 j e.symm; have h2 := hlt8 j hj; omega))
        have b11 : accs w11 (.slice (some ⟨g11, 0, none⟩) (a.length + 1) cap11) (a ++ [⟨x, ip⟩]) f11 := G11.sl
        go_ret2
        exact DsaE.mk (.slice pa a.length qa) a f (.slice (some ⟨g11, 0, none⟩) (a.length + 1) cap11) (a ++ [⟨x, ip⟩]) f11 rfl a11 b11 D11.below0
end Go.Proofs.YtpdmdfkcaabnaaaGreatDoor
