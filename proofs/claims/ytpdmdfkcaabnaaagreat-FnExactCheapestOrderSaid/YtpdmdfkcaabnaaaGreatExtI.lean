/- finder.extend of the program. Condition: atoms of up to three terms, at most four; at most eight methods of costs within 0 .. 99. -/
import Derived.Test.YtpdmdfkcaabnaaaGreatExtL
import Derived.Test.YtpdmdfkcaabnaaaGreatConcI
import Derived.Test.YtpdmdfkcaabnaaaGreatCanCall
import Derived.Deep.Cut
import Derived.Deep.CutRange
import Derived.Deep.CutBlock
import Derived.Deep.RegionLaw
import Derived.BigQuiet
namespace Go.Proofs.YtpdmdfkcaabnaaaGreat
open Go.RowKit
set_option linter.unusedVariables false
set_option linter.unusedSimpArgs false
theorem FinE.put {l : List MethD} {ats : List AtomD} {B gx gd : Nat} {vl va : Value} {st best : List StepD} {fst fb f5 : List Nat} {w : World} {g5 c5 : Nat} (h : FinE l ats B gx gd vl va st best fst fb w) (hg : steps w (.slice (some ⟨g5, 0, none⟩) st.length c5) st f5) (hst0 : 0 < st.length) (hx : gx ∉ f5) (hdd : gd ∉ f5) (hdis : ∀ j ∈ fst, j ∉ f5) (hfr5 : Fresh B f5) (A : Int) (hA : sumC l st = A) :
    FinE l ats B gx gd vl va st st fst f5 ((w.setCell ⟨gx, 3, none⟩ (.slice (some ⟨g5, 0, none⟩) st.length c5)).setCell ⟨gx, 4, none⟩ (.int .i64 A)) := by
  subst hA
  obtain ⟨ps, pb, cs, cb, ds, F, G, S, hn, R, hd, h1, h2, h3, h4, h5, h6, h7, h8, h9⟩ := h
  have s : SX [gx] w ((w.setCell ⟨gx, 3, none⟩ (.slice (some ⟨g5, 0, none⟩) st.length c5)).setCell ⟨gx, 4, none⟩ (.int .i64 (sumC l st))) := (SX.set (w := w) ⟨gx, 3, none⟩ _).setIn 4 _
  refine ⟨ps, some ⟨g5, 0, none⟩, cs, c5, ds, (F.set3 _).set4 _, G.frame good_step (fun j hj => s.2 j (G.lt good_step j hj) (by simp; rintro rfl; exact h1 hj)), hg.frame (fun j hj => s.2 j (hg.lt j hj) (by simp; rintro rfl; exact hx hj)), ?_, R.frame (fun g hg => ?_), hd, h1, hx, h3, hdd, hdis, h6, h7, h8, hfr5⟩
  · rw [decide_eq_false (by omega)]; rfl
  · cases hg
    exact s.2 gd (R.lt gd rfl) (by simp; exact fun e => h6 e.symm)
theorem ExtE.behind {l : List MethD} {ats : List AtomD} {B gx gd : Nat} {vl va : Value} {st best : List StepD} {fst : List Nat} {w w1 w' : World} (h : ExtE l ats B gx gd vl va st best fst w1 w') (hb : Below w.heap.size w w1) (hB : B ≤ w.heap.size) : ExtE l ats B gx gd vl va st best fst w w' := by
  obtain ⟨f, fb, h1, h2, h3, h4⟩ := h
  have hs := hb.size
  exact ⟨f, fb, h1, ((SX.of_below hb).trans h2).more (by simp), fun j hj => (h3 j hj).imp id (fun h9 => by omega), (hb.mono hB).trans h4⟩
theorem fresh_up {w7 W w8 : World} {f : List Nat} (hb8 : Below W.heap.size W w8) (h : Below w7.heap.size w7 W) (hf : Fresh W.heap.size f) : Fresh w7.heap.size f := hf.mono h.size
theorem SX.own {w w' : World} {o : Option Nat} (hg : w.grownBy w' o) : SX o.toList w w' := ⟨hg.size, fun j hj hn => hg.block j hj (by intro e; subst e; simp at hn)⟩
theorem FinE.fresh {l : List MethD} {ats : List AtomD} {B gx gd : Nat} {vl va : Value} {st best : List StepD} {fst fb : List Nat} {w : World} (h : FinE l ats B gx gd vl va st best fst fb w) : (∀ j ∈ fst, B ≤ j) ∧ (∀ j ∈ fst, j < w.heap.size) ∧ gx < w.heap.size ∧ gd < w.heap.size ∧ B ≤ gx ∧ B ≤ gd := by
  obtain ⟨ps, pb, cs, cb, ds, F, G, S, hn, R, hd, h1, h2, h3, h4, h5, h6, h7, h8, h9⟩ := h
  exact ⟨G.fresh.2, G.lt good_step, F.lt, R.lt gd rfl, h7, h8⟩
/-- A step is pushed. -/
theorem FinE.push {l : List MethD} {ats : List AtomD} {B gx gd : Nat} {vl va : Value} {st best : List StepD} {fst fb Y f6 : List Nat} {w w6 : World} {k m : Nat} {p : Option Addr} {c : Nat} (h : FinE l ats B gx gd vl va st best fst fb w) (hk : k < ats.length)
    (s : SX Y (w.setCell ⟨gd, k, none⟩ (.bool true)) w6) (hY : ∀ j ∈ Y, j ∈ fst) (hg : grR 65 2 stepR B w6 (.slice p (st.length + 1) c) (st ++ [⟨(k : Int), (m : Int)⟩]) f6) (hf : ∀ j ∈ f6, j ∈ fst ∨ w.heap.size ≤ j) (hbl : Below B (w.setCell ⟨gd, k, none⟩ (.bool true)) w6) :
    FinE l ats B gx gd vl va (st ++ [⟨(k : Int), (m : Int)⟩]) best f6 fb (w6.setCell ⟨gx, 2, none⟩ (.slice p (st.length + 1) c)) ∧ SX (gx :: gd :: fst) w (w6.setCell ⟨gx, 2, none⟩ (.slice p (st.length + 1) c)) ∧ Below B w (w6.setCell ⟨gx, 2, none⟩ (.slice p (st.length + 1) c)) := by
  obtain ⟨ps, pb, cs, cb, ds, F, G, S, hn, R, hd, h1, h2, h3, h4, h5, h6, h7, h8, h9⟩ := h
  have s1 : SX [gd] w (w.setCell ⟨gd, k, none⟩ (.bool true)) := SX.set ⟨gd, k, none⟩ _
  have s3 : SX [gx] w6 (w6.setCell ⟨gx, 2, none⟩ (.slice p (st.length + 1) c)) := SX.set ⟨gx, 2, none⟩ _
  have sA : SX (gd :: fst) w w6 := ((s1.trans s).more (by intro j hj; simp at hj; rcases hj with rfl | hj; simp; simp [hY j hj]))
  have sZ : SX (gx :: gd :: fst) w (w6.setCell ⟨gx, 2, none⟩ (.slice p (st.length + 1) c)) := (sA.trans s3).more (by intro j hj; simp at hj ⊢; rcases hj with h | h | h <;> simp [h])
  have hgx6 : gx ∉ f6 := fun hm => (hf _ hm).elim h1 (fun h9 => by have := F.lt; omega)
  have hgd6 : gd ∉ f6 := fun hm => (hf _ hm).elim h3 (fun h9 => by have := R.lt gd rfl; omega)
  have F6 := F.sx sA (by simp; exact ⟨h6, h1⟩)
  have R1 : Row (w.setCell ⟨gd, k, none⟩ (.bool true)) 4 1 (.slice (some ⟨gd, 0, none⟩) ats.length ats.length) ats.length (bcells (ds.set k true)) (some gd) := by rw [← bcells_set']; exact R.set k (.bool true)
  have R7 := (R1.frame (w' := w6) (fun g hg => by cases hg; exact s.2 gd (R1.lt gd rfl) (fun hm => h3 (hY _ hm)))).frame (w' := w6.setCell ⟨gx, 2, none⟩ (.slice p (st.length + 1) c)) (fun g hg => by cases hg; exact s3.2 gd (Nat.lt_of_lt_of_le (R.lt gd rfl) sA.1) (by simp; exact fun e => h6 e.symm))
  have hl2 : (st ++ [(⟨(k : Int), (m : Int)⟩ : StepD)]).length = st.length + 1 := by simp
  refine ⟨⟨p, pb, c, cb, ds.set k true, by rw [hl2]; exact F6.set2 _, by rw [hl2]; exact hg.frame good_step (fun j hj => s3.2 j (hg.lt good_step j hj) (by simp; rintro rfl; exact hgx6 hj)), S.frame (fun j hj => sZ.2 j (S.lt j hj) (by simp; exact ⟨fun e => h2 (e ▸ hj), fun e => h4 (e ▸ hj), fun hm => h5 j hm hj⟩)), hn, R7, used_set hk hd m, hgx6, h2, hgd6, h4, fun j hj hm => (hf j hj).elim (fun h9 => h5 j h9 hm) (fun h9 => by have := S.lt j hm; omega), h6, h7, h8, h9⟩, sZ, (((Below.refl B w).setCell (p := ⟨gd, k, none⟩) h8 _).trans hbl).setCell (p := ⟨gx, 2, none⟩) h7 _⟩
/-- The last step is taken off. -/
theorem FinE.pop {l : List MethD} {ats : List AtomD} {B gx gd : Nat} {vl va : Value} {st best : List StepD} {fst fb : List Nat} {w : World} {k m : Nat} (h : FinE l ats B gx gd vl va (st ++ [⟨(k : Int), (m : Int)⟩]) best fst fb w) (hk : k < ats.length) (hu : memB (used st) (k : Int) = false) :
    ∃ (p : Option Addr) (c : Nat), w.cell? ⟨gx, 2, none⟩ = some (.slice p (st.length + 1) c) ∧ w.frozen? ⟨gx, 2, none⟩ = false ∧ (∃ b, w.cell? ⟨gd, k, none⟩ = some (.bool b)) ∧ w.frozen? ⟨gd, k, none⟩ = false ∧ st.length + 1 ≤ c ∧
      FinE l ats B gx gd vl va st best fst fb ((w.setCell ⟨gx, 2, none⟩ (.slice p st.length c)).setCell ⟨gd, k, none⟩ (.bool false)) ∧ SX (gx :: gd :: fst) w ((w.setCell ⟨gx, 2, none⟩ (.slice p st.length c)).setCell ⟨gd, k, none⟩ (.bool false)) ∧ Below B w ((w.setCell ⟨gx, 2, none⟩ (.slice p st.length c)).setCell ⟨gd, k, none⟩ (.bool false)) := by
  obtain ⟨ps, pb, cs, cb, ds, F, G, S, hn, R, hd, h1, h2, h3, h4, h5, h6, h7, h8, h9⟩ := h
  have hl2 : (st ++ [(⟨(k : Int), (m : Int)⟩ : StepD)]).length = st.length + 1 := by simp
  rw [hl2] at F G
  have hdk := hd k hk
  obtain ⟨_, hg, _, hRc, hRz⟩ := R.at (by omega)
  cases hg
  have s2 : SX [gx] w (w.setCell ⟨gx, 2, none⟩ (.slice ps st.length cs)) := SX.set ⟨gx, 2, none⟩ _
  have s3 : SX [gd] (w.setCell ⟨gx, 2, none⟩ (.slice ps st.length cs)) ((w.setCell ⟨gx, 2, none⟩ (.slice ps st.length cs)).setCell ⟨gd, k, none⟩ (.bool false)) := SX.set ⟨gd, k, none⟩ _
  have sZ : SX [gx, gd] w ((w.setCell ⟨gx, 2, none⟩ (.slice ps st.length cs)).setCell ⟨gd, k, none⟩ (.bool false)) := s2.trans s3
  have R2 := R.frame (w' := w.setCell ⟨gx, 2, none⟩ (.slice ps st.length cs)) (fun g hg => by cases hg; exact s2.2 gd (R.lt gd rfl) (by simp; exact fun e => h6 e.symm))
  have R3 := R2.set k (.bool false)
  rw [bcells_set'] at R3
  have hcs : st.length + 1 ≤ cs := by
    obtain ⟨_, _, _, _, hown, _, _⟩ := G
    rw [hl2] at hown
    rcases hown.2 with ⟨_, h0⟩ | ⟨g, cap, cur, hv, hb, hg, r1, r2, r3, r4⟩
    · omega
    · cases hv; exact r1
  refine ⟨ps, cs, F.1.2.2.1, F.2.2.2.1, ⟨_, hRc k _ (bcells_get hdk)⟩, hRz k, hcs, ⟨ps, pb, cs, cb, ds.set k false, (F.set2 _).sx s3 (by simpa using h6), G.init.frame good_step (fun j hj => sZ.2 j (G.lt good_step j hj) (by simp; exact ⟨fun e => h1 (e ▸ hj), fun e => h3 (e ▸ hj)⟩)), S.frame (fun j hj => sZ.2 j (S.lt j hj) (by simp; exact ⟨fun e => h2 (e ▸ hj), fun e => h4 (e ▸ hj)⟩)), hn, R3, used_unset hk hu hd, h1, h2, h3, h4, h5, h6, h7, h8, h9⟩, sZ.more (by simp), ((Below.refl B w).setCell (p := ⟨gx, 2, none⟩) h7 _).setCell (p := ⟨gd, k, none⟩) h8 _⟩
/-- What a search of the program ends in, with its ending. -/
def ExtR (l : List MethD) (ats : List AtomD) (B gx gd : Nat) (vl va : Value) (st best : List StepD) (fst : List Nat) (w : World) (e : Ending) (w' : World) : Prop := e = .returned (.tuple #[]) ∧ ExtE l ats B gx gd vl va st best fst w w'
set_option maxRecDepth 100000 in
set_option maxHeartbeats 6400000 in
theorem extend_any (l : List MethD) (ats : List AtomD) (B gx gd : Nat) (hn1 : 1 ≤ ats.length) (hn4 : ats.length ≤ 4) (hl5 : l.length ≤ 8) (hterms : Hid (∀ a ∈ ats, a.terms.length ≤ 3)) (hcost : Hid (∀ m ∈ l, 0 ≤ m.cost ∧ m.cost ≤ 99)) :
    ∀ (n : Nat) (st best : List StepD) (vl va vb : Value) (fl fa fbo fst fb : List Nat) (w : World), st.length + n = ats.length → meths w vl l fl → atoms w va ats fa → ints w vb (bnd ats st) fbo → FinE l ats B gx gd vl va st best fst fb w → (∀ j ∈ fl, j < B) → (∀ j ∈ fa, j < B) → gx ∉ fbo → gd ∉ fbo → (∀ j ∈ fst, j ∉ fbo) →
    Calls Tryz.prog 29 #[.pointer (some ⟨gx, 0, none⟩), .slice (some ⟨gd, 0, none⟩) ats.length ats.length, vb, .int .i64 (sumC l st)] w (ExtR l ats B gx gd vl va st (srch l ats n st best) fst w) := by
  intro n
  induction n with
  | zero =>
    intro st best vl va vb fl fa fbo fst fb w hn hl ha hb HF hfl hfa hgx hgd hdis
    obtain ⟨pl, cl, rfl⟩ := slR.form hl
    obtain ⟨pa, ca, rfl⟩ := slR.form ha
    obtain ⟨pb0, cb0, rfl⟩ := slR.form hb
    have hstl : st.length ≤ 4 := by omega
    have hBw : B ≤ w.heap.size := Nat.le_of_lt (Nat.lt_of_le_of_lt HF.fresh.2.2.2.2.1 HF.fresh.2.2.1)
    obtain ⟨ps, pb, cs, cb, ds, F, G, S, hnil, R, hd, h1, h2, h3, h4, h5, h6, h7, h8, h9⟩ := (id HF)
    obtain ⟨⟨c0, c1, c2, c3, c4⟩, z0, z1, z2, z3, z4⟩ := (id F)
    have heq := fun (w : World) => (Lib.run_eql_slice_nil (P := Tryz.prog) w 29 65 pb best.length cb 0 0 Tryz.underlying29).trans (by rw [hnil])
    have hst0 : 0 < st.length := by omega
    have he : ((st.length : Int) == (ats.length : Int)) = true := by simp; omega
    have hstm : st.length ≤ 1048576 := by omega
    have hcl : ∀ w', Below w.heap.size w w' → steps w' (.slice ps st.length cs) st fst := fun w' hb => slR.below' good_step G.sl hb
    obtain ⟨g0, _, _, rfl, _⟩ := slR.at G.sl 0 hst0
    clear hn hl ha hb
    have hQ := fun (w' : World) (hb : Below w.heap.size w w') => cloneS_any g0 cs st fst w' (hcl w' hb) hst0 hstm
    by_cases hbb : bestB l st best = true
    · have HB := Lib.hid (show srch l ats 0 st best = st by rw [srch_zero]; unfold better; rw [if_pos hbb])
      rw [HB.out]
      obtain ⟨A, hA⟩ : ∃ A, sumC l st = A := ⟨_, rfl⟩
      obtain ⟨C, hC⟩ : ∃ C, sumC l best = C := ⟨_, rfl⟩
      have hor : best.length = 0 ∨ A < C := by
        unfold bestB at hbb
        simp only [Bool.or_eq_true, decide_eq_true_eq, hA, hC] at hbb
        exact hbb
      rw [hA]
      rw [hC] at F c4
      have HA := Lib.hid hA
      clear hbb hA hC HB
      go_enter Tryz.func29, Tryz.ntmps29
      go_wp2_with fail
      go_quiet (fail)
      by_cases hz : best.length = 0
      · have heq2 := fun w => (heq w).trans (by rw [decide_eq_true hz])
        clear heq hor hz
        go_wp2_with fail
        refine (hQ _ (bdn (Below.refl _ _))).mono ?_
        rintro e w5 ⟨g5, c5, f5, rfl, hg5, hb5⟩
        have HF5 := HF.below (bt (bdn (Below.refl _ _)) hb5)
        have HP := Lib.hid (HF5.put hg5.sl hst0 (fun hm => by have h9 := hg5.fresh.2 _ hm; have := F.lt; change w.heap.size ≤ gx at h9; omega) (fun hm => by have h9 := hg5.fresh.2 _ hm; have := R.lt gd rfl; change w.heap.size ≤ gd at h9; omega) (fun j hj hm => by have h9 := hg5.fresh.2 _ hm; have := G.lt good_step j hj; change w.heap.size ≤ j at h9; omega) (hg5.fresh.mono (by have := F.lt; change B ≤ w.heap.size; omega)) A HA.out)
        have F5 := F.below (bt (bdn (Below.refl _ _)) hb5)
        have HS := Lib.hid ((((SX.of_below (bt (bdn (Below.refl _ _)) hb5)).trans (SX.set (w := w5) ⟨gx, 3, none⟩ (.slice (some ⟨g5, 0, none⟩) st.length c5))).trans (SX.set ⟨gx, 4, none⟩ (.int .i64 A))).more (Y := gx :: gd :: fst) (by simp))
        obtain ⟨⟨d0, d1, d2, d3, d4⟩, y0, y1, y2, y3, y4⟩ := (id F5)
        go_wp2_with fail
        (try simp only [Exit.inBlock, Exit.then])
        first | refine bodyPost_ret (results_none rfl _ _ _) rfl ?_ | refine bodyPost_end (results_none rfl _ _ _) rfl ?_
        exact ⟨rfl, ExtE.mk fst f5 HP.out HS.out (fun j hj => .inl hj) ((((bt (bdn (Below.refl _ _)) hb5).mono hBw).setCell (p := ⟨gx, 3, none⟩) h7 _).setCell (p := ⟨gx, 4, none⟩) h7 _)⟩
      · have hlt : A < C := hor.resolve_left hz
        have heq2 := fun w => (heq w).trans (by rw [decide_eq_false hz])
        clear heq hor hz
        go_wp2_with fail
        refine (hQ _ (bdn (Below.refl _ _))).mono ?_
        rintro e w5 ⟨g5, c5, f5, rfl, hg5, hb5⟩
        have HF5 := HF.below (bt (bdn (Below.refl _ _)) hb5)
        have HP := Lib.hid (HF5.put hg5.sl hst0 (fun hm => by have h9 := hg5.fresh.2 _ hm; have := F.lt; change w.heap.size ≤ gx at h9; omega) (fun hm => by have h9 := hg5.fresh.2 _ hm; have := R.lt gd rfl; change w.heap.size ≤ gd at h9; omega) (fun j hj hm => by have h9 := hg5.fresh.2 _ hm; have := G.lt good_step j hj; change w.heap.size ≤ j at h9; omega) (hg5.fresh.mono (by have := F.lt; change B ≤ w.heap.size; omega)) A HA.out)
        have F5 := F.below (bt (bdn (Below.refl _ _)) hb5)
        have HS := Lib.hid ((((SX.of_below (bt (bdn (Below.refl _ _)) hb5)).trans (SX.set (w := w5) ⟨gx, 3, none⟩ (.slice (some ⟨g5, 0, none⟩) st.length c5))).trans (SX.set ⟨gx, 4, none⟩ (.int .i64 A))).more (Y := gx :: gd :: fst) (by simp))
        obtain ⟨⟨d0, d1, d2, d3, d4⟩, y0, y1, y2, y3, y4⟩ := (id F5)
        go_wp2_with fail
        (try simp only [Exit.inBlock, Exit.then])
        first | refine bodyPost_ret (results_none rfl _ _ _) rfl ?_ | refine bodyPost_end (results_none rfl _ _ _) rfl ?_
        exact ⟨rfl, ExtE.mk fst f5 HP.out HS.out (fun j hj => .inl hj) ((((bt (bdn (Below.refl _ _)) hb5).mono hBw).setCell (p := ⟨gx, 3, none⟩) h7 _).setCell (p := ⟨gx, 4, none⟩) h7 _)⟩
    · have HB := Lib.hid (show srch l ats 0 st best = best by rw [srch_zero]; unfold better; rw [if_neg hbb])
      rw [HB.out]
      obtain ⟨A, hA⟩ : ∃ A, sumC l st = A := ⟨_, rfl⟩
      obtain ⟨C, hC⟩ : ∃ C, sumC l best = C := ⟨_, rfl⟩
      have hor : ¬ best.length = 0 ∧ ¬ A < C := by
        unfold bestB at hbb
        simp only [Bool.or_eq_true, decide_eq_true_eq, hA, hC, not_or] at hbb
        exact hbb
      obtain ⟨hz, hlt⟩ := hor
      have heq2 := fun w => (heq w).trans (by rw [decide_eq_false hz])
      rw [hA]
      rw [hC] at F c4
      clear hbb hA hC HB heq
      go_enter Tryz.func29, Tryz.ntmps29
      go_wp2_with fail
      go_quiet (fail)
      go_wp2_with fail
      (try simp only [Exit.inBlock, Exit.then])
      first | refine bodyPost_ret (results_none rfl _ _ _) rfl ?_ | refine bodyPost_end (results_none rfl _ _ _) rfl ?_
      exact ⟨rfl, ExtE.mk fst fb (HF.below (bdn (Below.refl _ _))) ((SX.of_below (bdn (Below.refl _ _))).more (by simp)) (fun j hj => .inl hj) ((bdn (Below.refl _ _)).mono hBw)⟩
  | succ n ih =>
    intro st best vl va vb fl fa fbo fst fb w hn hl ha hb HF hfl hfa hgx hgd hdis
    obtain ⟨pl, cl, rfl⟩ := slR.form hl
    obtain ⟨pa, ca, rfl⟩ := slR.form ha
    obtain ⟨pb0, cb0, rfl⟩ := slR.form hb
    have hstl : st.length ≤ 4 := by omega
    have hBw : B ≤ w.heap.size := Nat.le_of_lt (Nat.lt_of_le_of_lt HF.fresh.2.2.2.2.1 HF.fresh.2.2.1)
    obtain ⟨ps, pb, cs, cb, ds, F, G, S, hnil, R, hd, h1, h2, h3, h4, h5, h6, h7, h8, h9⟩ := (id HF)
    obtain ⟨⟨c0, c1, c2, c3, c4⟩, z0, z1, z2, z3, z4⟩ := (id F)
    have heq := fun (w : World) => (Lib.run_eql_slice_nil (P := Tryz.prog) w 29 65 pb best.length cb 0 0 Tryz.underlying29).trans (by rw [hnil])
    have he : ((st.length : Int) == (ats.length : Int)) = false := by simp; omega
    have HN := Lib.hid hn
    have hbl := bnd_length hterms.out st
    have hfo : ∀ j ∈ fbo, j < w.heap.size := hb.lt
    have HFr := HF.fresh
    obtain ⟨hf1, hf2, hf3, hf4, hf5, hf6⟩ := HFr
    obtain ⟨A, hA⟩ : ∃ A, sumC l st = A := ⟨_, rfl⟩
    have hAb := sumC_bd l st
    rw [hA] at hAb ⊢
    have HA := Lib.hid hA
    obtain ⟨hA0, hA1⟩ := hAb
    have hl4 : ∀ X : List Nat, (∀ j ∈ X, B ≤ j) → ∀ j ∈ fl, j ∉ X := fun X hX j hj hm => by have h1 := hX j hm; have h2 := hfl j hj; omega
    have ha4 : ∀ X : List Nat, (∀ j ∈ X, B ≤ j) → ∀ j ∈ fa, j ∉ X := fun X hX j hj hm => by have h1 := hX j hm; have h2 := hfa j hj; omega
    have hX0 : ∀ j ∈ gx :: gd :: fst, B ≤ j := by simp; exact ⟨hf5, hf6, hf1⟩
    clear hn hA heq
    go_enter Tryz.func29, Tryz.ntmps29
    go_wp2_with fail
    go_quiet (fail)
    go_wp2
    go_loopw [53] (fun i wr => ∃ (k : Nat) (bs : List StepD) (fs' fb' : List Nat), i = .int .i64 (k : Int) ∧ k ≤ ats.length ∧ Hid (bs = srchI l ats n st k best) ∧ FinE l ats B gx gd (.slice pl l.length cl) (.slice pa ats.length ca) st bs fs' fb' wr ∧ Hid (∀ j ∈ fs', j ∈ fst ∨ w.heap.size ≤ j) ∧ SX (gx :: gd :: fst) w wr ∧ Hid (Below B w wr)) (fun i _ => ats.length - (intOf i).toNat)
    case atStart => exact ⟨0, best, fst, fb, rfl, Nat.zero_le _, Lib.hid rfl, HF.below (bdn (Below.refl _ _)), Lib.hid (fun j hj => .inl hj), (SX.of_below (bdn (Below.refl _ _))).more (by simp), Lib.hid ((bdn (Below.refl _ _)).mono hBw)⟩
    case round =>
      clear c0 c1 c2 c3 c4 z0 z1 z2 z3 z4
      obtain ⟨k, bs, fs1, fb1, rfl, hk, HBS, HF1, Hf1, hsx, HBl⟩ := hrel
      by_cases hlt : k < ats.length
      · have hkl : (k : Int) < (ats.length : Int) := by omega
        have hk0 : (0 : Int) ≤ (k : Int) := Int.natCast_nonneg _
        have hl1 : meths wr (.slice pl l.length cl) l fl := hl.frame (fun j hj => hsx.2 j (hl.lt j hj) (hl4 _ hX0 j hj))
        have ha1 : atoms wr (.slice pa ats.length ca) ats fa := ha.frame (fun j hj => hsx.2 j (ha.lt j hj) (ha4 _ hX0 j hj))
        have hb1 : ints wr (.slice pb0 (bnd ats st).length cb0) (bnd ats st) fbo := hb.frame (fun j hj => hsx.2 j (hfo j hj) (by simp; exact ⟨fun e => hgx (e ▸ hj), fun e => hgd (e ▸ hj), fun hm => hdis j hm hj⟩))
        obtain ⟨ga, ccc, ft, hga, ⟨vt, rfl, ita, hvt⟩, _, hca, _, _, hft⟩ := slR.at ha1 k hlt
        subst hga
        obtain ⟨pv, cv, rfl⟩ := slR.form hvt
        have a0 : wr.cell? ⟨ga, k * 2, none⟩ = some (.int .i64 ats[k].rel) := hca 0 _ rfl
        have a1 : wr.cell? ⟨ga, k * 2 + 1, none⟩ = some (.slice pv ats[k].terms.length cv) := hca 1 _ rfl
        have htl : ats[k].terms.length ≤ 3 := hterms.out _ (List.getElem_mem hlt)
        have hftB : ∀ j ∈ ft, j < B := fun j hj => hfa j (hft j hj)
        have HFr1 := HF1.fresh
        obtain ⟨hq1, hq2, hq3, hq4, hq5, hq6⟩ := HFr1
        obtain ⟨ps1, pb1, cs1, cb1, ds1, F1, G1, S1, hn1', R1, hd1, _⟩ := (id HF1)
        obtain ⟨⟨c0, c1, c2, c3, c4⟩, z0, z1, z2, z3, z4⟩ := (id F1)
        have c0a := cell_al c0 (.cells #[.int .i64 ats[k].rel, .slice pv ats[k].terms.length cv] 75)
        clear hca hft
        go_wp2
        obtain ⟨wo, hwo⟩ : ∃ x, x = wr.alloc (.cells #[.int .i64 ats[k].rel, .slice pv ats[k].terms.length cv] 75) := ⟨_, rfl⟩
        have x0 : wo.cell? ⟨wr.heap.size, 0, none⟩ = some (.int .i64 ats[k].rel) := by rw [hwo]; exact cell_new _ _ _ 0 _ rfl
        have x1 : wo.cell? ⟨wr.heap.size, 1, none⟩ = some (.slice pv ats[k].terms.length cv) := by rw [hwo]; exact cell_new _ _ _ 1 _ rfl
        have hbo : Below wr.heap.size wr wo := by rw [hwo]; exact ba (Below.refl _ _)
        have hzo : wo.heap.size = wr.heap.size + 1 := by rw [hwo]; simp only [World.alloc, Array.size_push]
        rw [← hwo]
        clear hwo c0 c1 c2 c3 c4 z0 z1 z2 z3 z4 c0a F1 G1 S1 R1 hd1 a0 a1
        have HFo := HF1.below hbo
        have hlo := hl1.below' hbo
        have hao := ha1.below' hbo
        have hvo := hvt.below' hbo
        have hbb := hb1.below' hbo
        have hX1 : ∀ j ∈ gx :: gd :: fs1, B ≤ j := by simp; exact ⟨hf5, hf6, hq1⟩
        have Hsxo := Lib.hid (hsx.below hbo)
        clear hl1 ha1 hvt hb1
        obtain ⟨wq, ewq⟩ : ∃ x, x = wr := ⟨_, rfl⟩
        subst ewq
        go_loopw [63] (fun m wr => ∃ (j : Nat) (bs2 : List StepD) (fs2 fb2 : List Nat), m = .int .i64 (j : Int) ∧ j ≤ l.length ∧ Hid (bs2 = srchM l ats n st k j bs) ∧ FinE l ats B gx gd (.slice pl l.length cl) (.slice (some ⟨ga, 0, none⟩) ats.length ca) st bs2 fs2 fb2 wr ∧ Hid (∀ q ∈ fs2, q ∈ fs1 ∨ wo.heap.size ≤ q) ∧ SX (gx :: gd :: fs1) wo wr ∧ Hid (Below B wo wr)) (fun m _ => l.length - (intOf m).toNat)
        case atStart => exact ⟨0, bs, fs1, fb1, rfl, Nat.zero_le _, Lib.hid rfl, HFo, Lib.hid (fun j hj => .inl hj), SX.refl _ _, Lib.hid (Below.refl _ _)⟩
        case round =>
          obtain ⟨j, bs2, fs2, fb2, rfl, hj, HBS2, HF2, Hf2, hsx2, HBl2⟩ := hrel
          by_cases hjl : j < l.length
          · have hjli : (j : Int) < (l.length : Int) := by omega
            have hj0 : (0 : Int) ≤ (j : Int) := Int.natCast_nonneg _
            have hl2 : meths wr (.slice pl l.length cl) l fl := hlo.frame (fun j hj => hsx2.2 j (hlo.lt j hj) (hl4 _ hX1 j hj))
            have ha2 : atoms wr (.slice (some ⟨ga, 0, none⟩) ats.length ca) ats fa := hao.frame (fun j hj => hsx2.2 j (hao.lt j hj) (ha4 _ hX1 j hj))
            have hv2 : ints wr (.slice pv ats[k].terms.length cv) ats[k].terms ft := hvo.frame (fun j hj => hsx2.2 j (hvo.lt j hj) (fun hm => by have h1 := hX1 j hm; have h2 := hftB j hj; omega))
            have hb2 : ints wr (.slice pb0 (bnd ats st).length cb0) (bnd ats st) fbo := hbb.frame (fun j hj => hsx2.2 j (hbb.lt j hj) (by simp; exact ⟨fun e => hgx (e ▸ hj), fun e => hgd (e ▸ hj), fun hm => (Hf1.out j hm).elim (fun h9 => hdis j h9 hj) (fun h9 => by have := hfo j hj; omega)⟩))
            have hn9 : wq.heap.size ∉ gx :: gd :: fs1 := by simp; exact ⟨by omega, by omega, fun hm => by have := hq2 _ hm; omega⟩
            have x0r := hsx2.cell x0 hn9
            have x1r := hsx2.cell x1 hn9
            obtain ⟨gm, vi, fi2, rfl, m0, m1, m2, m3, m4, hvi⟩ := hl2.get j hjl
            obtain ⟨pi, ci, rfl⟩ := slR.form hvi
            have HFr2 := HF2.fresh
            obtain ⟨hr1, hr2, hr3, hr4, hr5, hr6⟩ := HFr2
            have hBM : Below wr.heap.size wr (wr.alloc (.cells #[.int .i64 l[j].rel, .slice pi l[j].inputs.length ci, .int .i64 l[j].limit, .int .i64 l[j].cost, .int .i64 l[j].quota] 55)) := ba (Below.refl _ _)
            obtain ⟨w3, hw3⟩ : ∃ x, x = wr.alloc (.cells #[.int .i64 l[j].rel, .slice pi l[j].inputs.length ci, .int .i64 l[j].limit, .int .i64 l[j].cost, .int .i64 l[j].quota] 55) := ⟨_, rfl⟩
            have y0 : w3.cell? ⟨wr.heap.size, 0, none⟩ = some (.int .i64 l[j].rel) := by rw [hw3]; exact cell_new _ _ _ 0 _ rfl
            have y1 : w3.cell? ⟨wr.heap.size, 1, none⟩ = some (.slice pi l[j].inputs.length ci) := by rw [hw3]; exact cell_new _ _ _ 1 _ rfl
            have y2 : w3.cell? ⟨wr.heap.size, 2, none⟩ = some (.int .i64 l[j].limit) := by rw [hw3]; exact cell_new _ _ _ 2 _ rfl
            have y3 : w3.cell? ⟨wr.heap.size, 3, none⟩ = some (.int .i64 l[j].cost) := by rw [hw3]; exact cell_new _ _ _ 3 _ rfl
            have y4 : w3.cell? ⟨wr.heap.size, 4, none⟩ = some (.int .i64 l[j].quota) := by rw [hw3]; exact cell_new _ _ _ 4 _ rfl
            have hz3 : w3.heap.size = wr.heap.size + 1 := by rw [hw3]; simp only [World.alloc, Array.size_push]
            rw [← hw3] at hBM
            have HF3 := HF2.below hBM
            have hBr : B ≤ wr.heap.size := by omega
            have HBl3 := Lib.hid (HBl2.out.trans (hBM.mono hBr))
            have hsx3 := hsx2.below hBM
            have hl3 := hl2.below' hBM
            have ha3 := ha2.below' hBM
            have hv3 := hv2.below' hBM
            have hb3 := hb2.below' hBM
            have hvi3 := hvi.below' hBM
            have x03 := cell_below x0r hBM
            have x13 := cell_below x1r hBM
            have HW3 := Lib.hid hw3
            obtain ⟨ps3, pb3, cs3, cb3, ds3, F3, G3, S3, hn3, R3, hd3, _⟩ := (id HF3)
            obtain ⟨_, hg3, _, hRc3, hRz3⟩ := R3.at (by omega)
            cases hg3
            have dk := hRc3 k _ (bcells_get (hd3 k hlt))
            have zk := hRz3 k
            obtain ⟨u, hu⟩ : ∃ u, memB (used st) (k : Int) = u := ⟨_, rfl⟩
            rw [hu] at dk
            have HX := Lib.hid (fun q hq => (Hf2.out q hq : q ∈ fs1 ∨ wo.heap.size ≤ q))
            clear hw3 hl2 ha2 hv2 hb2 hvi hBM hRc3 hRz3 F3 G3 S3 R3 hd3
            cases u with
            | true =>
              have HM := Lib.hid (show bs2 = srchM l ats n st k (j + 1) bs by rw [HBS2.out]; exact (srchM_no (by unfold canAt; rw [hu]; rfl)).symm)
              go_upto_region 9 with fail
              rw [← HW3.out]
              go_wp2_with fail
              go_roundw
              case rel => exact ⟨j + 1, bs2, fs2, fb2, by go_num, by omega, HM, HF3, Hf2, hsx3, HBl3⟩
              case measure => simp [intOf]; omega
            | false =>
              have HC := Lib.hid (canAt_of hlt hjl hu (SameVars.refl (bnd ats st)))
              cases h1 : canCallB l[j] ats[k] (bnd ats st) with
              | false =>
                have HM := Lib.hid (show bs2 = srchM l ats n st k (j + 1) bs by rw [HBS2.out]; exact (srchM_no (by rw [HC.out, h1])).symm)
                go_upto_region 9 with fail
                rw [← HW3.out]
                go_wp2_with (go_at_call 44; refine (retBB (implCanCall_any l[j] ats[k] _ _ fi2 ft _ (bnd ats st) fbo _ hvi3 hv3 hb3) h1).mono ?_; rintro e w4 ⟨rfl, hb4⟩)
                go_roundw
                case rel => exact ⟨j + 1, bs2, fs2, fb2, by go_num, by omega, HM, HF3.below hb4, Hf2, hsx3.below hb4, Lib.hid (HBl3.out.trans (hb4.mono (by omega)))⟩
                case measure => simp [intOf]; omega
              | true =>
                have HM := Lib.hid (show srch l ats n (st ++ [⟨(k : Int), (j : Int)⟩]) bs2 = srchM l ats n st k (j + 1) bs by rw [srchM_yes (by rw [HC.out, h1]), HBS2.out])
                have hIk : I64 (k : Int) := ⟨by omega, by omega⟩
                have hIj : I64 (j : Int) := ⟨by omega, by omega⟩
                have HAC := Lib.hid (show sumC l (st ++ [⟨(k : Int), (j : Int)⟩]) = A + l[j].cost by rw [sumC_snoc, costB_at hjl hcost.out, HA.out])
                have hco := hcost.out l[j] (List.getElem_mem hjl)
                obtain ⟨hco0, hco1⟩ := hco
                go_upto_region 9 with fail
                rw [← HW3.out]
                go_upto_region 10 with (go_at_call 44; refine (retBB (implCanCall_any l[j] ats[k] _ _ fi2 ft _ (bnd ats st) fbo _ hvi3 hv3 hb3) h1).mono ?_; rintro e w4 ⟨rfl, hb4⟩)
                have HF4 := HF3.below hb4
                have hsx4 := hsx3.below hb4
                have dk4 := cell_below dk hb4
                have zk4 := (SX.of_below hb4).frozen dk zk (by simp)
                have x14 := cell_below x13 hb4
                have y34 := cell_below y3 hb4
                have hl4' := hl3.below' hb4
                have ha4' := ha3.below' hb4
                have hv4 := hv3.below' hb4
                have hb4' := hb3.below' hb4
                have hz4 := hb4.size
                obtain ⟨ps4, pb4, cs4, cb4, ds4, F4, G4, S4, _, R4, _, e1, e2, e3, e4, e5, e6, _⟩ := (id HF4)
                have s5 : SX [gd] w4 (w4.setCell ⟨gd, k, none⟩ (.bool true)) := SX.set ⟨gd, k, none⟩ _
                obtain ⟨w5, hw5⟩ : ∃ x, x = w4.setCell ⟨gd, k, none⟩ (.bool true) := ⟨_, rfl⟩
                have HW5 := Lib.hid hw5
                rw [← hw5] at s5
                have F5 := F4.sx s5 (by simpa using e6)
                have G5 := G4.frame good_step (fun j hj => s5.2 j (G4.lt good_step j hj) (by simp; rintro rfl; exact e3 hj))
                have hle5 : B ≤ w5.heap.size := by have := s5.1; omega
                have hown5 : ∀ j ∈ (Value.slice ps4 st.length cs4).ownBlock.toList, j ∈ fs2 := by
                  obtain ⟨_, _, _, _, _, hfe, _⟩ := G5
                  intro j hj; rw [hfe]; simp at hj ⊢; simp [hj]
                have G5' := G5
                rw [← cutW_size hle5] at G5'
                have hcut := cutW_below hle5
                obtain ⟨⟨d0, d1, d2, d3, d4⟩, q0, q1, q2, q3, q4⟩ := (id F5)
                clear x0r x1r x03 x13 m0 m1 m2 m3 m4 dk zk y0 y1 y2 y3 y4 hl3 ha3 hv3 hb3 hvi3 hw5 F4 S4 R4
                go_upto_region 11 with fail
                rw [← HW5.out]
                go_upto_region 12 with (at_builtin; refine wpList_gr2 slStepS good_step rfl _ _ rfl G5' hcut rfl #[.int .i64 (k : Int), .int .i64 (j : Int)] ⟨(k : Int), (j : Int)⟩ [] ⟨rfl, rfl, hIk, hIj⟩ rfl (Fresh.nil _) (by simp) _ rfl rfl (by simp [Value.oneCell']) (by omega) (by unfold maxLen; omega) ?_; intro g6 cap6 w6 f6 hg6 hb6 hgr6 Hat6 Hsub6; rw [cutW_size hle5] at hg6; have s6 := SX.own hgr6; have F6 := F5.sx s6 (fun hm => e1 (hown5 _ hm)); obtain ⟨⟨t0, t1, t2, t3, t4⟩, r0, r1, r2, r3, r4⟩ := (id F6))
                have hbl6 : Below B w5 w6 := below_of_grown hgr6 hle5 (fun q hq => hr1 q (hown5 q (by rw [hq]; simp)))
                have HP := HF4.push (p := some ⟨g6, 0, none⟩) (c := cap6) (f6 := f6) (w6 := w6) (m := j) hlt (by rw [← HW5.out]; exact s6) hown5 hg6 (fun q hq => by rcases Hsub6.out q hq with h9 | h9 | h9; exact .inl h9; simp at h9; exact .inr (by have := s5.1; omega)) (by rw [← HW5.out]; exact hbl6)
                obtain ⟨HF7, s7, hbl7⟩ := HP
                have Hf6 := Lib.hid (show ∀ q ∈ f6, q ∈ fs2 ∨ w4.heap.size ≤ q from fun q hq => by rcases Hsub6.out q hq with h9 | h9 | h9; exact .inl h9; simp at h9; exact .inr (by have := s5.1; omega))
                obtain ⟨w7, hw7⟩ : ∃ x, x = w6.setCell ⟨gx, 2, none⟩ (.slice (some ⟨g6, 0, none⟩) (st.length + 1) cap6) := ⟨_, rfl⟩
                rw [← hw7] at HF7 s7 hbl7 ⊢
                have HB7 := Lib.hid hbl7
                have hB7 : B ≤ w7.heap.size := by have := s7.1; omega
                have HFr7 := HF7.fresh
                obtain ⟨hu1, hu2, hu3, hu4, _, _⟩ := HFr7
                have hX2 : ∀ q ∈ gx :: gd :: fs2, B ≤ q := by simp; exact ⟨hf5, hf6, hr1⟩
                have hnq : wq.heap.size ∉ gx :: gd :: fs2 := by simp; exact ⟨by omega, by omega, fun hm => (HX.out _ hm).elim (fun h9 => by have := hq2 _ h9; omega) (fun h9 => by omega)⟩
                have hnr : wr.heap.size ∉ gx :: gd :: fs2 := by simp; exact ⟨by omega, by omega, fun hm => by have := hr2 _ hm; omega⟩
                have x17 := s7.cell x14 hnq
                have y37 := s7.cell y34 hnr
                have hl7 : meths w7 (.slice (some ⟨gm, 0, none⟩) l.length cl) l fl := hl4'.frame (fun j hj => s7.2 j (hl4'.lt j hj) (hl4 _ hX2 j hj))
                have ha7 : atoms w7 (.slice (some ⟨ga, 0, none⟩) ats.length ca) ats fa := ha4'.frame (fun j hj => s7.2 j (ha4'.lt j hj) (ha4 _ hX2 j hj))
                have hv7 : ints w7 (.slice pv ats[k].terms.length cv) ats[k].terms ft := hv4.frame (fun j hj => s7.2 j (hv4.lt j hj) (fun hm => by have h1 := hX2 j hm; have h2 := hftB j hj; omega))
                have hb7 : ints w7 (.slice pb0 (bnd ats st).length cb0) (bnd ats st) fbo := hb4'.frame (fun j hj => s7.2 j (hb4'.lt j hj) (by
                  simp
                  refine ⟨fun e => hgx (e ▸ hj), fun e => hgd (e ▸ hj), fun hm => ?_⟩
                  rcases HX.out _ hm with h9 | h9
                  · exact (Hf1.out j h9).elim (fun h8 => hdis j h8 hj) (fun h8 => by have := hfo j hj; omega)
                  · have h7 := hfo j hj; have h6 := Hsxo.out.1; omega))
                have hlen6 : (st ++ [(⟨(k : Int), (j : Int)⟩ : StepD)]).length + n = ats.length := by have := HN.out; simp; omega
                have hV : bnd ats st ++ ats[k].terms = bnd ats (st ++ [⟨(k : Int), (j : Int)⟩]) := by rw [bnd_snoc, atomAt_nat hlt]
                obtain ⟨sx, hsxe⟩ : ∃ sx, sx = st ++ [(⟨(k : Int), (j : Int)⟩ : StepD)] := ⟨_, rfl⟩
                have Hsxe := Lib.hid hsxe
                rw [← hsxe] at HF7 HM HAC hlen6 hV
                obtain ⟨bx, hbx⟩ : ∃ bx, bx = bnd ats sx := ⟨_, rfl⟩
                rw [← hbx] at hV
                have HE := Lib.hid (fun (w' : World) (v' : Value) (f' : List Nat) (hb' : ints w' v' bx f') (hb : Below w7.heap.size w7 w') (hf : ∀ q ∈ f', w7.heap.size ≤ q) => by
                  have h := ih sx bs2 (.slice (some ⟨gm, 0, none⟩) l.length cl) (.slice (some ⟨ga, 0, none⟩) ats.length ca) v' fl fa f' f6 fb2 w' hlen6 (hl7.below' hb) (ha7.below' hb) (hbx ▸ hb') (HF7.below hb) hfl hfa (fun hm => by have := hf _ hm; omega) (fun hm => by have := hf _ hm; omega) (fun q hq hm => by have h1 := hf _ hm; have h2 := hu2 _ hq; omega)
                  rw [HAC.out] at h
                  exact h)
                have y37a := cell_al y37 (.cells #[.slice pb0 (bnd ats st).length cb0, .slice pv ats[k].terms.length cv] 22)
                have hwAC : IntKind.i64.wrap (A + l[j].cost) = A + l[j].cost := IntWalk.i64_in _ (by omega)
                have hstl1 : (bnd ats st).length ≤ 1048576 := by omega
                have htl1 : ats[k].terms.length ≤ 1048576 := by omega
                clear hsxe hbx d0 d1 d2 d3 d4 q0 q1 q2 q3 q4 G5' t0 t1 t2 t3 t4 r0 r1 r2 r3 r4 F6 s6 hg6 hb6 hgr6 Hat6 Hsub6 F5 G5 s5 G4 hw7 dk4 zk4 hl4' ha4' hv4 hb4' x14 y34 HF4 HF3
                go_cut [] from 94 to 123 (fun wc => ExtE l ats B gx gd (.slice (some ⟨gm, 0, none⟩) l.length cl) (.slice (some ⟨ga, 0, none⟩) ats.length ca) sx (srch l ats n sx bs2) f6 w7 wc)
                case first =>
                  go_wp2_with fail
                  go_region_law ((first
                    | (go_simp; go_wp2_with (first
                        | (go_at_call 45; refine (concat2_any _ (bnd ats st) ats[k].terms _ _ fbo ft _ (by first | exact cell_new _ _ _ 0 _ rfl) (by first | exact cell_new _ _ _ 1 _ rfl) (hb7.below' (by (repeat (first | exact Below.refl _ _ | refine ba ?_ | refine bdr ?_ | refine bdn ?_)); done)) (hv7.below' (by (repeat (first | exact Below.refl _ _ | refine ba ?_ | refine bdr ?_ | refine bdn ?_)); done)) hstl1 htl1).mono ?_; rintro e w8 ⟨v8, f8, rfl, hc8, hf8, hb8⟩; rw [hV] at hc8; obtain ⟨p8, q8, rfl⟩ := slR.form hc8; have hf9 := fresh_up hb8 (w7 := w7) (by (repeat (first | exact Below.refl _ _ | refine ba ?_ | refine bdr ?_ | refine bdn ?_)); done) hf8; have D8 : Below w7.heap.size w7 w8 := bt (by (repeat (first | exact Below.refl _ _ | refine ba ?_ | refine bdr ?_ | refine bdn ?_)); done) hb8; have y38 := cell_below y37 D8)
                        | (go_at_call 29; refine (HE.out _ _ f8 (hc8.below' (by (repeat (first | exact Below.refl _ _ | refine ba ?_ | refine bdr ?_ | refine bdn ?_)); done)) (by (repeat (first | exact D8 | exact Below.refl _ _ | refine ba ?_ | refine bdr ?_ | refine bdn ?_)); done) hf9.2).mono ?_; rintro e w9 ⟨rfl, hE9⟩; have hE9' := hE9.behind (w := w7) (hB := hB7) (by (repeat (first | exact D8 | exact Below.refl _ _ | refine ba ?_ | refine bdr ?_ | refine bdn ?_)); done))))))
                  all_goals (try go_wp2_with fail)
                  all_goals go_meet
                  all_goals exact hE9'
                case rest =>
                  obtain ⟨f3, fb3, HF10, s10, hf10, hbl10⟩ := hcut
                  obtain ⟨w10, ew⟩ : ∃ x, x = wc := ⟨_, rfl⟩
                  subst ew
                  rw [Hsxe.out] at HF10
                  obtain ⟨p10, c10, cc, zz, ⟨b10, ck⟩, zk, hcs, HFp, sp, hblp⟩ := HF10.pop hlt hu
                  rw [← Hsxe.out] at HFp
                  have hwr1 : IntKind.i64.wrap ((st.length : Int) + 1 - 1) = (st.length : Int) + 1 - 1 := IntWalk.i64_in _ (by omega)
                  go_wp2_with fail
                  go_region
                  have ck' : (w10.setCell ⟨gx, 2, none⟩ (.slice p10 st.length c10)).cell? ⟨gd, k, none⟩ = some (.bool b10) := (World.cell?_setCell_other _ _ _ _ (by intro e9; have e8 := congrArg Addr.block e9; first | exact e6 e8 | exact e6 e8.symm)).trans ck
                  have zk' : (w10.setCell ⟨gx, 2, none⟩ (.slice p10 st.length c10)).frozen? ⟨gd, k, none⟩ = false := by simpa using zk
                  have HM2 := Lib.hid (show srch l ats n sx bs2 = srchM l ats n st k (j + 1) bs from HM.out)
                  have HP3 := Lib.hid (show ∀ q ∈ f3, q ∈ fs1 ∨ wo.heap.size ≤ q from fun q hq => by
                    have g1 := hsx4.1
                    have g2 := s7.1
                    rcases hf10 q hq with h9 | h9
                    · rcases Hf6.out q h9 with h8 | h8
                      · exact HX.out q h8
                      · exact .inr (by omega)
                    · exact .inr (by omega))
                  have HS3 := Lib.hid ((((hsx4.then s7 (fun q hq => by
                      simp at hq
                      rcases hq with rfl | rfl | hq
                      · simp
                      · simp
                      · rcases HX.out q hq with h9 | h9
                        · simp [h9]
                        · exact .inr h9)).then s10 (fun q hq => by
                      have g1 := hsx4.1
                      simp at hq
                      rcases hq with rfl | rfl | hq
                      · simp
                      · simp
                      · rcases Hf6.out q hq with h8 | h8
                        · rcases HX.out q h8 with h9 | h9
                          · simp [h9]
                          · exact .inr h9
                        · exact .inr (by omega))).then sp (fun q hq => by
                      simp at hq
                      rcases hq with rfl | rfl | hq
                      · simp
                      · simp
                      · rcases HP3.out q hq with h9 | h9
                        · simp [h9]
                        · exact .inr h9)).below (bdr (Below.refl _ _)))
                  clear hf10 cc zz ck zk hwr1
                  go_wp2_with fail
                  go_roundw
                  case rel => exact ⟨j + 1, srch l ats n sx bs2, f3, fb3, by go_num, by omega, HM2, HFp.below (bdr (Below.refl _ _)), HP3, HS3.out, Lib.hid (((((HBl3.out.trans (hb4.mono (by omega))).trans HB7.out).trans hbl10).trans hblp).drew)⟩
                  case measure => simp [intOf]; omega
          · have hjli : ¬ (j : Int) < (l.length : Int) := by omega
            have hje : j = l.length := by omega
            have HE := Lib.hid (show bs2 = srchI l ats n st (k + 1) best by rw [srchI_succ, ← HBS.out, HBS2.out, hje])
            have HS9 := Lib.hid (Hsxo.out.then hsx2 (by
              intro q hq
              simp at hq
              rcases hq with rfl | rfl | hq
              · simp
              · simp
              · rcases Hf1.out q hq with h9 | h9
                · simp [h9]
                · exact .inr h9))
            have HF9 := Lib.hid (show ∀ q ∈ fs2, q ∈ fst ∨ w.heap.size ≤ q from fun q hq => (Hf2.out q hq).elim (Hf1.out q) (fun h9 => .inr (by have := Hsxo.out.1; omega)))
            clear hje
            go_wp2_with fail
            go_roundw
            case rel => exact ⟨k + 1, bs2, fs2, fb2, by go_num, by omega, HE, HF2, HF9, HS9.out, Lib.hid ((HBl.out.trans (hbo.mono (by omega))).trans HBl2.out)⟩
            case measure => simp [intOf]; omega
      · have hke : k = ats.length := by omega
        have hkl : ¬ (k : Int) < (ats.length : Int) := by omega
        have HFF := Lib.hid (show bs = srch l ats (n + 1) st best by rw [srch_succ, ← hke]; exact HBS.out)
        clear hke
        go_wp2_with fail
        (try simp only [Exit.inBlock, Exit.then])
        first | refine bodyPost_ret (results_none rfl _ _ _) rfl ?_ | refine bodyPost_end (results_none rfl _ _ _) rfl ?_
        exact ⟨rfl, by rw [← HFF.out]; exact ExtE.mk fs1 fb1 HF1 hsx Hf1.out HBl.out⟩
end Go.Proofs.YtpdmdfkcaabnaaaGreat
