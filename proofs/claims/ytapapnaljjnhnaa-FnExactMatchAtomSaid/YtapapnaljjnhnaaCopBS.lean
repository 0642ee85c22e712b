/- l4Copy of the reference: a copy. Condition: lengths within 2^20. -/
import Derived.Test.YtapapnaljjnhnaaBindS
namespace Go.Proofs.Ytapapnaljjnhnaa
open Go.RowKit
set_option linter.unusedVariables false
set_option linter.unusedSimpArgs false
def copLst (vars vals : List Int) : Nat → Option (List Int)
  | 0 => some [] | 3 => some vars | 4 => some [] | 7 => some vals | _ => none
def copCon : Nat → Nat
  | 0 => 3 | 4 => 7 | _ => 99
def copV (b0 : Nat) (vv va : Value) : Nat → Option Value
  | 1 => some (.pointer (some ⟨b0, 0, none⟩)) | 2 => some vv | 5 => some (.pointer (some ⟨b0, 1, none⟩)) | 6 => some va | _ => none
theorem own_form {w : World} {B : Nat} {E : TypeId} {sz : Nat} {v : Value} {n : Nat} {xs : List Value} (h : w.ownsRow B E sz v n xs) : ∃ a c, v = .slice a n c := by
  rcases h.2 with ⟨rfl, rfl⟩ | ⟨g, cap, cur, rfl, _⟩
  · exact ⟨none, 0, rfl⟩
  · exact ⟨_, _, rfl⟩
def CopF (w0 : World) (b2 : Nat) (l1 l2 : List Int) (a : Act) (w : World) : Prop :=
  ∃ r1 r2 w4, w = two2 w4 b2 r1 r2 ∧ a.eval (.tmp 2) = .pointer (some ⟨b2, 0, none⟩) ∧ Below w0.heap.size w0 w4 ∧ w4.ownsRow w0.heap.size 3 1 r1 l1.length (icells l1) ∧ w4.ownsRow w0.heap.size 3 1 r2 l2.length (icells l2) ∧ ∀ g, r1.ownBlock = some g → r2.ownBlock ≠ some g
def CopI (w0 : World) (a0 : Act) (b0 b2 : Nat) (vv va : Value) (vars vals : List Int) (L : Array Bool) (a : Act) (w : World) : Prop :=
  L.size = 10 ∧ a.defers = [] ∧
    ((L.getD 9 false = false ∧ St 3 10 12 3 w0 a0 (copLst vars vals) copCon (copV b0 vv va) L a w ∧ (L.getD 8 false = true → L.getD 3 false = true ∧ L.getD 7 false = true ∧ a.eval (.tmp 11) = .agg #[a.eval (.tmp 6), a.eval (.tmp 10)])) ∨
     (L.getD 9 false = true ∧ (∀ i, i < 9 → L.getD i false = true) ∧ CopF w0 b2 vars vals a w))
theorem CopI.step {w0 : World} {a0 : Act} {b0 b2 : Nat} {vv va : Value} {vars vals : List Int} {L : Array Bool} {a : Act} {w' : World} {i : Nat} {v : Value} (hi : i < 8) (hoff : L.getD i false = false) (h9f : L.getD 9 false = false) (hdf : a.defers = []) (hsz : L.size = 10)
    (h8f : L.getD 8 false = true → L.getD 3 false = true ∧ L.getD 7 false = true ∧ a.eval (.tmp 11) = .agg #[a.eval (.tmp 6), a.eval (.tmp 10)])
    (hst : St 3 10 12 3 w0 a0 (copLst vars vals) copCon (copV b0 vv va) (L.setIfInBounds i true) (a.put (some (i + 3)) v) w') :
    CopI w0 a0 b0 b2 vv va vars vals (L.setIfInBounds i true) (a.put (some (i + 3)) v) w' := by
  have hiL : i < L.size := by omega
  refine ⟨by simp [hsz], hdf, .inl ⟨by rw [getD_set hiL, if_neg (by omega)]; exact h9f, hst, fun h => ?_⟩⟩
  rw [getD_set hiL, if_neg (by omega)] at h
  obtain ⟨h3, h7, he⟩ := h8f h
  have n3 : i ≠ 3 := fun e => by subst e; rw [h3] at hoff; cases hoff
  have n7 : i ≠ 7 := fun e => by subst e; rw [h7] at hoff; cases hoff
  exact ⟨set_on hiL h3, set_on hiL h7, by rw [eval_other (by omega), eval_other (by omega), eval_other (by omega)]; exact he⟩
set_option maxRecDepth 100000 in
set_option maxHeartbeats 3200000 in
theorem l4Copy_any (vars vals : List Int) (vv va : Value) (fv fa : List Nat) (w : World) (hv : ints w vv vars fv) (ha : ints w va vals fa) (h1 : vars.length ≤ 1048576) (h2 : vals.length ≤ 1048576) :
    Calls Try.prog 20 #[.agg #[vv, va]] w (BnEnd vars vals w) := by
  obtain ⟨av, cv, rfl⟩ := slR.form hv
  obtain ⟨aa, ca, rfl⟩ := slR.form ha
  have hb0 : Below w.heap.size w (w.alloc (.cells #[.slice av vars.length cv, .slice aa vals.length ca] 32)) := ba (Below.refl _ _)
  go_enter Try.func20, Try.ntmps20
  go_wp2
  obtain ⟨w0, hw0⟩ : ∃ w0, (((w.alloc (.cells #[.slice av vars.length cv, .slice aa vals.length ca] 32)).alloc (.cells #[.slice none 0 0, .slice none 0 0] 32)).drew) = w0 := ⟨_, rfl⟩
  have hsz0 : w0.heap.size = w.heap.size + 2 := by rw [← hw0]; show ((w.heap.push _).push _).size = _; simp only [Array.size_push]
  have hbw : Below w.heap.size w w0 := by rw [← hw0]; exact bdr (ba (ba (Below.refl _ _)))
  have hbox : Two w0 w.heap.size (.slice av vars.length cv) (.slice aa vals.length ca) := by
    rw [← hw0]
    exact (Two.new w 32 _ _).below (bdr (ba (Below.refl _ _)))
  have hres : Two w0 (w.heap.size + 1) (.slice none 0 0) (.slice none 0 0) := by
    rw [← hw0]
    have h9 := Two.new (w.alloc (.cells #[.slice av vars.length cv, .slice aa vals.length ca] 32)) 32 (.slice none 0 0) (.slice none 0 0)
    have e9 : (w.alloc (.cells #[.slice av vars.length cv, .slice aa vals.length ca] 32)).heap.size = w.heap.size + 1 := by show (w.heap.push _).size = _; simp only [Array.size_push]
    rw [e9] at h9
    exact h9.below (bdr (Below.refl _ _))
  have hv0 := hv.below' hbw
  have ha0 := ha.below' hbw
  refine wp_region_any (by kernel_rfl) ?_
  generalize hact : Act.mk _ _ = a0
  have hw0' : ({ (w.alloc (.cells #[.slice av vars.length cv, .slice aa vals.length ca] 32)).alloc (.cells #[.slice none 0 0, .slice none 0 0] 32) with drawn := ((w.alloc (.cells #[.slice av vars.length cv, .slice aa vals.length ca] 32)).alloc (.cells #[.slice none 0 0, .slice none 0 0] 32)).drawn + 1 } : World) = w0 := hw0
  rw [hw0']
  have t1 : a0.eval (.tmp 1) = .pointer (some ⟨w.heap.size, 0, none⟩) := by rw [← hact]; rfl
  have t2 : a0.eval (.tmp 2) = .pointer (some ⟨w.heap.size + 1, 0, none⟩) := by rw [← hact]; rfl
  have tsz : a0.tmps.size = 12 := by rw [← hact]; rfl
  have tdf : a0.defers = [] := by rw [← hact]
  refine wpAny_inv (CopI w0 a0 w.heap.size (w.heap.size + 1) (.slice av vars.length cv) (.slice aa vals.length ca) vars vals) ?_ ?_ ?_ _ _ _ _ ?_ ?_
  · exact fun L a w h => h.1
  · intro L a w' i hI hi
    obtain ⟨g1, g2, g3⟩ := ready_iff hi
    obtain ⟨hsz, hdf, hI⟩ := hI
    have g1 : i < 10 := g1
    have hoff : L.getD i false = false := by
      have h9 : i < L.size := by omega
      simpa [Array.getD, h9] using g2
    rcases hI with ⟨h9f, hst, h8f⟩ | ⟨h9f, hall, _⟩
    rotate_left
    · exfalso
      rcases Nat.lt_or_ge i 9 with h | h
      · rw [hall i h] at hoff; cases hoff
      · obtain rfl : i = 9 := by omega
        rw [h9f] at hoff; cases hoff
    have e1 := (hst.old 1 (by omega)).trans t1
    have e2 := (hst.old 2 (by omega)).trans t2
    obtain ⟨tm, df⟩ := a
    obtain rfl : df = [] := hdf
    simp only [Act.eval, Array.getD_eq_getD_getElem?] at e1 e2
    rcases (show i = 0 ∨ i = 1 ∨ i = 2 ∨ i = 3 ∨ i = 4 ∨ i = 5 ∨ i = 6 ∨ i = 7 ∨ i = 8 ∨ i = 9 by omega) with rfl | rfl | rfl | rfl | rfl | rfl | rfl | rfl | rfl | rfl
    · refine wpOp_some (by rfl) (by rfl) ?_
      go_simp
      exact CopI.step (by omega) hoff h9f rfl hsz h8f (hst.lit 0 (by omega) hoff (by omega) [] rfl rfl (by simp))
    · refine wpOp_some (by rfl) (by rfl) ?_
      go_simp
      exact CopI.step (by omega) hoff h9f rfl hsz h8f (hst.still 1 (by omega) hoff (by omega) _ (fun u hu => by cases hu; rfl) rfl)
    · have hB := hbox.below hst.bel
      obtain ⟨⟨k0, k1⟩, _, _⟩ := hB
      simp [Region.binds] at g3
      have d1 := hst.det 1 _ (opt_on (by simp only [g3])) rfl
      simp only [Act.eval, Array.getD_eq_getD_getElem?, Nat.reduceAdd] at d1
      refine wpOp_some (by rfl) (by rfl) ?_
      go_simp
      exact CopI.step (by omega) hoff h9f rfl hsz h8f (hst.still 2 (by omega) hoff (by omega) _ (fun u hu => by cases hu; rfl) rfl)
    · simp [Region.binds] at g3
      have d1 := hst.det 2 _ (opt_on (by simp only [g3])) rfl
      have al : alive copCon L 0 := ⟨opt_on (by simp only [g3]), hoff⟩
      have hr := hst.row 0 [] al rfl
      obtain ⟨ob, hrow, _, hwf⟩ := row_of_ints (hv0.below' hst.bel)
      refine wpOp_some (by rfl) (by rfl) ?_
      refine wp_append_row slInt rfl (.tmp 3) (.tmp 5) rfl w0.heap.size _ 0 (icells []) rfl hr _ vars.length (icells vars) ob d1 hrow (icells_one _) (by omega) (by unfold maxLen; omega) hst.bel.size ?_
      intro v' w'' a1 a2 a3
      exact CopI.step (by omega) hoff h9f rfl hsz h8f (hst.app 3 0 (by omega) hoff (by omega) vars rfl rfl (opt_on (by simp only [g3])) rfl rfl v' (by simpa [icells] using a1) a2 a3)
    · refine wpOp_some (by rfl) (by rfl) ?_
      go_simp
      exact CopI.step (by omega) hoff h9f rfl hsz h8f (hst.lit 4 (by omega) hoff (by omega) [] rfl rfl (by simp))
    · refine wpOp_some (by rfl) (by rfl) ?_
      go_simp
      exact CopI.step (by omega) hoff h9f rfl hsz h8f (hst.still 5 (by omega) hoff (by omega) _ (fun u hu => by cases hu; rfl) rfl)
    · have hB := hbox.below hst.bel
      obtain ⟨⟨k0, k1⟩, _, _⟩ := hB
      simp [Region.binds] at g3
      have d1 := hst.det 5 _ (opt_on (by simp only [g3])) rfl
      simp only [Act.eval, Array.getD_eq_getD_getElem?, Nat.reduceAdd] at d1
      refine wpOp_some (by rfl) (by rfl) ?_
      go_simp
      exact CopI.step (by omega) hoff h9f rfl hsz h8f (hst.still 6 (by omega) hoff (by omega) _ (fun u hu => by cases hu; rfl) rfl)
    · simp [Region.binds] at g3
      have d1 := hst.det 6 _ (opt_on (by simp only [g3])) rfl
      have al : alive copCon L 4 := ⟨opt_on (by simp only [g3]), hoff⟩
      have hr := hst.row 4 [] al rfl
      obtain ⟨ob, hrow, _, hwf⟩ := row_of_ints (ha0.below' hst.bel)
      refine wpOp_some (by rfl) (by rfl) ?_
      refine wp_append_row slInt rfl (.tmp 7) (.tmp 9) rfl w0.heap.size _ 0 (icells []) rfl hr _ vals.length (icells vals) ob d1 hrow (icells_one _) (by omega) (by unfold maxLen; omega) hst.bel.size ?_
      intro v' w'' a1 a2 a3
      exact CopI.step (by omega) hoff h9f rfl hsz h8f (hst.app 7 4 (by omega) hoff (by omega) vals rfl rfl (opt_on (by simp only [g3])) rfl rfl v' (by simpa [icells] using a1) a2 a3)
    · simp [Region.binds] at g3
      have o3 : L.getD 3 false = true := opt_on (by simp only [g3])
      have o7 : L.getD 7 false = true := opt_on (by simp only [g3])
      have al3 : alive copCon L 3 := ⟨o3, by simp [copCon, Array.getD, hsz]⟩
      have al7 : alive copCon L 7 := ⟨o7, by simp [copCon, Array.getD, hsz]⟩
      obtain ⟨ga, ra, ea⟩ := own_form (hst.row 3 vars al3 rfl)
      obtain ⟨gb, rb, eb⟩ := own_form (hst.row 7 vals al7 rfl)
      simp only [Act.eval, Array.getD_eq_getD_getElem?, Nat.reduceAdd] at ea eb
      have hs8 := fun v => hst.still 8 (by omega) hoff (by omega) v (fun u hu => by cases hu) rfl
      have e13 := fun v => eval_other (a := Act.mk tm []) (d := 11) (s := 6) (v := v) (by omega)
      have e20 := fun v => eval_other (a := Act.mk tm []) (d := 11) (s := 10) (v := v) (by omega)
      have e21 := fun v => eval_same (a := Act.mk tm []) (d := 11) (v := v) (by rw [hst.tsz]; omega)
      have q13 : (Act.mk tm []).eval (.tmp 6) = .slice ga vars.length ra := by simpa only [Act.eval, Array.getD_eq_getD_getElem?] using ea
      have q20 : (Act.mk tm []).eval (.tmp 10) = .slice gb vals.length rb := by simpa only [Act.eval, Array.getD_eq_getD_getElem?] using eb
      have hfin : ∀ v, v = .agg #[.slice ga vars.length ra, .slice gb vals.length rb] → CopI w0 a0 w.heap.size (w.heap.size + 1) (.slice av vars.length cv) (.slice aa vals.length ca) vars vals (L.setIfInBounds 8 true) ((Act.mk tm []).put (some 11) v) w' := by
        intro v hv
        refine ⟨by simp [hsz], rfl, .inl ⟨by rw [getD_set (by omega)]; exact h9f, hs8 v, fun _ => ⟨set_on (by omega) o3, set_on (by omega) o7, ?_⟩⟩⟩
        rw [e13, e20, e21, q13, q20, hv]
      clear hst hs8 e13 e20 e21 q13 q20 h8f
      refine wpOp_some (by rfl) (by rfl) ?_
      skip
      generalize CopI w0 a0 w.heap.size (w.heap.size + 1) (.slice av vars.length cv) (.slice aa vals.length ca) vars vals (L.setIfInBounds 8 true) = K at hfin ⊢
      go_simp
      exact hfin _ rfl
    · simp [Region.binds] at g3
      have hall : ∀ i, i < 9 → L.getD i false = true := by
        intro i hi
        rcases (show i = 0 ∨ i = 1 ∨ i = 2 ∨ i = 3 ∨ i = 4 ∨ i = 5 ∨ i = 6 ∨ i = 7 ∨ i = 8 by omega) with rfl | rfl | rfl | rfl | rfl | rfl | rfl | rfl | rfl <;> exact opt_on (by simp only [g3])
      obtain ⟨_, _, he⟩ := h8f (hall 8 (by omega))
      have hB := hres.below hst.bel
      obtain ⟨⟨k0, k1⟩, z0, z1⟩ := hB
      have al3 : alive copCon L 3 := ⟨hall 3 (by omega), by simp [copCon, Array.getD, hsz]⟩
      have al7 : alive copCon L 7 := ⟨hall 7 (by omega), by simp [copCon, Array.getD, hsz]⟩
      have r6 := hst.row 3 vars al3 rfl
      have r13 := hst.row 7 vals al7 rfl
      have hdis := hst.dis 3 7
      simp only [Act.eval, Array.getD_eq_getD_getElem?, Nat.reduceAdd] at he r6 r13 hdis
      have hd := fun g => hdis g al3 al7 (by decide) rfl rfl
      obtain ⟨ga, ra, ea⟩ := own_form r6
      obtain ⟨gb, rb, eb⟩ := own_form r13
      rw [ea] at he r6 hd
      rw [eb] at he r13 hd
      have hbel := hst.bel
      have hfin : CopI w0 a0 w.heap.size (w.heap.size + 1) (.slice av vars.length cv) (.slice aa vals.length ca) vars vals (L.setIfInBounds 9 true) (Act.mk tm []) ((w'.setCell ⟨w.heap.size + 1, 0, none⟩ (.slice ga vars.length ra)).setCell ⟨w.heap.size + 1, 1, none⟩ (.slice gb vals.length rb)) := by
        refine ⟨by simp [hsz], rfl, .inr ⟨by rw [getD_set (by omega)]; rfl, fun i hi => set_on (by omega) (hall i hi), _, _, w', rfl, ?_, hbel, r6, r13, hd⟩⟩
        simpa only [Act.eval, Array.getD_eq_getD_getElem?] using e2
      clear hdis hst h8f hall r6 r13 hd ea eb g3
      refine wpOp_some (by rfl) (by rfl) ?_
      skip
      generalize CopI w0 a0 w.heap.size (w.heap.size + 1) (.slice av vars.length cv) (.slice aa vals.length ca) vars vals (L.setIfInBounds 9 true) = K at hfin ⊢
      go_simp
      exact hfin
  · intro L a w' hI hr
    obtain ⟨hsz, hdf, hI⟩ := hI
    have hall := all_listed hsz (by kernel_rfl) hr
    rcases hI with ⟨h9f, _⟩ | ⟨_, _, r1, r2, w4, rfl, e2, hbel, o1, o2, hd⟩
    · rw [hall 9 (by exact (by decide : 9 < 10))] at h9f; cases h9f
    have hB := hres.below hbel
    obtain ⟨q1, c1, rfl⟩ := own_form o1
    have hB1 := own_lt o1
    obtain ⟨q2, c2, rfl⟩ := own_form o2
    have hB2 := own_lt o2
    obtain ⟨_, _, _, wv⟩ := row_of_ints hv
    obtain ⟨_, _, _, wa⟩ := row_of_ints ha
    have i1 : ints w4 (.slice q1 vars.length c1) vars (Value.slice q1 vars.length c1).ownBlock.toList := ints_of_row (own_row o1) wv
    have i2 : ints w4 (.slice q2 vals.length c2) vals (Value.slice q2 vals.length c2).ownBlock.toList := ints_of_row (own_row o2) wa
    obtain ⟨f1, hf1⟩ : ∃ f1, (Value.slice q1 vars.length c1).ownBlock.toList = f1 := ⟨_, rfl⟩
    obtain ⟨f2, hf2⟩ : ∃ f2, (Value.slice q2 vals.length c2).ownBlock.toList = f2 := ⟨_, rfl⟩
    have k1 : Fresh w0.heap.size f1 := by
      rw [← hf1]
      refine ⟨by cases (Value.slice q1 vars.length c1).ownBlock <;> simp, fun g hg => (hB1 g (by simpa using hg)).1⟩
    have k2 : Fresh w0.heap.size f2 := by
      rw [← hf2]
      refine ⟨by cases (Value.slice q2 vals.length c2).ownBlock <;> simp, fun g hg => (hB2 g (by simpa using hg)).1⟩
    have hdj : ∀ g ∈ f1, g ∉ f2 := fun g hg hg2 => hd g (by rw [← hf1] at hg; simpa using hg) (by rw [← hf2] at hg2; simpa using hg2)
    rw [hf1] at i1
    rw [hf2] at i2
    clear hf1 hf2
    have HI1 := Lib.hid (ints_two2 (g := w.heap.size + 1) i1 (fun h => by have := k1.2 _ h; omega) (.slice q1 vars.length c1) (.slice q2 vals.length c2))
    have HI2 := Lib.hid (ints_two2 (g := w.heap.size + 1) i2 (fun h => by have := k2.2 _ h; omega) (.slice q1 vars.length c1) (.slice q2 vals.length c2))
    have Hfr := Lib.hid (show Fresh w.heap.size (f1 ++ f2) from ⟨List.nodup_append.2 ⟨k1.1, k2.1, fun a ha b hb e => by subst e; exact hdj a ha hb⟩, fun g hg => (List.mem_append.1 hg).elim (fun h => by have := k1.2 g h; omega) (fun h => by have := k2.2 g h; omega)⟩)
    have HBl := Lib.hid (below_two2 (g := w.heap.size + 1) (bt hbw hbel) (by omega) (.slice q1 vars.length c1) (.slice q2 vals.length c2))
    have HL := Lib.hid (load2 (hB.set (.slice q1 vars.length c1) (.slice q2 vals.length c2)) Try.underlying32 rfl (by kernel_rfl))
    clear hB o1 o2 i1 i2 hd hall hsz
    go_wp2
    refine bodyPost_ret (v := .agg #[.slice q1 vars.length c1, .slice q2 vals.length c2]) ?_ hdf ?_
    · have e2' : a.tmps[2]?.getD undef = .pointer (some ⟨w.heap.size + 1, 0, none⟩) := by simpa only [Act.eval, Array.getD_eq_getD_getElem?] using e2
      rw [results_cellB rfl]
      simp [asAddr, Result.andThen, e2', HL.out]
    · exact BnEnd.mk _ _ _ _ rfl HI1.out HI2.out Hfr.out HBl.out
  · refine ⟨by rfl, tdf, .inl ⟨rep_off _ _, ⟨by rfl, tsz, Below.refl _ _, fun s hs => rfl, fun i v h => absurd h (by rw [rep_off]; simp), fun i l h => absurd h.1 (by rw [rep_off]; simp), fun i j g h => absurd h.1 (by rw [rep_off]; simp)⟩, fun h => absurd h (by rw [rep_off]; simp)⟩⟩
  · decide
end Go.Proofs.Ytapapnaljjnhnaa
