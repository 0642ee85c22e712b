/- l4Bind of the reference: one entry more. Condition: lengths within 2^20. -/
import Derived.Test.YtapapnaljjnhnaaRegInv
import Derived.Test.YtapapnaljjnhnaaTwo
import Derived.Test.YtapapnaljjnhnaaHBind
namespace Go.Proofs.Ytapapnaljjnhnaa
open Go.RowKit
set_option linter.unusedVariables false
set_option linter.unusedSimpArgs false
theorem wpOp_some {P : Program} {ops : Array Oper} {Q : Exit → Act → World → Prop} {i : Nat} {K : Act → World → Prop} {a : Act} {w : World} {o : Oper} (h : ops[i]? = some o) (hg : o.guard = none) (hh : o.wp P a w K Q) : wpOp P ops Q i K a w := by
  have hw : Region.wanted o (yielded ops a.tmps) = true := by simp [Region.wanted, hg]
  unfold wpOp
  rw [h]
  simp only [hw, if_true]
  exact .inl hh
theorem icells_one (l : List Int) : ∀ u ∈ icells l, u.oneCell' = true := by
  intro u hu
  simp only [icells, List.mem_map] at hu
  obtain ⟨k, _, rfl⟩ := hu
  rfl
theorem own_cell {w : World} {B : Nat} {E : TypeId} {sz : Nat} {v : Value} {n : Nat} {xs : List Value} (h : w.ownsRow B E sz v n xs) : v.oneCell' = true := by
  rcases h.2 with ⟨rfl, _⟩ | ⟨g, cap, cur, rfl, _⟩ <;> rfl
theorem rep_off (n i : Nat) : (Array.replicate n false).getD i false = false := by simp [Array.getD]
theorem results_cellB {fn : Func} {p : Tmp} {ty : TypeId} (h : fn.results = #[.cell p ty]) (tmps : Array Value) (P : Program) (w : World) :
    (results fn tmps).run P w = ((asAddr (tmps.getD p undef)).run P w).andThen fun a w₁ => (loadVar ty a).run P w₁ := by
  simp only [results, h]
  simp [Sem.run_bind, Result.andThen]
/-- What making a pair of rows ends in. -/
def BnEnd (l1 l2 : List Int) (w : World) (e : Ending) (w' : World) : Prop := ∃ (v1 v2 : Value) (f1 f2 : List Nat), e = .returned (.agg #[v1, v2]) ∧ ints w' v1 l1 f1 ∧ ints w' v2 l2 f2 ∧ Fresh w.heap.size (f1 ++ f2) ∧ Below w.heap.size w w'
theorem BnEnd.mk {l1 l2 : List Int} {w : World} {e : Ending} {w' : World} (v1 v2 : Value) (f1 f2 : List Nat) (he : e = .returned (.agg #[v1, v2])) (h1 : ints w' v1 l1 f1) (h2 : ints w' v2 l2 f2) (h3 : Fresh w.heap.size (f1 ++ f2)) (h4 : Below w.heap.size w w') : BnEnd l1 l2 w e w' := ⟨v1, v2, f1, f2, he, h1, h2, h3, h4⟩
def bindLst (vars vals : List Int) (x y : Int) : Nat → Option (List Int)
  | 0 => some [] | 3 => some vars | 5 => some [x] | 6 => some (vars ++ [x]) | 7 => some [] | 10 => some vals | 12 => some [y] | 13 => some (vals ++ [y]) | _ => none
def bindCon : Nat → Nat
  | 0 => 3 | 3 => 6 | 7 => 10 | 10 => 13 | _ => 99
def bindV (b0 : Nat) (vv va : Value) (x y : Int) : Nat → Option Value
  | 1 => some (.pointer (some ⟨b0, 0, none⟩)) | 2 => some vv | 4 => some (.int .i64 x) | 8 => some (.pointer (some ⟨b0, 1, none⟩)) | 9 => some va | 11 => some (.int .i64 y) | _ => none
/-- Behind the region. -/
def BindF (w0 : World) (b6 : Nat) (l1 l2 : List Int) (a : Act) (w : World) : Prop :=
  ∃ r1 r2 w4, w = two2 w4 b6 r1 r2 ∧ a.eval (.tmp 6) = .pointer (some ⟨b6, 0, none⟩) ∧ Below w0.heap.size w0 w4 ∧ w4.ownsRow w0.heap.size 3 1 r1 l1.length (icells l1) ∧ w4.ownsRow w0.heap.size 3 1 r2 l2.length (icells l2) ∧ ∀ g, r1.ownBlock = some g → r2.ownBlock ≠ some g
def BindI (w0 : World) (a0 : Act) (b0 b6 : Nat) (vv va : Value) (vars vals : List Int) (x y : Int) (L : Array Bool) (a : Act) (w : World) : Prop :=
  L.size = 16 ∧ a.defers = [] ∧
    ((L.getD 15 false = false ∧ St 3 16 22 7 w0 a0 (bindLst vars vals x y) bindCon (bindV b0 vv va x y) L a w ∧ (L.getD 14 false = true → L.getD 6 false = true ∧ L.getD 13 false = true ∧ a.eval (.tmp 21) = .agg #[a.eval (.tmp 13), a.eval (.tmp 20)])) ∨
     (L.getD 15 false = true ∧ (∀ i, i < 15 → L.getD i false = true) ∧ BindF w0 b6 (vars ++ [x]) (vals ++ [y]) a w))
theorem set_on {L : Array Bool} {i j : Nat} (hi : i < L.size) (h : L.getD j false = true) : (L.setIfInBounds i true).getD j false = true := by rw [getD_set hi, h]; simp
theorem opt_on {L : Array Bool} {j : Nat} (h : L[j]?.getD false = true) : L.getD j false = true := by simpa using h
theorem BindI.step {w0 : World} {a0 : Act} {b0 b6 : Nat} {vv va : Value} {vars vals : List Int} {x y : Int} {L : Array Bool} {a : Act} {w' : World} {i : Nat} {v : Value} (hi : i < 14) (hoff : L.getD i false = false) (h15 : L.getD 15 false = false) (hdf : a.defers = []) (hsz : L.size = 16)
    (h14 : L.getD 14 false = true → L.getD 6 false = true ∧ L.getD 13 false = true ∧ a.eval (.tmp 21) = .agg #[a.eval (.tmp 13), a.eval (.tmp 20)])
    (hst : St 3 16 22 7 w0 a0 (bindLst vars vals x y) bindCon (bindV b0 vv va x y) (L.setIfInBounds i true) (a.put (some (i + 7)) v) w') :
    BindI w0 a0 b0 b6 vv va vars vals x y (L.setIfInBounds i true) (a.put (some (i + 7)) v) w' := by
  have hiL : i < L.size := by omega
  refine ⟨by simp [hsz], hdf, .inl ⟨by rw [getD_set hiL, if_neg (by omega)]; exact h15, hst, fun h => ?_⟩⟩
  rw [getD_set hiL, if_neg (by omega)] at h
  obtain ⟨h6, h13, he⟩ := h14 h
  have n6 : i ≠ 6 := fun e => by subst e; rw [h6] at hoff; cases hoff
  have n13 : i ≠ 13 := fun e => by subst e; rw [h13] at hoff; cases hoff
  exact ⟨set_on hiL h6, set_on hiL h13, by rw [eval_other (by omega), eval_other (by omega), eval_other (by omega)]; exact he⟩
set_option maxRecDepth 100000 in
set_option maxHeartbeats 3200000 in
theorem l4Bind_any (vars vals : List Int) (vv va : Value) (fv fa : List Nat) (x y : Int) (w : World) (hv : ints w vv vars fv) (ha : ints w va vals fa) (h1 : vars.length ≤ 1048576) (h2 : vals.length ≤ 1048576) (hx : I64 x) (hy : I64 y) :
    Calls Try.prog 24 #[.agg #[vv, va], .int .i64 x, .int .i64 y] w (BnEnd (vars ++ [x]) (vals ++ [y]) w) := by
  obtain ⟨av, cv, rfl⟩ := slR.form hv
  obtain ⟨aa, ca, rfl⟩ := slR.form ha
  have hb0 : Below w.heap.size w (w.alloc (.cells #[.slice av vars.length cv, .slice aa vals.length ca] 32)) := ba (Below.refl _ _)
  go_enter Try.func24, Try.ntmps24
  go_wp2
  obtain ⟨w0, hw0⟩ : ∃ w0, (((w.alloc (.cells #[.slice av vars.length cv, .slice aa vals.length ca] 32)).alloc (.cells #[.slice none 0 0, .slice none 0 0] 32)).drew) = w0 := ⟨_, rfl⟩
  have hsz0 : w0.heap.size = w.heap.size + 2 := by rw [← hw0]; show ((w.heap.push _).push _).size = _; simp only [Array.size_push]
  have hbw : Below w.heap.size w w0 := by rw [← hw0]; exact bdr (ba (ba (Below.refl _ _)))
  have hbox : Two w0 w.heap.size (.slice av vars.length cv) (.slice aa vals.length ca) := by
    rw [← hw0]
    exact (Two.new w 32 _ _).below (bdr (ba (Below.refl _ _)))
  have hres : Two w0 (w.heap.size + 1) (.slice none 0 0) (.slice none 0 0) := by
    rw [← hw0]
    have h9 := Two.new (w.alloc (.cells #[.slice av vars.length cv, .slice aa vals.length ca] 32)) 32 (.slice none 0 0) (.slice none 0 0)
    have e9 : (w.alloc (.cells #[.slice av vars.length cv, .slice aa vals.length ca] 32)).heap.size = w.heap.size + 1 := by show (w.heap.push _).size = _; simp only [Array.size_push]
    rw [e9] at h9
    exact h9.below (bdr (Below.refl _ _))
  have hv0 := hv.below' hbw
  have ha0 := ha.below' hbw
  refine wp_region_any (by kernel_rfl) ?_
  generalize hact : Act.mk _ _ = a0
  have hw0' : ({ (w.alloc (.cells #[.slice av vars.length cv, .slice aa vals.length ca] 32)).alloc (.cells #[.slice none 0 0, .slice none 0 0] 32) with drawn := ((w.alloc (.cells #[.slice av vars.length cv, .slice aa vals.length ca] 32)).alloc (.cells #[.slice none 0 0, .slice none 0 0] 32)).drawn + 1 } : World) = w0 := hw0
  rw [hw0']
  have t1 : a0.eval (.tmp 1) = .int .i64 x := by rw [← hact]; rfl
  have t2 : a0.eval (.tmp 2) = .int .i64 y := by rw [← hact]; rfl
  have t3 : a0.eval (.tmp 3) = .pointer (some ⟨w.heap.size, 0, none⟩) := by rw [← hact]; rfl
  have t6 : a0.eval (.tmp 6) = .pointer (some ⟨w.heap.size + 1, 0, none⟩) := by rw [← hact]; rfl
  have tsz : a0.tmps.size = 22 := by rw [← hact]; rfl
  have tdf : a0.defers = [] := by rw [← hact]
  refine wpAny_inv (BindI w0 a0 w.heap.size (w.heap.size + 1) (.slice av vars.length cv) (.slice aa vals.length ca) vars vals x y) ?_ ?_ ?_ _ _ _ _ ?_ ?_
  · exact fun L a w h => h.1
  · intro L a w' i hI hi
    obtain ⟨g1, g2, g3⟩ := ready_iff hi
    obtain ⟨hsz, hdf, hI⟩ := hI
    have g1 : i < 16 := g1
    have hoff : L.getD i false = false := by
      have h9 : i < L.size := by omega
      simpa [Array.getD, h9] using g2
    rcases hI with ⟨h15, hst, h14⟩ | ⟨h15, hall, _⟩
    rotate_left
    · exfalso
      rcases Nat.lt_or_ge i 15 with h | h
      · rw [hall i h] at hoff; cases hoff
      · obtain rfl : i = 15 := by omega
        rw [h15] at hoff; cases hoff
    have e1 := (hst.old 1 (by omega)).trans t1
    have e2 := (hst.old 2 (by omega)).trans t2
    have e3 := (hst.old 3 (by omega)).trans t3
    have e6 := (hst.old 6 (by omega)).trans t6
    obtain ⟨tm, df⟩ := a
    obtain rfl : df = [] := hdf
    simp only [Act.eval, Array.getD_eq_getD_getElem?] at e1 e2 e3 e6
    rcases (show i = 0 ∨ i = 1 ∨ i = 2 ∨ i = 3 ∨ i = 4 ∨ i = 5 ∨ i = 6 ∨ i = 7 ∨ i = 8 ∨ i = 9 ∨ i = 10 ∨ i = 11 ∨ i = 12 ∨ i = 13 ∨ i = 14 ∨ i = 15 by omega) with rfl | rfl | rfl | rfl | rfl | rfl | rfl | rfl | rfl | rfl | rfl | rfl | rfl | rfl | rfl | rfl
    · refine wpOp_some (by rfl) (by rfl) ?_
      go_simp
      exact BindI.step (by omega) hoff h15 rfl hsz h14 (hst.lit 0 (by omega) hoff (by omega) [] rfl rfl (by simp))
    · refine wpOp_some (by rfl) (by rfl) ?_
      go_simp
      exact BindI.step (by omega) hoff h15 rfl hsz h14 (hst.still 1 (by omega) hoff (by omega) _ (fun u hu => by cases hu; rfl) rfl)
    · have hB := hbox.below hst.bel
      obtain ⟨⟨k0, k1⟩, _, _⟩ := hB
      simp [Region.binds] at g3
      have d1 := hst.det 1 _ (opt_on (by simp only [g3])) rfl
      simp only [Act.eval, Array.getD_eq_getD_getElem?, Nat.reduceAdd] at d1
      refine wpOp_some (by rfl) (by rfl) ?_
      go_simp
      exact BindI.step (by omega) hoff h15 rfl hsz h14 (hst.still 2 (by omega) hoff (by omega) _ (fun u hu => by cases hu; rfl) rfl)
    · simp [Region.binds] at g3
      have d1 := hst.det 2 _ (opt_on (by simp only [g3])) rfl
      have al : alive bindCon L 0 := ⟨opt_on (by simp only [g3]), hoff⟩
      have hr := hst.row 0 [] al rfl
      obtain ⟨ob, hrow, _, hwf⟩ := row_of_ints (hv0.below' hst.bel)
      refine wpOp_some (by rfl) (by rfl) ?_
      refine wp_append_row slInt rfl (.tmp 7) (.tmp 9) rfl w0.heap.size _ 0 (icells []) rfl hr _ vars.length (icells vars) ob d1 hrow (icells_one _) (by omega) (by unfold maxLen; omega) hst.bel.size ?_
      intro v' w'' a1 a2 a3
      exact BindI.step (by omega) hoff h15 rfl hsz h14 (hst.app 3 0 (by omega) hoff (by omega) vars rfl rfl (opt_on (by simp only [g3])) rfl rfl v' (by simpa [icells] using a1) a2 a3)
    · refine wpOp_some (by rfl) (by rfl) ?_
      go_simp
      exact BindI.step (by omega) hoff h15 rfl hsz h14 (hst.still 4 (by omega) hoff (by omega) _ (fun u hu => by cases hu; rfl) rfl)
    · simp [Region.binds] at g3
      have d1 := hst.det 4 _ (opt_on (by simp only [g3])) rfl
      simp only [Act.eval, Array.getD_eq_getD_getElem?, Nat.reduceAdd] at d1
      refine wpOp_some (by rfl) (by rfl) ?_
      go_simp
      exact BindI.step (by omega) hoff h15 rfl hsz h14 (hst.lit 5 (by omega) hoff (by omega) [x] rfl rfl (by simp))
    · simp [Region.binds] at g3
      have al : alive bindCon L 3 := ⟨opt_on (by simp only [g3]), hoff⟩
      have al2 : alive bindCon L 5 := ⟨opt_on (by simp only [g3]), by simp [bindCon, Array.getD, hsz]⟩
      have hr := hst.row 3 vars al rfl
      have hr2 := own_row (hst.row 5 [x] al2 rfl)
      refine wpOp_some (by rfl) (by rfl) ?_
      refine wp_append_row slInt rfl (.tmp 10) (.tmp 12) rfl w0.heap.size _ vars.length (icells vars) rfl hr _ 1 (icells [x]) _ rfl hr2 (icells_one _) (by omega) (by unfold maxLen; omega) hst.bel.size ?_
      intro v' w'' a1 a2 a3
      exact BindI.step (by omega) hoff h15 rfl hsz h14 (hst.app 6 3 (by omega) hoff (by omega) (vars ++ [x]) rfl rfl (opt_on (by simp only [g3])) rfl rfl v' (by simpa [icells] using a1) a2 a3)
    · refine wpOp_some (by rfl) (by rfl) ?_
      go_simp
      exact BindI.step (by omega) hoff h15 rfl hsz h14 (hst.lit 7 (by omega) hoff (by omega) [] rfl rfl (by simp))
    · refine wpOp_some (by rfl) (by rfl) ?_
      go_simp
      exact BindI.step (by omega) hoff h15 rfl hsz h14 (hst.still 8 (by omega) hoff (by omega) _ (fun u hu => by cases hu; rfl) rfl)
    · have hB := hbox.below hst.bel
      obtain ⟨⟨k0, k1⟩, _, _⟩ := hB
      simp [Region.binds] at g3
      have d1 := hst.det 8 _ (opt_on (by simp only [g3])) rfl
      simp only [Act.eval, Array.getD_eq_getD_getElem?, Nat.reduceAdd] at d1
      refine wpOp_some (by rfl) (by rfl) ?_
      go_simp
      exact BindI.step (by omega) hoff h15 rfl hsz h14 (hst.still 9 (by omega) hoff (by omega) _ (fun u hu => by cases hu; rfl) rfl)
    · simp [Region.binds] at g3
      have d1 := hst.det 9 _ (opt_on (by simp only [g3])) rfl
      have al : alive bindCon L 7 := ⟨opt_on (by simp only [g3]), hoff⟩
      have hr := hst.row 7 [] al rfl
      obtain ⟨ob, hrow, _, hwf⟩ := row_of_ints (ha0.below' hst.bel)
      refine wpOp_some (by rfl) (by rfl) ?_
      refine wp_append_row slInt rfl (.tmp 14) (.tmp 16) rfl w0.heap.size _ 0 (icells []) rfl hr _ vals.length (icells vals) ob d1 hrow (icells_one _) (by omega) (by unfold maxLen; omega) hst.bel.size ?_
      intro v' w'' a1 a2 a3
      exact BindI.step (by omega) hoff h15 rfl hsz h14 (hst.app 10 7 (by omega) hoff (by omega) vals rfl rfl (opt_on (by simp only [g3])) rfl rfl v' (by simpa [icells] using a1) a2 a3)
    · refine wpOp_some (by rfl) (by rfl) ?_
      go_simp
      exact BindI.step (by omega) hoff h15 rfl hsz h14 (hst.still 11 (by omega) hoff (by omega) _ (fun u hu => by cases hu; rfl) rfl)
    · simp [Region.binds] at g3
      have d1 := hst.det 11 _ (opt_on (by simp only [g3])) rfl
      simp only [Act.eval, Array.getD_eq_getD_getElem?, Nat.reduceAdd] at d1
      refine wpOp_some (by rfl) (by rfl) ?_
      go_simp
      exact BindI.step (by omega) hoff h15 rfl hsz h14 (hst.lit 12 (by omega) hoff (by omega) [y] rfl rfl (by simp))
    · simp [Region.binds] at g3
      have al : alive bindCon L 10 := ⟨opt_on (by simp only [g3]), hoff⟩
      have al2 : alive bindCon L 12 := ⟨opt_on (by simp only [g3]), by simp [bindCon, Array.getD, hsz]⟩
      have hr := hst.row 10 vals al rfl
      have hr2 := own_row (hst.row 12 [y] al2 rfl)
      refine wpOp_some (by rfl) (by rfl) ?_
      refine wp_append_row slInt rfl (.tmp 17) (.tmp 19) rfl w0.heap.size _ vals.length (icells vals) rfl hr _ 1 (icells [y]) _ rfl hr2 (icells_one _) (by omega) (by unfold maxLen; omega) hst.bel.size ?_
      intro v' w'' a1 a2 a3
      exact BindI.step (by omega) hoff h15 rfl hsz h14 (hst.app 13 10 (by omega) hoff (by omega) (vals ++ [y]) rfl rfl (opt_on (by simp only [g3])) rfl rfl v' (by simpa [icells] using a1) a2 a3)
    · simp [Region.binds] at g3
      have o6 : L.getD 6 false = true := opt_on (by simp only [g3])
      have o13 : L.getD 13 false = true := opt_on (by simp only [g3])
      have al6 : alive bindCon L 6 := ⟨o6, by simp [bindCon, Array.getD, hsz]⟩
      have al13 : alive bindCon L 13 := ⟨o13, by simp [bindCon, Array.getD, hsz]⟩
      obtain ⟨ga, ra, ea, _, _⟩ := (hst.row 6 (vars ++ [x]) al6 rfl).form (by simp)
      obtain ⟨gb, rb, eb, _, _⟩ := (hst.row 13 (vals ++ [y]) al13 rfl).form (by simp)
      simp only [Act.eval, Array.getD_eq_getD_getElem?, Nat.reduceAdd] at ea eb
      have hs14 := fun v => hst.still 14 (by omega) hoff (by omega) v (fun u hu => by cases hu) rfl
      have e13 := fun v => eval_other (a := Act.mk tm []) (d := 21) (s := 13) (v := v) (by omega)
      have e20 := fun v => eval_other (a := Act.mk tm []) (d := 21) (s := 20) (v := v) (by omega)
      have e21 := fun v => eval_same (a := Act.mk tm []) (d := 21) (v := v) (by rw [hst.tsz]; omega)
      have q13 : (Act.mk tm []).eval (.tmp 13) = .slice (some ⟨ga, 0, none⟩) (vars ++ [x]).length ra := by simpa only [Act.eval, Array.getD_eq_getD_getElem?] using ea
      have q20 : (Act.mk tm []).eval (.tmp 20) = .slice (some ⟨gb, 0, none⟩) (vals ++ [y]).length rb := by simpa only [Act.eval, Array.getD_eq_getD_getElem?] using eb
      have hfin : ∀ v, v = .agg #[.slice (some ⟨ga, 0, none⟩) (vars ++ [x]).length ra, .slice (some ⟨gb, 0, none⟩) (vals ++ [y]).length rb] → BindI w0 a0 w.heap.size (w.heap.size + 1) (.slice av vars.length cv) (.slice aa vals.length ca) vars vals x y (L.setIfInBounds 14 true) ((Act.mk tm []).put (some 21) v) w' := by
        intro v hv
        refine ⟨by simp [hsz], rfl, .inl ⟨by rw [getD_set (by omega)]; exact h15, hs14 v, fun _ => ⟨set_on (by omega) o6, set_on (by omega) o13, ?_⟩⟩⟩
        rw [e13, e20, e21, q13, q20, hv]
      clear hst hs14 e13 e20 e21 q13 q20 h14
      refine wpOp_some (by rfl) (by rfl) ?_
      generalize vars ++ [x] = lx at ea hfin
      generalize vals ++ [y] = ly at eb hfin
      generalize BindI w0 a0 w.heap.size (w.heap.size + 1) (.slice av vars.length cv) (.slice aa vals.length ca) vars vals x y (L.setIfInBounds 14 true) = K at hfin ⊢
      go_simp
      exact hfin _ rfl
    · simp [Region.binds] at g3
      have hall : ∀ i, i < 15 → L.getD i false = true := by
        intro i hi
        rcases (show i = 0 ∨ i = 1 ∨ i = 2 ∨ i = 3 ∨ i = 4 ∨ i = 5 ∨ i = 6 ∨ i = 7 ∨ i = 8 ∨ i = 9 ∨ i = 10 ∨ i = 11 ∨ i = 12 ∨ i = 13 ∨ i = 14 by omega) with rfl | rfl | rfl | rfl | rfl | rfl | rfl | rfl | rfl | rfl | rfl | rfl | rfl | rfl | rfl <;> exact opt_on (by simp only [g3])
      obtain ⟨_, _, he⟩ := h14 (hall 14 (by omega))
      have hB := hres.below hst.bel
      obtain ⟨⟨k0, k1⟩, z0, z1⟩ := hB
      have al6 : alive bindCon L 6 := ⟨hall 6 (by omega), by simp [bindCon, Array.getD, hsz]⟩
      have al13 : alive bindCon L 13 := ⟨hall 13 (by omega), by simp [bindCon, Array.getD, hsz]⟩
      have r6 := hst.row 6 (vars ++ [x]) al6 rfl
      have r13 := hst.row 13 (vals ++ [y]) al13 rfl
      have hdis := hst.dis 6 13
      simp only [Act.eval, Array.getD_eq_getD_getElem?, Nat.reduceAdd] at he r6 r13 hdis
      have hd := fun g => hdis g al6 al13 (by decide) rfl rfl
      obtain ⟨ga, ra, ea, _, _⟩ := r6.form (by simp)
      obtain ⟨gb, rb, eb, _, _⟩ := r13.form (by simp)
      rw [ea] at he r6 hd
      rw [eb] at he r13 hd
      have hbel := hst.bel
      have hfin : BindI w0 a0 w.heap.size (w.heap.size + 1) (.slice av vars.length cv) (.slice aa vals.length ca) vars vals x y (L.setIfInBounds 15 true) (Act.mk tm []) ((w'.setCell ⟨w.heap.size + 1, 0, none⟩ (.slice (some ⟨ga, 0, none⟩) (vars ++ [x]).length ra)).setCell ⟨w.heap.size + 1, 1, none⟩ (.slice (some ⟨gb, 0, none⟩) (vals ++ [y]).length rb)) := by
        refine ⟨by simp [hsz], rfl, .inr ⟨by rw [getD_set (by omega)]; rfl, fun i hi => set_on (by omega) (hall i hi), _, _, w', rfl, ?_, hbel, r6, r13, hd⟩⟩
        simpa only [Act.eval, Array.getD_eq_getD_getElem?] using e6
      clear hdis hst h14 hall r6 r13 hd ea eb g3
      refine wpOp_some (by rfl) (by rfl) ?_
      generalize vars ++ [x] = lx at he hfin
      generalize vals ++ [y] = ly at he hfin
      generalize BindI w0 a0 w.heap.size (w.heap.size + 1) (.slice av vars.length cv) (.slice aa vals.length ca) vars vals x y (L.setIfInBounds 15 true) = K at hfin ⊢
      go_simp
      exact hfin
  · intro L a w' hI hr
    obtain ⟨hsz, hdf, hI⟩ := hI
    have hall := all_listed hsz (by kernel_rfl) hr
    rcases hI with ⟨h15, _⟩ | ⟨_, _, r1, r2, w4, rfl, e6, hbel, o1, o2, hd⟩
    · rw [hall 15 (by exact (by decide : 15 < 16))] at h15; cases h15
    have hB := hres.below hbel
    obtain ⟨g1, c1, rfl, hb1, hl1⟩ := o1.form (by simp)
    obtain ⟨g2, c2, rfl, hb2, hl2⟩ := o2.form (by simp)
    obtain ⟨_, _, _, wv⟩ := row_of_ints hv
    obtain ⟨_, _, _, wa⟩ := row_of_ints ha
    have i1 : ints w4 (.slice (some ⟨g1, 0, none⟩) (vars ++ [x]).length c1) (vars ++ [x]) [g1] := ints_of_row (own_row o1) (fun z hz => (List.mem_append.1 hz).elim (fun h => wv z h) fun h => by rw [List.mem_singleton.1 h]; exact hx)
    have i2 : ints w4 (.slice (some ⟨g2, 0, none⟩) (vals ++ [y]).length c2) (vals ++ [y]) [g2] := ints_of_row (own_row o2) (fun z hz => (List.mem_append.1 hz).elim (fun h => wa z h) fun h => by rw [List.mem_singleton.1 h]; exact hy)
    have hne : g1 ≠ g2 := fun e => hd g1 rfl (by rw [e]; rfl)
    have HI1 := Lib.hid (ints_two2 (g := w.heap.size + 1) i1 (by simp; omega) (.slice (some ⟨g1, 0, none⟩) (vars ++ [x]).length c1) (.slice (some ⟨g2, 0, none⟩) (vals ++ [y]).length c2))
    have HI2 := Lib.hid (ints_two2 (g := w.heap.size + 1) i2 (by simp; omega) (.slice (some ⟨g1, 0, none⟩) (vars ++ [x]).length c1) (.slice (some ⟨g2, 0, none⟩) (vals ++ [y]).length c2))
    have Hfr := Lib.hid (show Fresh w.heap.size ([g1] ++ [g2]) from ⟨by simpa using hne, by simp; omega⟩)
    have HBl := Lib.hid (below_two2 (g := w.heap.size + 1) (bt hbw hbel) (by omega) (.slice (some ⟨g1, 0, none⟩) (vars ++ [x]).length c1) (.slice (some ⟨g2, 0, none⟩) (vals ++ [y]).length c2))
    have HL := Lib.hid (load2 (hB.set (.slice (some ⟨g1, 0, none⟩) (vars ++ [x]).length c1) (.slice (some ⟨g2, 0, none⟩) (vals ++ [y]).length c2)) Try.underlying32 rfl (by kernel_rfl))
    clear hB o1 o2 i1 i2 hd hall hsz
    obtain ⟨lx, hlx⟩ : ∃ lx, vars ++ [x] = lx := ⟨_, rfl⟩
    obtain ⟨ly, hly⟩ : ∃ ly, vals ++ [y] = ly := ⟨_, rfl⟩
    rw [hlx] at HI1 HI2 HBl HL
    rw [hly] at HI1 HI2 HBl HL
    rw [hlx, hly]
    have Hlx := Lib.hid hlx
    have Hly := Lib.hid hly
    clear hlx hly
    go_wp2
    refine bodyPost_ret (v := .agg #[.slice (some ⟨g1, 0, none⟩) lx.length c1, .slice (some ⟨g2, 0, none⟩) ly.length c2]) ?_ hdf ?_
    · have e6' : a.tmps[6]?.getD undef = .pointer (some ⟨w.heap.size + 1, 0, none⟩) := by simpa only [Act.eval, Array.getD_eq_getD_getElem?] using e6
      rw [results_cellB rfl]
      simp [asAddr, Result.andThen, e6', HL.out]
    · exact BnEnd.mk _ _ _ _ rfl (by rw [Hlx.out]; exact HI1.out) (by rw [Hly.out]; exact HI2.out) Hfr.out HBl.out
  · refine ⟨by rfl, tdf, .inl ⟨rep_off _ _, ⟨by rfl, tsz, Below.refl _ _, fun s hs => rfl, fun i v h => absurd h (by rw [rep_off]; simp), fun i l h => absurd h.1 (by rw [rep_off]; simp), fun i j g h => absurd h.1 (by rw [rep_off]; simp)⟩, fun h => absurd h (by rw [rep_off]; simp)⟩⟩
  · decide
end Go.Proofs.Ytapapnaljjnhnaa
