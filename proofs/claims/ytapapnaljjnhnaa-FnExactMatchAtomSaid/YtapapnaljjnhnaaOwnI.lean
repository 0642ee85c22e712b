/- slices.Clone of ints and copyBinding of the program, with what they own. Condition: lengths within 2^20. -/
import Derived.Test.YtapapnaljjnhnaaCopBI
namespace Go.Proofs.Ytapapnaljjnhnaa
open Go.RowKit
set_option linter.unusedVariables false
set_option linter.unusedSimpArgs false
theorem all_int (w : World) : ∀ l : List Int, (∀ x ∈ l, I64 x) → All intR w (l.map fun x => [Value.int .i64 x]) l (l.map fun _ => [])
  | [], _ => .nil
  | x :: t, h => .cons ⟨rfl, rfl, h x (by simp)⟩ (all_int w t fun y hy => h y (by simp [hy]))
theorem flat_int (l : List Int) : (l.map fun x => [Value.int .i64 x]).flatten = icells l := by
  induction l with
  | nil => rfl
  | cons x t ih => simp only [List.map_cons, List.flatten_cons, ih]; rfl
theorem flat_nilI (l : List Int) : (l.map fun _ => ([] : List Nat)).flatten = [] := by
  induction l with
  | nil => rfl
  | cons x t ih => simp only [List.map_cons, List.flatten_cons, ih]; rfl
theorem gr_of_own {B : Nat} {w : World} {v : Value} {l : List Int} (h : w.ownsRow B 3 1 v l.length (icells l)) (hi : ∀ x ∈ l, I64 x) : grR 3 1 intR B w v l v.ownBlock.toList := by
  refine ⟨l.map fun x => [.int .i64 x], l.map fun _ => [], all_int w l hi, ?_, ?_, ?_, ?_⟩
  · intro c hc
    obtain ⟨x, _, rfl⟩ := List.mem_map.1 hc
    rfl
  · rw [flat_int]; exact h
  · rw [flat_nilI, List.append_nil]
  · exact ⟨by cases v.ownBlock <;> simp, fun g hg => (own_lt h g (by simpa using hg)).1⟩
theorem wpList_clone_own {w : World} {ops : Array Oper} {rest : List Oper} {o : Oper} {a : Act} {Q : Exit → Act → World → Prop} (hT : SlT Try.prog 22 3 (.int .i64 0) 1 8)
    (hgd : o.guard = none) (s x : Operand) (ho : o.op = .call { callee := .builtin .append, args := #[s, x], argTypes := #[22, 22] })
    (hs : a.eval s = .slice (some ⟨w.heap.size, 0, none⟩) 0 0) (y : Value) (l : List Int) (f : List Nat) (hx : a.eval x = y) (hy : ints w y l f) (hn : l.length ≤ 1048576)
    (h : ∀ v' w' f', grR 3 1 intR w.heap.size w' v' l f' → Below w.heap.size w w' → wpList Try.prog ops Q rest (a.put o.dst v') w') :
    wpList Try.prog ops Q (o :: rest) a (w.alloc (.cells #[] 3)) := by
  have hy1 := hy.al (.cells #[] 3)
  obtain ⟨ob, hr, _, hw⟩ := row_of_ints hy1
  have hlit : (w.alloc (.cells #[] 3)).ownsRow w.heap.size 3 1 (.slice (some ⟨w.heap.size, 0, none⟩) 0 0) 0 [] := World.ownsRow_lit _ _ _ (Nat.le_refl _) (by simp) (by simp)
  refine wpList_append_row hT hgd s x ho w.heap.size _ 0 [] hs hlit y l.length (icells l) ob hx hr (icells_one l) (by omega) (by unfold maxLen; omega) (by simp) ?_
  intro v' w' h2 h3 h5
  rw [Nat.zero_add, List.nil_append] at h2
  exact h v' w' _ (gr_of_own h2 hw) (below_of_grown (grownBy_trans (World.grownBy_alloc _ _ _) h3) (Nat.le_refl _) fun k hk => by simp [Value.ownBlock] at hk; omega)
set_option maxRecDepth 100000 in
set_option maxHeartbeats 800000 in
theorem clone_own (v : Value) (l : List Int) (f : List Nat) (w : World) (h : ints w v l f) (hn : l.length ≤ 1048576) :
    Calls Try.prog 34 #[v] w fun e w' => ∃ v' f', e = .returned v' ∧ grR 3 1 intR w.heap.size w' v' l f' ∧ Below w.heap.size w w' := by
  obtain ⟨a, cap, rfl⟩ := slR.form h
  cases a with
  | none =>
    have hl : l = [] := by
      cases l with
      | nil => rfl
      | cons x t => obtain ⟨g, hg, _⟩ := h.get 0 (by simp); cases hg
    subst hl
    have heq := fun (w : World) => Lib.run_eql_slice_nil (P := Try.prog) w 22 3 none 0 cap 0 0 Try.underlying22
    go_enter Try.func34, Try.ntmps34
    go_wp2
    go_ret
    exact ⟨_, [], rfl, grR.nilv _, Below.refl _ _⟩
  | some ad =>
    have heq := fun (w : World) => Lib.run_eql_slice_nil (P := Try.prog) w 22 3 (some ad) l.length cap 0 0 Try.underlying22
    go_enter Try.func34, Try.ntmps34
    go_wp2_with (at_builtin; refine wpList_clone_own slInt rfl _ _ rfl rfl _ l f rfl h hn ?_; intro u1 w1 f1 hu1 hb1)
    go_ret
    exact ⟨_, f1, rfl, hu1, hb1⟩
/-- What making a pair of own rows ends in. -/
def BgEnd (l1 l2 : List Int) (w : World) (e : Ending) (w' : World) : Prop := ∃ (v1 v2 : Value) (f1 f2 : List Nat), e = .returned (.agg #[v1, v2]) ∧ grR 3 1 intR w.heap.size w' v1 l1 f1 ∧ grR 3 1 intR w.heap.size w' v2 l2 f2 ∧ Fresh w.heap.size (f1 ++ f2) ∧ Below w.heap.size w w'
theorem BgEnd.mk {l1 l2 : List Int} {w : World} {e : Ending} {w' : World} (v1 v2 : Value) (f1 f2 : List Nat) (he : e = .returned (.agg #[v1, v2])) (h1 : grR 3 1 intR w.heap.size w' v1 l1 f1) (h2 : grR 3 1 intR w.heap.size w' v2 l2 f2) (h3 : Fresh w.heap.size (f1 ++ f2)) (h4 : Below w.heap.size w w') : BgEnd l1 l2 w e w' := ⟨v1, v2, f1, f2, he, h1, h2, h3, h4⟩
theorem gr_two2 {B : Nat} {w : World} {v : Value} {l : List Int} {f : List Nat} {g : Nat} (h : grR 3 1 intR B w v l f) (hg : g ∉ f) (a b : Value) : grR 3 1 intR B (two2 w g a b) v l f := h.frame good_int fun j hj => by
  have hne : j ≠ g := fun e => hg (e ▸ hj)
  exact (Below.heap_setCell _ _ _ j hne).trans (Below.heap_setCell _ _ _ j hne)
set_option maxRecDepth 100000 in
set_option maxHeartbeats 3200000 in
theorem copyBinding_own (vars vals : List Int) (vv va : Value) (fv fa : List Nat) (w : World) (hv : ints w vv vars fv) (ha : ints w va vals fa) (h1 : vars.length ≤ 1048576) (h2 : vals.length ≤ 1048576) :
    Calls Try.prog 26 #[.agg #[vv, va]] w (BgEnd vars vals w) := by
  obtain ⟨av, cv, rfl⟩ := slR.form hv
  obtain ⟨aa, ca, rfl⟩ := slR.form ha
  have hb0 : Below w.heap.size w ((w.alloc (.cells #[.slice av vars.length cv, .slice aa vals.length ca] 32)).alloc (.cells #[.slice none 0 0, .slice none 0 0] 32)) := ba (ba (Below.refl _ _))
  have s1 := size_al (w := w) (.cells #[.slice av vars.length cv, .slice aa vals.length ca] 32) rfl
  have s2 := size_al (.cells #[.slice none 0 0, .slice none 0 0] 32) s1
  have T1 : Two ((w.alloc (.cells #[.slice av vars.length cv, .slice aa vals.length ca] 32)).alloc (.cells #[.slice none 0 0, .slice none 0 0] 32)) w.heap.size (.slice av vars.length cv) (.slice aa vals.length ca) := (two_at 32 _ _ rfl).below (ba (Below.refl _ _))
  have T2 : Two ((w.alloc (.cells #[.slice av vars.length cv, .slice aa vals.length ca] 32)).alloc (.cells #[.slice none 0 0, .slice none 0 0] 32)) (w.heap.size + 1) (.slice none 0 0) (.slice none 0 0) := two_at 32 _ _ s1
  have hv2 := hv.below' hb0
  have ha2 := ha.below' hb0
  have T1' := T1
  obtain ⟨⟨a0, a1⟩, _, _⟩ := T1'
  have HT2 := Lib.hid T2
  clear T2
  go_enter Try.func26, Try.ntmps26
  go_wp2
  go_region_law (go_simp
                 go_wp2_with (first
                              | (go_at_call_of 34 (Value.slice av vars.length cv)
                                 refine (clone_own _ vars fv _ (hv2.below' ?_) h1).mono ?_
                                 · (repeat (first | exact Below.refl _ _ | refine bdr ?_))
                                 rintro e w3 ⟨v3, f3, rfl, i3, hb3'⟩
                                 have hb3 : Below ((w.alloc (.cells #[.slice av vars.length cv, .slice aa vals.length ca] 32)).alloc (.cells #[.slice none 0 0, .slice none 0 0] 32)).heap.size ((w.alloc (.cells #[.slice av vars.length cv, .slice aa vals.length ca] 32)).alloc (.cells #[.slice none 0 0, .slice none 0 0] 32)) w3 := bt (by (repeat (first | exact Below.refl _ _ | refine bdr ?_))) hb3'
                                 have i3 : grR 3 1 intR ((w.alloc (.cells #[.slice av vars.length cv, .slice aa vals.length ca] 32)).alloc (.cells #[.slice none 0 0, .slice none 0 0] 32)).heap.size w3 v3 vars f3 := i3
                                 have fr3 : Fresh ((w.alloc (.cells #[.slice av vars.length cv, .slice aa vals.length ca] 32)).alloc (.cells #[.slice none 0 0, .slice none 0 0] 32)).heap.size f3 := i3.fresh
                                 have d0 : w3.cell? ⟨w.heap.size, 0, none⟩ = some (.slice av vars.length cv) := cell_below a0 hb3
                                 have d1 : w3.cell? ⟨w.heap.size, 1, none⟩ = some (.slice aa vals.length ca) := cell_below a1 hb3
                                 obtain ⟨p3, q3, rfl⟩ := slR.form i3.sl)
                              | (go_at_call_of 34 (Value.slice aa vals.length ca)
                                 refine (clone_own _ vals fa _ (ha2.below' hb3) h2).mono ?_
                                 rintro e w4 ⟨v4, f4, rfl, i4, hb4⟩
                                 have fr4 := i4.fresh
                                 have hb24 : Below ((w.alloc (.cells #[.slice av vars.length cv, .slice aa vals.length ca] 32)).alloc (.cells #[.slice none 0 0, .slice none 0 0] 32)).heap.size ((w.alloc (.cells #[.slice av vars.length cv, .slice aa vals.length ca] 32)).alloc (.cells #[.slice none 0 0, .slice none 0 0] 32)) w4 := bt hb3 hb4
                                 have HT4 := Lib.hid (HT2.out.below hb24)
                                 have HT4' := HT4.out
                                 obtain ⟨⟨r0, r1⟩, z0, z1⟩ := HT4'
                                 have i34 := i3.below' good_int hb4
                                 obtain ⟨p4, q4, rfl⟩ := slR.form i4.sl)))
  all_goals
    have hne : ∀ g ∈ f3, g ∉ f4 := fun g hg hg2 => by have e1 := i3.lt good_int g hg; have e2 := fr4.2 g hg2; omega
    have e3 := fun g hg => fr3.2 g hg
    have hs34 := hb3.size
    have Hfr := Lib.hid (show Fresh w.heap.size (f3 ++ f4) from ⟨List.nodup_append.2 ⟨fr3.1, fr4.1, fun a ha b hb e => by subst e; exact hne a ha hb⟩, fun g hg => (List.mem_append.1 hg).elim (fun h => by have := fr3.2 g h; rw [s2] at this; omega) (fun h => by have := fr4.2 g h; rw [s2] at hs34; omega)⟩)
    have Hn3 := Lib.hid (show w.heap.size + 1 ∉ f3 from fun hm => by have := fr3.2 _ hm; rw [s2] at this; omega)
    have Hn4 := Lib.hid (show w.heap.size + 1 ∉ f4 from fun hm => by have := fr4.2 _ hm; rw [s2] at hs34; omega)
    go_wp2
    (try simp only [Exit.inBlock, Exit.then])
    refine bodyPost_ret (v := .agg #[.slice p3 vars.length q3, .slice p4 vals.length q4]) ?_ rfl ?_
    · rw [results_cellB rfl]
      simp [asAddr, Result.andThen, Act.put, load_bind2 HT4.out]
    · exact BgEnd.mk _ _ _ _ rfl (gr_two2 (i34.less hb0.size) Hn3.out _ _) (gr_two2 (i4.less (Nat.le_trans hb0.size hb3.size)) Hn4.out _ _) Hfr.out (below_two2 (bt hb0 hb24) (by omega) _ _)
end Go.Proofs.Ytapapnaljjnhnaa
