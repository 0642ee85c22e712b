/- greedyWhere and greedy of the program. Condition: at most four atoms of at most three terms, at most eight methods. -/
import Derived.Test.YtjjkfhjkfoikbaaGreatGreedP
import Derived.Test.YtjjkfhjkfoikbaaGreatGreedS
import Derived.Test.YtjjkfhjkfoikbaaGreatCopy
import Derived.StillTailTactics
namespace Go.Proofs.YtjjkfhjkfoikbaaGreat
open Go.RowKit
set_option linter.unusedVariables false
set_option linter.unusedSimpArgs false
/-- Nothing of what was there has changed but the blocks named. -/
def SX (X : List Nat) (w w' : World) : Prop := w.heap.size ≤ w'.heap.size ∧ ∀ j, j < w.heap.size → j ∉ X → w'.heap[j]? = w.heap[j]?
theorem SX.of_below {w w' : World} (h : Below w.heap.size w w') : SX [] w w' := ⟨h.size, fun j hj _ => h.block j hj⟩
theorem SX.set {w : World} (p : Addr) (v : Value) : SX [p.block] w (w.setCell p v) :=
  ⟨by simp [World.setCell], fun j hj hn => Below.heap_setCell _ _ _ _ (by simpa using hn)⟩
theorem SX.grown {w w' : World} {g : Nat} {o : Option Nat} (h : w.grownBy w' o) (ho : o = some g) : SX [g] w w' := by
  subst ho; exact ⟨h.size, fun j hj hn => h.block j hj (by intro e; cases e; simp at hn)⟩
theorem SX.cell {X : List Nat} {w w' : World} (s : SX X w w') {j o : Nat} {v : Value} (h : w.cell? ⟨j, o, none⟩ = some v) (hj : j ∉ X) : w'.cell? ⟨j, o, none⟩ = some v :=
  (World.cell?_of_block (s.2 j (lt_of_cell h) hj)).trans h
theorem SX.frozen {X : List Nat} {w w' : World} (s : SX X w w') {j o : Nat} {v : Value} (h : w.cell? ⟨j, o, none⟩ = some v) (hz : w.frozen? ⟨j, o, none⟩ = false) (hj : j ∉ X) : w'.frozen? ⟨j, o, none⟩ = false :=
  (World.frozen?_of_block (s.2 j (lt_of_cell h) hj)).trans hz
theorem where1_at (l : List MethD) (ats : List AtomD) (st : List StepD) (x : StepD) (b : Bool) (hx : (pick l ats st).getD ⟨0, 0⟩ = x) (hb : (pick l ats st).isSome = b) : Value.tuple #[pickV (pick l ats st), .bool (pick l ats st).isSome] = .tuple #[.agg #[.int .i64 x.atom, .int .i64 x.meth], .bool b] := by
  subst hx; subst hb
  cases pick l ats st <;> rfl
def lenOf : Value → Nat
  | .slice _ n _ => n
  | _ => 0
theorem SX.trans {X Y : List Nat} {a b c : World} (h : SX X a b) (k : SX Y b c) : SX (X ++ Y) a c :=
  ⟨Nat.le_trans h.1 k.1, fun j hj hn => (k.2 j (Nat.lt_of_lt_of_le hj h.1) (fun hm => hn (List.mem_append.2 (.inr hm)))).trans (h.2 j hj (fun hm => hn (List.mem_append.2 (.inl hm))))⟩
theorem SX.alloc (w : World) (o : Obj) : SX [] w (w.alloc o) := SX.of_below (ba (Below.refl _ _))
theorem SX.own {X : List Nat} {w w' : World} (s : SX X w w') {B : Nat} {E : TypeId} {sz : Nat} {v : Value} {n : Nat} {xs : List Value} (h : w.ownsRow B E sz v n xs) {g : Nat} (hg : v.ownBlock = some g) (hx : g ∉ X) : w'.ownsRow B E sz v n xs :=
  own_frame h fun j hj => by rw [hg] at hj; cases hj; exact s.2 _ (own_lt h _ hg).2 hx
theorem SX.row {X : List Nat} {w w' : World} (s : SX X w w') {E : TypeId} {sz : Nat} {v : Value} {n : Nat} {xs : List Value} {g : Nat} (h : Row w E sz v n xs (some g)) (hx : g ∉ X) : Row w' E sz v n xs (some g) :=
  h.frame fun j hj => by cases hj; exact s.2 _ (h.lt _ rfl) hx
theorem SX.gr {X : List Nat} {w w' : World} (s : SX X w w') {E : TypeId} {sz B g n cap : Nat} {l : List StepD} {f : List Nat} (h : grR E sz stepR B w (.slice (some ⟨g, 0, none⟩) n cap) l f) (hx : g ∉ X) : grR E sz stepR B w' (.slice (some ⟨g, 0, none⟩) n cap) l f :=
  h.frame good_step fun j hj => s.2 j (h.lt good_step j hj) (by rw [grR.flat step_flat h] at hj; simp at hj; rw [hj]; exact hx)
theorem own_form {w : World} {B : Nat} {E : TypeId} {sz : Nat} {v : Value} {n : Nat} {xs : List Value} (h : w.ownsRow B E sz v n xs) {g : Nat} (hg : v.ownBlock = some g) : ∃ cap, v = .slice (some ⟨g, 0, none⟩) n cap := by
  rcases h.2 with ⟨rfl, _⟩ | ⟨g', cap, cur, rfl, _⟩
  · simp [Value.ownBlock] at hg
  · simp [Value.ownBlock] at hg; subst hg; exact ⟨cap, rfl⟩
theorem frozen_new (w : World) (cs : Array Value) (t : TypeId) (j : Nat) : (w.alloc (.cells cs t)).frozen? ⟨w.heap.size, j, none⟩ = false := by
  have h := heap_alloc_new w (.cells cs t)
  unfold World.frozen?
  show (match (w.alloc (.cells cs t)).heap[w.heap.size]? with | some (.cells c elem (lo, hi)) => decide (lo ≤ j) && decide (j < hi) | x => false) = false
  rw [h]; simp
theorem lt_of_cell' {w : World} {j o : Nat} {v : Value} (h : w.cell? ⟨j, o, none⟩ = some v) : j < w.heap.size := lt_of_cell h
theorem cell_lit {w : World} {g o : Nat} {cs : Array Value} {t : TypeId} {v : Value} (h : w.heap[g]? = some (.cells cs t)) (hv : cs[o]? = some v) : w.cell? ⟨g, o, none⟩ = some v := by
  simp [World.cell?, h, hv]
theorem frozen_lit {w : World} {g o : Nat} {cs : Array Value} {t : TypeId} (h : w.heap[g]? = some (.cells cs t)) : w.frozen? ⟨g, o, none⟩ = false := by
  simp [World.frozen?, h]
theorem eight (w : World) (o0 o1 o2 o3 o4 o5 o6 o7 : Obj) : (((((((((w.alloc o0).alloc o1).alloc o2).alloc o3).alloc o4).alloc o5).alloc o6).alloc o7).heap.size = w.heap.size + 8) ∧ (((((((((w.alloc o0).alloc o1).alloc o2).alloc o3).alloc o4).alloc o5).alloc o6).alloc o7).heap[w.heap.size]? = some o0) ∧ (((((((((w.alloc o0).alloc o1).alloc o2).alloc o3).alloc o4).alloc o5).alloc o6).alloc o7).heap[w.heap.size + 1]? = some o1) ∧ (((((((((w.alloc o0).alloc o1).alloc o2).alloc o3).alloc o4).alloc o5).alloc o6).alloc o7).heap[w.heap.size + 1 + 1]? = some o2) ∧ (((((((((w.alloc o0).alloc o1).alloc o2).alloc o3).alloc o4).alloc o5).alloc o6).alloc o7).heap[w.heap.size + 1 + 1 + 1 + 1 + 1]? = some o5) ∧ (((((((((w.alloc o0).alloc o1).alloc o2).alloc o3).alloc o4).alloc o5).alloc o6).alloc o7).heap[w.heap.size + 1 + 1 + 1 + 1 + 1 + 1 + 1]? = some o7) := by
  refine ⟨?_, ?_, ?_, ?_, ?_, ?_⟩ <;> simp only [World.alloc, Array.size_push, Array.getElem?_push] <;> (repeat (first | rfl | (rw [if_neg (by omega)]) | (rw [if_pos (by omega)])))

set_option maxRecDepth 100000 in
set_option maxHeartbeats 6400000 in
theorem greedyWhere_any (vl : Value) (l : List MethD) (fl : List Nat) (ats : List AtomD) (va : Value) (fa : List Nat) (w : World) (hl : meths w vl l fl) (ha : atoms w va ats fa) (hn1 : 1 ≤ ats.length) (hn4 : ats.length ≤ 4) (hl5 : l.length ≤ 8) (hterms : ∀ a ∈ ats, a.terms.length ≤ 3) :
    Calls Tryz.prog 52 #[vl, va, .func (.func 53) #[] #[]] w fun e w' => ∃ v' f' vd gd ds, e = .returned (.tuple #[v', vd]) ∧ steps w' v' (greedyN l ats ats.length) f' ∧ Fresh w.heap.size f' ∧ Row w' 4 1 vd ats.length (bcells ds) (some gd) ∧ w.heap.size ≤ gd ∧ (∀ a, a < ats.length → ds[a]? = some (memB (used (greedyN l ats ats.length)) (a : Int))) ∧ Below w.heap.size w w' := by
  obtain ⟨pl, cl, rfl⟩ := slR.form hl
  obtain ⟨pa, ca, rfl⟩ := slR.form ha
  have hmk := make_row slBool ats.length (by omega) (by omega)
  have y1 : ∀ o0 o2 o3, ((((w.alloc o0).alloc (.cells #[.slice pa ats.length ca] 33)).alloc o2).alloc o3).cell? ⟨w.heap.size + 1, 0, none⟩ = some (.slice pa ats.length ca) := fun o0 o2 o3 => cell_al (cell_al (cell_at _ _ (by simp) _ _ 0 _ rfl) o2) o3
  go_enter Tryz.func52, Tryz.ntmps52
  go_wp2_with fail
  obtain ⟨e8, e0, e1, e2, e5, e7⟩ := eight w (.cells #[.slice pl l.length cl] 31) (.cells #[.slice pa ats.length ca] 33) (.cells #[.func (.func 53) #[] #[]] 86) (.cells #[] 58) (.cells (madeCells #[Value.bool false] ats.length) 4) (.cells #[.slice (some ⟨w.heap.size + 1 + 1 + 1 + 1, 0, none⟩) ats.length ats.length] 62) (.cells #[] 3) (.cells #[.slice (some ⟨w.heap.size + 1 + 1 + 1 + 1 + 1 + 1, 0, none⟩) 0 0] 22)
  have hg3 := grR.lit' (w := ((w.alloc (.cells #[.slice pl l.length cl] 31)).alloc (.cells #[.slice pa ats.length ca] 33)).alloc (.cells #[.func (.func 53) #[] #[]] 86)) (B := w.heap.size) (E := 58) (sz := 2) (H := w.heap.size + 1 + 1 + 1) stepR (by simp only [World.alloc, Array.size_push]; omega) (by simp only [World.alloc, Array.size_push])
  have hr4 := made_bools ((((w.alloc (.cells #[.slice pl l.length cl] 31)).alloc (.cells #[.slice pa ats.length ca] 33)).alloc (.cells #[.func (.func 53) #[] #[]] 86)).alloc (.cells #[] 58)) ats.length (by omega)
  rw [show ((((w.alloc (.cells #[.slice pl l.length cl] 31)).alloc (.cells #[.slice pa ats.length ca] 33)).alloc (.cells #[.func (.func 53) #[] #[]] 86)).alloc (.cells #[] 58)).heap.size = w.heap.size + 1 + 1 + 1 + 1 by simp only [World.alloc, Array.size_push]] at hr4
  have ho6 := World.ownsRow_lit (base := w.heap.size) (e := 3) (size := 1) ((((((w.alloc (.cells #[.slice pl l.length cl] 31)).alloc (.cells #[.slice pa ats.length ca] 33)).alloc (.cells #[.func (.func 53) #[] #[]] 86)).alloc (.cells #[] 58)).alloc (.cells (madeCells #[Value.bool false] ats.length) 4)).alloc (.cells #[.slice (some ⟨w.heap.size + 1 + 1 + 1 + 1, 0, none⟩) ats.length ats.length] 62)) #[] 0 (by simp only [World.alloc, Array.size_push]; omega) (by simp) (by simp)
  rw [show ((((((w.alloc (.cells #[.slice pl l.length cl] 31)).alloc (.cells #[.slice pa ats.length ca] 33)).alloc (.cells #[.func (.func 53) #[] #[]] 86)).alloc (.cells #[] 58)).alloc (.cells (madeCells #[Value.bool false] ats.length) 4)).alloc (.cells #[.slice (some ⟨w.heap.size + 1 + 1 + 1 + 1, 0, none⟩) ats.length ats.length] 62)).heap.size = w.heap.size + 1 + 1 + 1 + 1 + 1 + 1 by simp only [World.alloc, Array.size_push]] at ho6
  have hb8 : Below w.heap.size w ((((((((w.alloc (.cells #[.slice pl l.length cl] 31)).alloc (.cells #[.slice pa ats.length ca] 33)).alloc (.cells #[.func (.func 53) #[] #[]] 86)).alloc (.cells #[] 58)).alloc (.cells (madeCells #[Value.bool false] ats.length) 4)).alloc (.cells #[.slice (some ⟨w.heap.size + 1 + 1 + 1 + 1, 0, none⟩) ats.length ats.length] 62)).alloc (.cells #[] 3)).alloc (.cells #[.slice (some ⟨w.heap.size + 1 + 1 + 1 + 1 + 1 + 1, 0, none⟩) 0 0] 22)) := ba (ba (ba (ba (ba (ba (ba (ba (Below.refl _ _))))))))
  have hg8 := hg3.below' good_step (bt (bt (bt (bt (ba (o := .cells (madeCells #[Value.bool false] ats.length) 4) (Below.refl _ _)) (ba (o := .cells #[.slice (some ⟨w.heap.size + 1 + 1 + 1 + 1, 0, none⟩) ats.length ats.length] 62) (Below.refl _ _))) (ba (o := .cells #[] 3) (Below.refl _ _))) (ba (o := .cells #[.slice (some ⟨w.heap.size + 1 + 1 + 1 + 1 + 1 + 1, 0, none⟩) 0 0] 22) (Below.refl _ _))) (Below.refl _ _))
  have hr8 := hr4.below' (bt (bt (ba (o := .cells #[.slice (some ⟨w.heap.size + 1 + 1 + 1 + 1, 0, none⟩) ats.length ats.length] 62) (Below.refl _ _)) (ba (o := .cells #[] 3) (Below.refl _ _))) (ba (o := .cells #[.slice (some ⟨w.heap.size + 1 + 1 + 1 + 1 + 1 + 1, 0, none⟩) 0 0] 22) (Below.refl _ _)))
  have ho8 := own_below ho6 (ba (o := .cells #[.slice (some ⟨w.heap.size + 1 + 1 + 1 + 1 + 1 + 1, 0, none⟩) 0 0] 22) (Below.refl _ _))
  obtain ⟨u8, hu8⟩ : ∃ u8, u8 = (((((((w.alloc (.cells #[.slice pl l.length cl] 31)).alloc (.cells #[.slice pa ats.length ca] 33)).alloc (.cells #[.func (.func 53) #[] #[]] 86)).alloc (.cells #[] 58)).alloc (.cells (madeCells #[Value.bool false] ats.length) 4)).alloc (.cells #[.slice (some ⟨w.heap.size + 1 + 1 + 1 + 1, 0, none⟩) ats.length ats.length] 62)).alloc (.cells #[] 3)).alloc (.cells #[.slice (some ⟨w.heap.size + 1 + 1 + 1 + 1 + 1 + 1, 0, none⟩) 0 0] 22) := ⟨_, rfl⟩
  rw [← hu8] at e8 e0 e1 e2 e5 e7 hb8 hg8 hr8 ho8 ⊢
  clear hu8 hg3 hr4 ho6 y1 hmk
  have c0 := cell_lit (o := 0) e0 rfl
  have c1 := cell_lit (o := 0) e1 rfl
  have c2 := cell_lit (o := 0) e2 rfl
  have c5 := cell_lit (o := 0) e5 rfl
  have c7 := cell_lit (o := 0) e7 rfl
  have z7 := frozen_lit (o := 0) e7
  clear e0 e1 e2 e5 e7
  obtain ⟨x0, hx0⟩ : ∃ x0, (pick l ats []).getD ⟨0, 0⟩ = x0 := ⟨_, rfl⟩
  obtain ⟨b0, hbb0⟩ : ∃ b0, (pick l ats []).isSome = b0 := ⟨_, rfl⟩
  have hi8 : ints u8 (.slice (some ⟨w.heap.size + 1 + 1 + 1 + 1 + 1 + 1, 0, none⟩) 0 0) (bnd ats []) [w.heap.size + 1 + 1 + 1 + 1 + 1 + 1] := ints_of_row (l := []) (own_row ho8) (by simp)
  refine (where1_any l ats [] (List.replicate ats.length false) _ _ _ _ fl fa _ _ _ _ _ _ _ u8 (hl.below' hb8) (ha.below' hb8) hi8 hr8 (fun a ha => by rw [List.getElem?_replicate, if_pos ha]; rfl) c1 c0 c7 c2 c5).mono ?_
  rintro e w2 ⟨rfl, hb2⟩
  rw [where1_at l ats [] x0 b0 hx0 hbb0]
  have HX0 := Lib.hid hx0
  have HB0 := Lib.hid hbb0
  have Hterms := Lib.hid hterms
  have s2 := SX.of_below hb2
  have hbs2 := hb2.size
  have hb02 := bt hb8 hb2
  clear hx0 hbb0 hi8 hterms
  go_wp2_with fail
  have s9 : SX [] u8 (w2.alloc (.cells #[.int .i64 x0.atom, .int .i64 x0.meth] 58)) := s2.trans (SX.alloc w2 (.cells #[.int .i64 x0.atom, .int .i64 x0.meth] 58))
  have hb9 : Below w.heap.size w (w2.alloc (.cells #[.int .i64 x0.atom, .int .i64 x0.meth] 58)) := ba hb02
  have n0 : (w2.alloc (.cells #[.int .i64 x0.atom, .int .i64 x0.meth] 58)).cell? ⟨w2.heap.size, 0, none⟩ = some (.int .i64 x0.atom) := cell_new w2 _ _ 0 _ rfl
  have n1 : (w2.alloc (.cells #[.int .i64 x0.atom, .int .i64 x0.meth] 58)).cell? ⟨w2.heap.size, 1, none⟩ = some (.int .i64 x0.meth) := cell_new w2 _ _ 1 _ rfl
  have k0 := s9.cell c0 (by simp)
  have k1 := s9.cell c1 (by simp)
  have k2 := s9.cell c2 (by simp)
  have k5 := s9.cell c5 (by simp)
  have k7 := s9.cell c7 (by simp)
  have kz := s9.frozen c7 z7 (by simp)
  have hg9 := SX.gr (n := 0) (cap := 0) s9 hg8 (by simp)
  have hr9 := s9.row hr8 (by simp)
  have ho9 := s9.own ho8 rfl (by simp)
  clear c0 c1 c2 c5 c7 z7 hg8 hr8 ho8
  go_loopw [8, 12, 13] (fun vo px vb wr => ∃ (k co cb go gb gx : Nat) (bo : List Int) (st : List StepD) (fo : List Nat) (ds : List Bool) (x : StepD) (b : Bool), vo = .slice (some ⟨go, 0, none⟩) st.length co ∧ px = .pointer (some ⟨gx, 0, none⟩) ∧ vb = .bool b ∧ Hid (st = greedyN l ats k) ∧ Hid (st.length = k) ∧ Hid ((pick l ats st).getD ⟨0, 0⟩ = x) ∧ Hid ((pick l ats st).isSome = b) ∧ grR 58 2 stepR w.heap.size wr (.slice (some ⟨go, 0, none⟩) st.length co) st fo ∧ wr.cell? ⟨w.heap.size + 1 + 1 + 1 + 1 + 1 + 1 + 1, 0, none⟩ = some (.slice (some ⟨gb, 0, none⟩) bo.length cb) ∧ Hid (wr.frozen? ⟨w.heap.size + 1 + 1 + 1 + 1 + 1 + 1 + 1, 0, none⟩ = false) ∧ Hid (wr.cell? ⟨w.heap.size, 0, none⟩ = some (.slice pl l.length cl)) ∧ Hid (wr.cell? ⟨w.heap.size + 1, 0, none⟩ = some (.slice pa ats.length ca)) ∧ Hid (wr.cell? ⟨w.heap.size + 1 + 1, 0, none⟩ = some (.func (.func 53) #[] #[])) ∧ wr.cell? ⟨w.heap.size + 1 + 1 + 1 + 1 + 1, 0, none⟩ = some (.slice (some ⟨w.heap.size + 1 + 1 + 1 + 1, 0, none⟩) ats.length ats.length) ∧ wr.cell? ⟨gx, 0, none⟩ = some (.int .i64 x.atom) ∧ wr.cell? ⟨gx, 1, none⟩ = some (.int .i64 x.meth) ∧ wr.ownsRow w.heap.size 3 1 (.slice (some ⟨gb, 0, none⟩) bo.length cb) bo.length (icells bo) ∧ Hid (bo = bnd ats st) ∧ Hid (∀ i ∈ bo, I64 i) ∧ Hid (Row wr 4 1 (.slice (some ⟨w.heap.size + 1 + 1 + 1 + 1, 0, none⟩) ats.length ats.length) ats.length (bcells ds) (some (w.heap.size + 1 + 1 + 1 + 1))) ∧ Hid (∀ a, a < ats.length → ds[a]? = some (memB (used st) (a : Int))) ∧ Hid ((go = w.heap.size + 1 + 1 + 1 ∨ w.heap.size + 8 ≤ go) ∧ (gb = w.heap.size + 1 + 1 + 1 + 1 + 1 + 1 ∨ w.heap.size + 8 ≤ gb) ∧ w.heap.size + 8 ≤ gx ∧ go ≠ gb ∧ gx ≠ go ∧ gx ≠ gb) ∧ Below w.heap.size w wr) (fun vo _ _ _ => ats.length + 1 - lenOf vo)
  case atStart => exact ⟨0, 0, 0, _, _, _, [], [], _, _, _, _, rfl, rfl, rfl, Lib.hid rfl, Lib.hid rfl, HX0, HB0, hg9, k7, Lib.hid kz, Lib.hid k0, Lib.hid k1, Lib.hid k2, k5, n0, n1, ho9, Lib.hid rfl, Lib.hid (by simp), Lib.hid hr9, Lib.hid (fun a ha => by rw [List.getElem?_replicate, if_pos ha]; rfl), Lib.hid ⟨.inl rfl, .inl rfl, by omega, by omega, by omega, by omega⟩, hb9⟩
  case round =>
    clear k0 k1 k2 k5 k7 kz hg9 hr9 ho9 n0 n1 hb9 s9
    obtain ⟨k, co, cb, go, gb, gx, bo, st, fo, ds, x, b, rfl, rfl, rfl, Hst, Hsk, HX, HB, hgr, k7, Kz, K0, K1, K2, k5, n0, n1, hown, Hbo, HI, Hrow, HDs, HDJ, hbel⟩ := hrel
    cases b with
    | true =>
      have HP : ∃ q m, x = ⟨((q : Nat) : Int), m⟩ ∧ q < ats.length ∧ memB (used st) (q : Int) = false ∧ pick l ats st = some ⟨(q : Int), m⟩ ∧ I64 m := by
        have h1 := HB.out
        obtain ⟨y, hy⟩ := Option.isSome_iff_exists.1 h1
        obtain ⟨q, hq, rfl, hu, hm⟩ := pick_form hy
        have h2 := firstM_le l (atomAt ats (q : Int)) (bnd ats st)
        exact ⟨q, _, by rw [← HX.out, hy]; rfl, hq, hu, hy, by omega, by omega⟩
      obtain ⟨q, m, rfl, hq, hu, hpk, hIm⟩ := HP
      have hgst := greedyN_some (l := l) (ats := ats) (k := k) (by rw [← Hst.out]; exact hpk)
      have hkn : k + 1 ≤ ats.length := by
        have h := greedyN_le (l := l) (ats := ats) (k + 1)
        rw [hgst, ← Hst.out] at h
        have hsk := Hsk.out
        simp at h; omega
      have hstl : st.length ≤ 3 := by have hsk := Hsk.out; omega
      have Hst2 := Lib.hid (show st ++ [⟨(q : Int), m⟩] = greedyN l ats (k + 1) by rw [hgst, ← Hst.out])
      have HU := Lib.hid (used_snoc st ⟨(q : Int), m⟩)
      have HV := Lib.hid (show bo ++ ats[q].terms = bnd ats (st ++ [⟨(q : Int), m⟩]) by rw [bnd_snoc, atomAt_nat hq, Hbo.out])
      have hIq : I64 (q : Int) := ⟨by omega, by omega⟩
      have hq0 : (0 : Int) ≤ (q : Int) := Int.natCast_nonneg _
      have hq1 : (q : Int) < (ats.length : Int) := by omega
      obtain ⟨ga, ccc, ft, hga, ⟨vt, rfl, ita, hvt⟩, _, hca, _, _, _⟩ := slR.at ha q hq
      subst hga
      obtain ⟨pv, cv, rfl⟩ := slR.form hvt
      have A0 : w.cell? ⟨ga, q * 2, none⟩ = some (.int .i64 ats[q].rel) := hca 0 _ rfl
      have A1 : w.cell? ⟨ga, q * 2 + 1, none⟩ = some (.slice pv ats[q].terms.length cv) := hca 1 _ rfl
      have htl : ats[q].terms.length ≤ 3 := Hterms.out _ (List.getElem_mem hq)
      have hbol : bo.length ≤ 12 := by
        rw [Hbo.out]; have := bnd_length Hterms.out st; have hsk := Hsk.out; omega
      obtain ⟨gd, hgd, hgd2, hdc, hdz⟩ := Hrow.out.at (by omega)
      cases hgd
      have hdq := hdc q _ (bcells_get (HDs.out q hq))
      have hdf := hdz q
      clear hdc hdz hgd2 hca hgst
      have sA : SX [w.heap.size + 1 + 1 + 1 + 1] wr (wr.setCell ⟨w.heap.size + 1 + 1 + 1 + 1, q, none⟩ (.bool true)) := SX.set _ _
      have hbA : Below w.heap.size w (wr.setCell ⟨w.heap.size + 1 + 1 + 1 + 1, q, none⟩ (.bool true)) := bs hbel (by simp only []; omega)
      have hDJ := HDJ.out
      have a7 := sA.cell k7 (by simp <;> omega)
      have az := sA.frozen k7 Kz.out (by simp <;> omega)
      have a1 := sA.cell K1.out (by simp)
      have a5 := sA.cell k5 (by simp <;> omega)
      have ax := sA.cell n0 (by simp <;> omega)
      have hownA := sA.own hown rfl (by simp <;> omega)
      have hrowA := Hrow.out.set q (.bool true)
      rw [bcells_set] at hrowA
      have g0 := cell_below A0 hbA
      have g1 := cell_below A1 hbA
      obtain ⟨ob, hrt, _, hIt⟩ := row_of_ints (hvt.below' hbA)
      have Hrow2 := Lib.hid hrowA
      have HDS2 := Lib.hid (mem_set_bool HDs.out hq)
      clear hDJ hrowA
      obtain ⟨wA, hwA⟩ : ∃ wA, wA = (wr.setCell ⟨w.heap.size + 1 + 1 + 1 + 1, q, none⟩ (.bool true)) := ⟨_, rfl⟩
      have HWA := Lib.hid hwA
      go_wp2_with fail
      rw [← HWA.out]
      rw [← hwA] at sA hbA a7 az a1 a5 ax hownA Hrow2 g0 g1 hrt
      clear hwA
      have xa7 : (World.drew wA).cell? ⟨w.heap.size + 1 + 1 + 1 + 1 + 1 + 1 + 1, 0, none⟩ = _ := a7
      have xa1 : (World.drew wA).cell? ⟨w.heap.size + 1, 0, none⟩ = _ := a1
      have xax : (World.drew wA).cell? ⟨gx, 0, none⟩ = _ := ax
      have xg0 : (World.drew wA).cell? ⟨ga, q * 2, none⟩ = _ := g0
      have xg1 : (World.drew wA).cell? ⟨ga, q * 2 + 1, none⟩ = _ := g1
      refine wp_region_still_tail 7 (by kernel_rfl) (by kernel_rfl) ?_
      change wpStill _ _ (World.drew _) _ _ _
      simp only [List.take_succ_cons, List.take_zero, List.drop_succ_cons, List.drop_zero]
      iterate 7 still_step
      refine wpStill_nil ?_
      change wpList _ _ _ _ _ (World.drew _)
      have hownD : (World.drew wA).ownsRow w.heap.size 3 1 (.slice (some ⟨gb, 0, none⟩) bo.length cb) bo.length (icells bo) := own_frame hownA fun _ _ => rfl
      have hrtD := hrt.frame (w' := World.drew wA) fun _ _ => rfl
      have hsA : w.heap.size + 1 + 1 + 1 + 1 + 1 + 1 + 1 < wA.heap.size := lt_of_cell' a7
      have hsgo : go < wA.heap.size := Nat.lt_of_lt_of_le (hgr.lt good_step go (by rw [grR.flat step_flat hgr]; simp)) sA.1
      have hsgx : gx < wA.heap.size := lt_of_cell' ax
      have hsgb : gb < wA.heap.size := (own_lt hownA gb rfl).2
      obtain ⟨x', hx'⟩ : ∃ x', (pick l ats (st ++ [⟨(q : Int), m⟩])).getD ⟨0, 0⟩ = x' := ⟨_, rfl⟩
      obtain ⟨b', hb'⟩ : ∃ b', (pick l ats (st ++ [⟨(q : Int), m⟩])).isSome = b' := ⟨_, rfl⟩
      have HX' := Lib.hid hx'
      have HB' := Lib.hid hb'
      clear hx' hb'
      go_wp2_with (first
        | (at_builtin
           refine wpList_append_row slInt rfl _ _ rfl w.heap.size (.slice (some ⟨gb, 0, none⟩) bo.length cb) bo.length (icells bo) rfl hownD (.slice pv ats[q].terms.length cv) ats[q].terms.length (icells ats[q].terms) ob rfl hrtD (fun u hu => (by simp only [icells, List.mem_map] at hu; obtain ⟨_, _, rfl⟩ := hu; rfl)) (by omega) (by unfold maxLen; omega) hbA.size ?_
           intro v6 w6 hown6 hgr6 hat6
           have sB0 : SX [gb] (World.drew wA) w6 := SX.grown hgr6 rfl
           have sB : SX [gb] wA w6 := ⟨sB0.1, sB0.2⟩
           have hb6 : Below w.heap.size w w6 := hbA.drew.trans (below_of_grown hgr6 hbA.size fun j hj => (own_lt hownA j hj).1)
           have b7 := sB.cell a7 (by have hDJ := HDJ.out; simp <;> omega)
           have bz := sB.frozen a7 az (by have hDJ := HDJ.out; simp <;> omega)
           obtain ⟨gb', hgb'⟩ : ∃ gb', v6.ownBlock = some gb' := by
             rcases hat6 with h | h
             · exact ⟨gb, h⟩
             · exact ⟨_, h⟩
           have HGB := Lib.hid (show gb' = gb ∨ gb' = wA.heap.size from by
             rcases hat6 with h | h <;> rw [hgb'] at h
             · left; simp [Value.ownBlock] at h; exact h
             · right; simp at h; exact h)
           obtain ⟨cb', rfl⟩ := own_form hown6 hgb'
           have sC : SX [w.heap.size + 1 + 1 + 1 + 1 + 1 + 1 + 1] w6 (w6.setCell ⟨w.heap.size + 1 + 1 + 1 + 1 + 1 + 1 + 1, 0, none⟩ (.slice (some ⟨gb', 0, none⟩) (bo.length + ats[q].terms.length) cb')) := SX.set _ _
           have sAC := sA.trans (sB.trans sC)
           have cx0 := sAC.cell n0 (by have hDJ := HDJ.out; have hGB := HGB.out; simp <;> omega)
           have cx1 := sAC.cell n1 (by have hDJ := HDJ.out; have hGB := HGB.out; simp <;> omega)
           have hgrC := SX.gr sAC hgr (by have hDJ := HDJ.out; have hGB := HGB.out; simp <;> omega)
           have hbC : Below w.heap.size w (w6.setCell ⟨w.heap.size + 1 + 1 + 1 + 1 + 1 + 1 + 1, 0, none⟩ (.slice (some ⟨gb', 0, none⟩) (bo.length + ats[q].terms.length) cb')) := bs hb6 (by simp only []; omega)
           have hownC := sC.own hown6 rfl (by have hDJ := HDJ.out; have hGB := HGB.out; simp <;> omega)
           have c7C := World.cell?_setCell_same w6 ⟨w.heap.size + 1 + 1 + 1 + 1 + 1 + 1 + 1, 0, none⟩ (.slice (some ⟨gb', 0, none⟩) (bo.length + ats[q].terms.length) cb') b7
           have hrowC := (sB.trans sC).row Hrow2.out (by have hDJ := HDJ.out; have hGB := HGB.out; simp <;> omega)
           have HrowC := Lib.hid hrowC
           have HownC := Lib.hid hownC
           have Hc7C := Lib.hid c7C
           have hszC : wA.heap.size ≤ (w6.setCell ⟨w.heap.size + 1 + 1 + 1 + 1 + 1 + 1 + 1, 0, none⟩ (.slice (some ⟨gb', 0, none⟩) (bo.length + ats[q].terms.length) cb')).heap.size := (sB.trans sC).1
           clear hat6 hgb' hownD hrtD xa7 xa1 xax xg0 xg1 hrowC hownC c7C)
        | (at_builtin
           refine wpList_gr2 slStepS good_step rfl _ _ rfl hgrC hbC rfl #[.int .i64 (q : Int), .int .i64 m] ⟨(q : Int), m⟩ [] ⟨rfl, rfl, hIq, hIm⟩ rfl (Fresh.nil _) (by simp) w6.heap.size (by simp [World.setCell]) rfl (by simp [Value.oneCell']) (by omega) (by unfold maxLen; omega) ?_
           intro g8 cap8 w8 f8 hgr8 hb8 hg8 Hat8 Hsub8
           have sD : SX [go] (w6.setCell ⟨w.heap.size + 1 + 1 + 1 + 1 + 1 + 1 + 1, 0, none⟩ (.slice (some ⟨gb', 0, none⟩) (bo.length + ats[q].terms.length) cb')) w8 := SX.grown hg8 rfl
           have sAD := sAC.trans sD
           have dx0 := sAD.cell n0 (by have hDJ := HDJ.out; have hGB := HGB.out; simp <;> omega)
           have dx1 := sAD.cell n1 (by have hDJ := HDJ.out; have hGB := HGB.out; simp <;> omega)
           have HG8 := Lib.hid (show g8 = go ∨ (w6.setCell ⟨w.heap.size + 1 + 1 + 1 + 1 + 1 + 1 + 1, 0, none⟩ (.slice (some ⟨gb', 0, none⟩) (bo.length + ats[q].terms.length) cb')).heap.size ≤ g8 from Hat8.out.imp (fun h => by simp [Value.ownBlock] at h; exact h.symm) id)
           have sE := sAD.trans (SX.alloc w8 (.cells #[.int .i64 (q : Int), .int .i64 m] 58))
           have sDE := sD.trans (SX.alloc w8 (.cells #[.int .i64 (q : Int), .int .i64 m] 58))
           have E0 := sE.cell K0.out (by have hDJ := HDJ.out; have hGB := HGB.out; simp <;> omega)
           have E1 := sE.cell K1.out (by have hDJ := HDJ.out; have hGB := HGB.out; simp <;> omega)
           have E2 := sE.cell K2.out (by have hDJ := HDJ.out; have hGB := HGB.out; simp <;> omega)
           have E5 := sE.cell k5 (by have hDJ := HDJ.out; have hGB := HGB.out; simp <;> omega)
           have E7 := sDE.cell Hc7C.out (by have hDJ := HDJ.out; have hGB := HGB.out; simp <;> omega)
           have hownE := sDE.own HownC.out rfl (by have hDJ := HDJ.out; have hGB := HGB.out; simp <;> omega)
           have hrowE := sDE.row HrowC.out (by have hDJ := HDJ.out; have hGB := HGB.out; simp <;> omega)
           have hbE : Below w.heap.size w (w8.alloc (.cells #[.int .i64 (q : Int), .int .i64 m] 58)) := ba hb8
           have hiE : ints (w8.alloc (.cells #[.int .i64 (q : Int), .int .i64 m] 58)) (.slice (some ⟨gb', 0, none⟩) (bo.length + ats[q].terms.length) cb') (bnd ats (st ++ [⟨(q : Int), m⟩])) [gb'] := by
             have e1 : (bo ++ ats[q].terms).length = bo.length + ats[q].terms.length := List.length_append
             have e2 : icells (bo ++ ats[q].terms) = icells bo ++ icells ats[q].terms := by simp [icells]
             have h := own_row hownE
             rw [← e1, ← e2] at h
             rw [← HV.out, ← e1]
             exact ints_of_row h (fun x hx => (List.mem_append.1 hx).elim (HI.out x) (hIt x))
           clear hgrC cx0 cx1 Hsub8)
        | (refine (where1_any l ats (st ++ [⟨(q : Int), m⟩]) (ds.set q true) _ _ _ _ fl fa _ _ _ _ _ _ _ _ (hl.below' hbE) (ha.below' hbE) hiE hrowE (by rw [HU.out]; exact HDS2.out) E1 E0 E7 E2 E5).mono ?_
           rintro e wF ⟨rfl, hbF⟩
           rw [where1_at l ats _ x' b' HX'.out HB'.out]
           have f0 := cell_below (cell_new w8 58 #[.int .i64 (q : Int), .int .i64 m] 0 _ rfl) hbF
           have f1 := cell_below (cell_new w8 58 #[.int .i64 (q : Int), .int .i64 m] 1 _ rfl) hbF
           have fz0 := (hbF.frozen (p := ⟨w8.heap.size, 0, none⟩) (by show w8.heap.size < _; simp only [World.alloc, Array.size_push]; omega)).trans (frozen_new w8 #[.int .i64 (q : Int), .int .i64 m] 58 0)
           have fz1 := (hbF.frozen (p := ⟨w8.heap.size, 1, none⟩) (by show w8.heap.size < _; simp only [World.alloc, Array.size_push]; omega)).trans (frozen_new w8 #[.int .i64 (q : Int), .int .i64 m] 58 1)))
      have hsz8 : (w6.setCell ⟨w.heap.size + 1 + 1 + 1 + 1 + 1 + 1 + 1, 0, none⟩ (.slice (some ⟨gb', 0, none⟩) (bo.length + ats[q].terms.length) cb')).heap.size ≤ w8.heap.size := sD.1
      have hg8l : g8 < w8.heap.size := hgr8.lt good_step g8 (by rw [grR.flat step_flat hgr8]; simp)
      have hgbC : gb' < (w6.setCell ⟨w.heap.size + 1 + 1 + 1 + 1 + 1 + 1 + 1, 0, none⟩ (.slice (some ⟨gb', 0, none⟩) (bo.length + ats[q].terms.length) cb')).heap.size := (own_lt HownC.out gb' rfl).2
      have hDJ := HDJ.out
      have hGB := HGB.out
      have hG8 := HG8.out
      have hDJ2 : (g8 = w.heap.size + 1 + 1 + 1 ∨ w.heap.size + 8 ≤ g8) ∧ (gb' = w.heap.size + 1 + 1 + 1 + 1 + 1 + 1 ∨ w.heap.size + 8 ≤ gb') ∧ w.heap.size + 8 ≤ w8.heap.size ∧ g8 ≠ gb' ∧ w8.heap.size ≠ g8 ∧ w8.heap.size ≠ gb' := by
        generalize (w6.setCell ⟨w.heap.size + 1 + 1 + 1 + 1 + 1 + 1 + 1, 0, none⟩ (.slice (some ⟨gb', 0, none⟩) (bo.length + ats[q].terms.length) cb')).heap.size = nC at *
        omega
      have sG : SX ([] ++ ([w8.heap.size] ++ [w8.heap.size])) (w8.alloc (.cells #[.int .i64 (q : Int), .int .i64 m] 58)) ((wF.setCell ⟨w8.heap.size, 0, none⟩ (.int .i64 x'.atom)).setCell ⟨w8.heap.size, 1, none⟩ (.int .i64 x'.meth)) := (SX.of_below hbF).trans ((SX.set ⟨w8.heap.size, 0, none⟩ _).trans (SX.set ⟨w8.heap.size, 1, none⟩ _))
      have hbG : Below w.heap.size w ((wF.setCell ⟨w8.heap.size, 0, none⟩ (.int .i64 x'.atom)).setCell ⟨w8.heap.size, 1, none⟩ (.int .i64 x'.meth)) := bs (bs (bt hbE hbF) (by simp only []; omega)) (by simp only []; omega)
      have hgrG := SX.gr sG (hgr8.below' good_step (ba (o := .cells #[.int .i64 (q : Int), .int .i64 m] 58) (Below.refl _ _))) (by simp <;> omega)
      have G0 := sG.cell E0 (by simp <;> omega)
      have G1 := sG.cell E1 (by simp <;> omega)
      have G2 := sG.cell E2 (by simp <;> omega)
      have G5 := sG.cell E5 (by simp <;> omega)
      have G7 := sG.cell E7 (by simp <;> omega)
      have hzC : (w6.setCell ⟨w.heap.size + 1 + 1 + 1 + 1 + 1 + 1 + 1, 0, none⟩ (.slice (some ⟨gb', 0, none⟩) (bo.length + ats[q].terms.length) cb')).frozen? ⟨w.heap.size + 1 + 1 + 1 + 1 + 1 + 1 + 1, 0, none⟩ = false := by simpa using bz
      have hzE := sDE.frozen Hc7C.out hzC (by simp <;> omega)
      have hzG := sG.frozen E7 hzE (by simp <;> omega)
      have hownG := sG.own hownE rfl (by simp <;> omega)
      have hrowG := sG.row hrowE (by simp <;> omega)
      have m0 : ((wF.setCell ⟨w8.heap.size, 0, none⟩ (.int .i64 x'.atom)).setCell ⟨w8.heap.size, 1, none⟩ (.int .i64 x'.meth)).cell? ⟨w8.heap.size, 0, none⟩ = some (.int .i64 x'.atom) := (World.cell?_setCell_other _ _ _ _ (by simp)).trans (World.cell?_setCell_same _ _ _ f0)
      have m1 : ((wF.setCell ⟨w8.heap.size, 0, none⟩ (.int .i64 x'.atom)).setCell ⟨w8.heap.size, 1, none⟩ (.int .i64 x'.meth)).cell? ⟨w8.heap.size, 1, none⟩ = some (.int .i64 x'.meth) := by
        obtain ⟨y, hy⟩ := cell?_setCell_some (p := ⟨w8.heap.size, 0, none⟩) (x := .int .i64 x'.atom) f1
        exact World.cell?_setCell_same _ _ _ hy
      have e1 : (bo ++ ats[q].terms).length = bo.length + ats[q].terms.length := List.length_append
      have e2 : icells (bo ++ ats[q].terms) = icells bo ++ icells ats[q].terms := by simp [icells]
      have HI2 := Lib.hid (show ∀ x ∈ bo ++ ats[q].terms, I64 x from fun x hx => (List.mem_append.1 hx).elim (HI.out x) (hIt x))
      rw [← e1, ← e2] at hownG
      rw [← e1] at G7
      have e3 : (st ++ [(⟨(q : Int), m⟩ : StepD)]).length = st.length + 1 := by simp
      rw [← e3] at hgrG
      obtain ⟨wG, hwG⟩ : ∃ wG, wG = ((wF.setCell ⟨w8.heap.size, 0, none⟩ (.int .i64 x'.atom)).setCell ⟨w8.heap.size, 1, none⟩ (.int .i64 x'.meth)) := ⟨_, rfl⟩
      have HWG := Lib.hid hwG
      rw [← hwG] at hgrG G0 G1 G2 G5 G7 hzG hownG hrowG m0 m1 hbG
      have Z1 := Lib.hid hzG
      have Z2 := Lib.hid hrowG
      have Z3 := Lib.hid hDJ2
      have Z4 := Lib.hid (show ∀ a, a < ats.length → (ds.set q true)[a]? = some (memB (used (st ++ [⟨(q : Int), m⟩])) (a : Int)) by rw [HU.out]; exact HDS2.out)
      have Z5 := Lib.hid (show (st ++ [(⟨(q : Int), m⟩ : StepD)]).length = k + 1 by rw [e3, Hsk.out])
      have Z6 := Lib.hid G0
      have Z7 := Lib.hid G1
      have Z8 := Lib.hid G2
      clear hwG
      go_roundw
      case rel =>
        rw [← HWG.out]
        refine ⟨k + 1, cap8, cb', g8, gb', w8.heap.size, bo ++ ats[q].terms, st ++ [⟨(q : Int), m⟩], f8, ds.set q true, x', b', ?_⟩
        refine ⟨by rw [e3], rfl, rfl, Hst2, Z5, HX', HB', ?_⟩
        refine ⟨hgrG, G7, Z1, Z6, Z7, Z8, G5, m0, m1, ?_⟩
        exact ⟨hownG, HV, HI2, Z2, Z4, Z3, hbG⟩
      case measure => have hsk := Hsk.out; simp only [lenOf]; omega
    | false =>
      have hpk : pick l ats st = none := by
        have := HB.out
        cases h : pick l ats st with
        | none => rfl
        | some y => rw [h] at this; cases this
      have hend := greedy_end (l := l) (ats := ats) (k := k) (by rw [← Hst.out]; exact Hsk.out) (by rw [← Hst.out]; exact hpk)
      rw [← Hst.out] at hend
      have Hend := Lib.hid hend
      clear hend hpk
      go_wp2
      go_quiet (fail)
      go_wp2
      go_ret2
      have q1 : steps wr (.slice (some ⟨go, 0, none⟩) st.length co) (greedyN l ats ats.length) fo := by rw [← Hend.out]; exact hgr.sl
      have q2 : ∀ a, a < ats.length → ds[a]? = some (memB (used (greedyN l ats ats.length)) (a : Int)) := by rw [← Hend.out]; exact HDs.out
      have q3 := Hrow.out
      have q4 := hgr.fresh
      exact ⟨.slice (some ⟨go, 0, none⟩) st.length co, fo, .slice (some ⟨w.heap.size + 1 + 1 + 1 + 1, 0, none⟩) ats.length ats.length, w.heap.size + 1 + 1 + 1 + 1, ds, rfl, steps.frame q1 (fun _ _ => rfl), q4, q3.frame (fun _ _ => rfl), by omega, q2, by (repeat (first | exact hbel | refine bdn ?_ | refine bdr ?_))⟩
end Go.Proofs.YtjjkfhjkfoikbaaGreat
