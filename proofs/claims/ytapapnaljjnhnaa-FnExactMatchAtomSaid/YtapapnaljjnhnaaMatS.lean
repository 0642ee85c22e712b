/- MatchAtom of the reference. Condition: lengths within 2^20. -/
import Derived.Test.YtapapnaljjnhnaaBoundS
import Derived.Test.YtapapnaljjnhnaaHAtom
import Derived.Test.YtapapnaljjnhnaaHFact
import Derived.Test.YtapapnaljjnhnaaLat
namespace Go.Proofs.Ytapapnaljjnhnaa
open Go.RowKit
set_option linter.unusedVariables false
set_option linter.unusedSimpArgs false
theorem retE {P : Program} {f : FuncId} {args : Array Value} {w : World} {b c : Bool} (h : Calls P f args w fun e w' => e = .returned (.bool b) ∧ w = w') (hb : b = c) : Calls P f args w fun e w' => e = .returned (.bool c) ∧ w = w' := hb ▸ h
/-- What matching ends in. -/
def MaEnd (r : Option BindD) (w : World) (e : Ending) (w' : World) : Prop :=
  (r = none ∧ e = .returned (.tuple #[.agg #[.slice none 0 0, .slice none 0 0], .bool false]) ∧ Below w.heap.size w w') ∨
  ∃ (c : BindD) (v1 v2 : Value) (f1 f2 : List Nat), r = some c ∧ e = .returned (.tuple #[.agg #[v1, v2], .bool true]) ∧ ints w' v1 c.vars f1 ∧ ints w' v2 c.vals f2 ∧ Fresh w.heap.size (f1 ++ f2) ∧ Below w.heap.size w w'
theorem MaEnd.no {r : Option BindD} {w : World} {e : Ending} {w' : World} (h : r = none) (he : e = .returned (.tuple #[.agg #[.slice none 0 0, .slice none 0 0], .bool false])) (hb : Below w.heap.size w w') : MaEnd r w e w' := .inl ⟨h, he, hb⟩
theorem MaEnd.yes {r : Option BindD} {w : World} {e : Ending} {w' : World} (c : BindD) (v1 v2 : Value) (f1 f2 : List Nat) (h : r = some c) (he : e = .returned (.tuple #[.agg #[v1, v2], .bool true])) (h1 : ints w' v1 c.vars f1) (h2 : ints w' v2 c.vals f2) (h3 : Fresh w.heap.size (f1 ++ f2)) (hb : Below w.heap.size w w') : MaEnd r w e w' :=
  .inr ⟨c, v1, v2, f1, f2, h, he, h1, h2, h3, hb⟩
theorem load_bind2 {w : World} {g : Nat} {a b : Value} (h : Two w g a b) (a' b' : Value) : (loadVar 32 ⟨g, 0, none⟩).run Try.prog ((w.setCell ⟨g, 0, none⟩ a').setCell ⟨g, 1, none⟩ b') = .ok (.agg #[a', b']) ((w.setCell ⟨g, 0, none⟩ a').setCell ⟨g, 1, none⟩ b') := load2 (h.set a' b') Try.underlying32 rfl (by kernel_rfl)
theorem two_at {w : World} {n : Nat} (t : TypeId) (a b : Value) (h : w.heap.size = n) : Two (w.alloc (.cells #[a, b] t)) n a b := by subst h; exact Two.new w t a b
theorem size_al {w : World} {n : Nat} (o : Obj) (h : w.heap.size = n) : (w.alloc o).heap.size = n + 1 := by show (w.heap.push _).size = _; rw [Array.size_push, h]
theorem matchB_no1 {b : BindD} {a : AtomD} {f : FactD} (h : ¬ (a.rel = f.rel ∧ a.terms.length = f.vals.length ∧ b.vars.length = b.vals.length)) : matchB b a f = none := by unfold matchB; rw [if_neg h]
theorem matchB_go {b : BindD} {a : AtomD} {f : FactD} (h : a.rel = f.rel ∧ a.terms.length = f.vals.length ∧ b.vars.length = b.vals.length) : matchB b a f = matchL a.terms f.vals b := by unfold matchB; rw [if_pos h]
theorem ints.cell {w : World} {a : Option Addr} {cap : Nat} {l : List Int} {f : List Nat} (h : ints w (.slice a l.length cap) l f) (k : Nat) (hk : k < l.length) : ∃ g, a = some ⟨g, 0, none⟩ ∧ w.cell? ⟨g, k, none⟩ = some (.int .i64 l[k]) := by
  obtain ⟨g, hga, hc, _⟩ := h.get k hk
  exact ⟨g, hga, hc⟩
set_option maxRecDepth 100000 in
set_option maxHeartbeats 12800000 in
theorem specMatchAtom_any (b : BindD) (a : AtomD) (f : FactD) (vv va vt vx : Value) (fv fa ft fx : List Nat) (w : World) (hv : ints w vv b.vars fv) (ha : ints w va b.vals fa) (ht : ints w vt a.terms ft) (hx : ints w vx f.vals fx) (hn : b.vars.length + a.terms.length ≤ 1048576) (hn2 : b.vals.length ≤ 1048576) :
    Calls Try.prog 7 #[.agg #[vv, va], .agg #[.int .i64 a.rel, vt], .agg #[.int .i64 f.rel, vx]] w (MaEnd (matchB b a f) w) := by
  obtain ⟨av, cv, rfl⟩ := slR.form hv
  obtain ⟨aa, ca, rfl⟩ := slR.form ha
  obtain ⟨pt, qt, rfl⟩ := slR.form ht
  obtain ⟨px, qx, rfl⟩ := slR.form hx
  have hlt := slR.le_max ht
  have hlx := slR.le_max hx
  have hb0 : Below w.heap.size w ((((w.alloc (.cells #[.slice av b.vars.length cv, .slice aa b.vals.length ca] 32)).alloc (.cells #[.int .i64 a.rel, .slice pt a.terms.length qt] 36)).alloc (.cells #[.int .i64 f.rel, .slice px f.vals.length qx] 38)).alloc (.cells #[.slice none 0 0, .slice none 0 0] 32)) := ba (ba (ba (ba (Below.refl _ _))))
  have s1 := size_al (w := w) (.cells #[.slice av b.vars.length cv, .slice aa b.vals.length ca] 32) rfl
  have s2 := size_al (.cells #[.int .i64 a.rel, .slice pt a.terms.length qt] 36) s1
  have s3 := size_al (.cells #[.int .i64 f.rel, .slice px f.vals.length qx] 38) s2
  have s4 := size_al (.cells #[.slice none 0 0, .slice none 0 0] 32) s3
  have T3 : Two ((((w.alloc (.cells #[.slice av b.vars.length cv, .slice aa b.vals.length ca] 32)).alloc (.cells #[.int .i64 a.rel, .slice pt a.terms.length qt] 36)).alloc (.cells #[.int .i64 f.rel, .slice px f.vals.length qx] 38)).alloc (.cells #[.slice none 0 0, .slice none 0 0] 32)) w.heap.size (.slice av b.vars.length cv) (.slice aa b.vals.length ca) := (two_at 32 _ _ rfl).below (ba (ba (ba (Below.refl _ _))))
  have T4 : Two ((((w.alloc (.cells #[.slice av b.vars.length cv, .slice aa b.vals.length ca] 32)).alloc (.cells #[.int .i64 a.rel, .slice pt a.terms.length qt] 36)).alloc (.cells #[.int .i64 f.rel, .slice px f.vals.length qx] 38)).alloc (.cells #[.slice none 0 0, .slice none 0 0] 32)) (w.heap.size + 1) (.int .i64 a.rel) (.slice pt a.terms.length qt) := (two_at 36 _ _ s1).below (ba (ba (Below.refl _ _)))
  have T5 : Two ((((w.alloc (.cells #[.slice av b.vars.length cv, .slice aa b.vals.length ca] 32)).alloc (.cells #[.int .i64 a.rel, .slice pt a.terms.length qt] 36)).alloc (.cells #[.int .i64 f.rel, .slice px f.vals.length qx] 38)).alloc (.cells #[.slice none 0 0, .slice none 0 0] 32)) (w.heap.size + 1 + 1) (.int .i64 f.rel) (.slice px f.vals.length qx) := (two_at 38 _ _ s2).below (ba (Below.refl _ _))
  have T6 : Two ((((w.alloc (.cells #[.slice av b.vars.length cv, .slice aa b.vals.length ca] 32)).alloc (.cells #[.int .i64 a.rel, .slice pt a.terms.length qt] 36)).alloc (.cells #[.int .i64 f.rel, .slice px f.vals.length qx] 38)).alloc (.cells #[.slice none 0 0, .slice none 0 0] 32)) (w.heap.size + 1 + 1 + 1) (.slice none 0 0) (.slice none 0 0) := two_at 32 _ _ s3
  have T3' := T3
  obtain ⟨⟨a0, a1⟩, _, _⟩ := T3'
  have hcp := l4Copy_any b.vars b.vals _ _ fv fa ((((w.alloc (.cells #[.slice av b.vars.length cv, .slice aa b.vals.length ca] 32)).alloc (.cells #[.int .i64 a.rel, .slice pt a.terms.length qt] 36)).alloc (.cells #[.int .i64 f.rel, .slice px f.vals.length qx] 38)).alloc (.cells #[.slice none 0 0, .slice none 0 0] 32)) (hv.below' hb0) (ha.below' hb0) (by omega) hn2
  unfold BnEnd at hcp
  rw [s4] at hcp
  go_enter Try.func7, Try.ntmps7
  go_wp2_with fail
  refine hcp.mono ?_
  rintro e w1 ⟨v1, v2, f1, f2, rfl, i1, i2, hfr, hb1'⟩
  clear hcp a0 a1
  have hb1 : Below ((((w.alloc (.cells #[.slice av b.vars.length cv, .slice aa b.vals.length ca] 32)).alloc (.cells #[.int .i64 a.rel, .slice pt a.terms.length qt] 36)).alloc (.cells #[.int .i64 f.rel, .slice px f.vals.length qx] 38)).alloc (.cells #[.slice none 0 0, .slice none 0 0] 32)).heap.size ((((w.alloc (.cells #[.slice av b.vars.length cv, .slice aa b.vals.length ca] 32)).alloc (.cells #[.int .i64 a.rel, .slice pt a.terms.length qt] 36)).alloc (.cells #[.int .i64 f.rel, .slice px f.vals.length qx] 38)).alloc (.cells #[.slice none 0 0, .slice none 0 0] 32)) w1 := by rw [s4]; exact hb1'
  have B1 := bt hb0 hb1
  have hw1 : w.heap.size + 4 ≤ w1.heap.size := by have := hb1'.size; omega
  obtain ⟨c1, d1, rfl⟩ := slR.form i1
  obtain ⟨c2, d2, rfl⟩ := slR.form i2
  have hbx : Below w1.heap.size w1 (w1.alloc (.cells #[.slice c1 b.vars.length d1, .slice c2 b.vals.length d2] 32)) := ba (Below.refl _ _)
  have F3 := (T3.below hb1).below hbx
  have F4 := (T4.below hb1).below hbx
  have F5 := (T5.below hb1).below hbx
  have F6 := (T6.below hb1).below hbx
  have FX : Two (w1.alloc (.cells #[.slice c1 b.vars.length d1, .slice c2 b.vals.length d2] 32)) w1.heap.size (.slice c1 b.vars.length d1) (.slice c2 b.vals.length d2) := Two.new _ _ _ _
  have Bx := bt B1 hbx
  have j1 := i1.below' hbx
  have j2 := i2.below' hbx
  have Hg1 := Lib.hid (show w1.heap.size ∉ f1 ++ f2 from fun hm => by
    rcases List.mem_append.1 hm with h | h
    · have := i1.lt _ h; omega
    · have := i2.lt _ h; omega)
  have Hfr := Lib.hid hfr
  clear T3 T4 T5 T6 i1 i2 hfr hb1' hb0 s1 s2 s3 s4 hb1 hbx
  have H6 := Lib.hid F6
  have F3' := F3
  have F4' := F4
  have F5' := F5
  obtain ⟨⟨a0, a1⟩, _, _⟩ := F3'
  obtain ⟨⟨b0, b1⟩, _, _⟩ := F4'
  obtain ⟨⟨k0, k1⟩, _, _⟩ := F5'
  by_cases hr : a.rel = f.rel
  case neg =>
    have hrb : (a.rel != f.rel) = true := by simp [hr]
    have HN := Lib.hid (matchB_no1 (b := b) (a := a) (f := f) (fun h => hr h.1))
    have H4e := H6
    clear hr
    have H4y := H4e.out
    obtain ⟨⟨r0, r1⟩, q0, q1⟩ := H4y
    go_wp2
    (try simp only [Exit.inBlock, Exit.then])
    refine bodyPost_ret (v := .tuple #[.agg #[.slice none 0 0, .slice none 0 0], .bool false]) ?_ rfl ?_
    · rw [results_cell_tmp rfl]
      simp [asAddr, Result.andThen, load_bind2 H4e.out]
    · exact MaEnd.no HN.out rfl (below_two2 Bx (by omega) _ _)
  have hrb : (a.rel != f.rel) = false := by simp [hr]
  by_cases hq : a.terms.length = f.vals.length
  case neg =>
    have hqb : ((a.terms.length : Int) != (f.vals.length : Int)) = true := by simp; omega
    have HN := Lib.hid (matchB_no1 (b := b) (a := a) (f := f) (fun h => hq h.2.1))
    have H4e := H6
    clear hr hq
    have H4y := H4e.out
    obtain ⟨⟨r0, r1⟩, q0, q1⟩ := H4y
    go_wp2
    (try simp only [Exit.inBlock, Exit.then])
    refine bodyPost_ret (v := .tuple #[.agg #[.slice none 0 0, .slice none 0 0], .bool false]) ?_ rfl ?_
    · rw [results_cell_tmp rfl]
      simp [asAddr, Result.andThen, load_bind2 H4e.out]
    · exact MaEnd.no HN.out rfl (below_two2 Bx (by omega) _ _)
  have hqb : ((a.terms.length : Int) != (f.vals.length : Int)) = false := by simp [hq]
  by_cases hl : b.vars.length = b.vals.length
  case neg =>
    have hlb : ((b.vars.length : Int) != (b.vals.length : Int)) = true := by simp; omega
    have HN := Lib.hid (matchB_no1 (b := b) (a := a) (f := f) (fun h => hl h.2.2))
    have H4e := H6
    clear hr hq hl
    have H4y := H4e.out
    obtain ⟨⟨r0, r1⟩, q0, q1⟩ := H4y
    go_wp2
    (try simp only [Exit.inBlock, Exit.then])
    refine bodyPost_ret (v := .tuple #[.agg #[.slice none 0 0, .slice none 0 0], .bool false]) ?_ rfl ?_
    · rw [results_cell_tmp rfl]
      simp [asAddr, Result.andThen, load_bind2 H4e.out]
    · exact MaEnd.no HN.out rfl (below_two2 Bx (by omega) _ _)
  have hlb : ((b.vars.length : Int) != (b.vals.length : Int)) = false := by simp [hl]
  have HG := Lib.hid (matchB_go ⟨hr, hq, hl⟩)
  have Hq := Lib.hid hq
  have Hl := Lib.hid hl
  clear hr hq hl
  go_wp2
  go_loopw [9] (fun i wr => ∃ (k : Nat) (c : BindD) (v1 v2 : Value) (g1 g2 : List Nat), i = .int .i64 (k : Int) ∧ k ≤ a.terms.length ∧ Hid (matchL (a.terms.drop k) (f.vals.drop k) c = matchB b a f) ∧ Hid (c.vars.length = c.vals.length ∧ c.vars.length ≤ b.vars.length + k) ∧ Two wr w1.heap.size v1 v2 ∧ ints wr v1 c.vars g1 ∧ ints wr v2 c.vals g2 ∧ Hid (Fresh (w.heap.size + 1 + 1 + 1 + 1) (g1 ++ g2)) ∧ Hid (w1.heap.size ∉ g1 ++ g2) ∧ SX [w1.heap.size] (w1.alloc (.cells #[.slice c1 b.vars.length d1, .slice c2 b.vals.length d2] 32)) wr ∧ Below w.heap.size w wr) (fun i _ => a.terms.length - (intOf i).toNat)
  case atStart => exact ⟨0, b, _, _, f1, f2, rfl, Nat.zero_le _, Lib.hid (by rw [HG.out]; rfl), Lib.hid ⟨Hl.out, by omega⟩, FX, j1, j2, Hfr, Hg1, SX.refl _ _, Bx⟩
  case round =>
    obtain ⟨k, c, v1, v2, g1, g2, rfl, hk, HM, HLn, FQ, i1, i2, HF, HG2, hsx, Bq⟩ := hrel
    obtain ⟨p1, q1, rfl⟩ := slR.form i1
    obtain ⟨p2, q2, rfl⟩ := slR.form i2
    have F4r := F4.sx hsx (by simp; omega)
    have F5r := F5.sx hsx (by simp; omega)
    have H6r := Lib.hid (H6.out.sx hsx (by simp; omega))
    obtain ⟨⟨m0, m1⟩, _, _⟩ := F4r
    obtain ⟨⟨n0, n1⟩, _, _⟩ := F5r
    have FQ' := FQ
    obtain ⟨⟨x0, x1⟩, z0, z1⟩ := FQ'
    by_cases hlt : k < a.terms.length
    · have hkl : (k : Int) < (a.terms.length : Int) := by omega
      have hk0 : (0 : Int) ≤ (k : Int) := by omega
      have hlt2 : k < f.vals.length := by have := Hq.out; omega
      have hkl2 : (k : Int) < (f.vals.length : Int) := by omega
      obtain ⟨gt, hpt, ct⟩ := (ht.below' Bq).cell k hlt
      obtain ⟨gx, hpx, cx⟩ := (hx.below' Bq).cell k hlt2
      subst hpt hpx
      have L1 : ∀ x : Lat wr, x.wd.cell? ⟨w1.heap.size, 0, none⟩ = some (.slice p1 c.vars.length q1) := fun x => x.cell x0
      have L2 : ∀ x : Lat wr, x.wd.cell? ⟨w1.heap.size, 1, none⟩ = some (.slice p2 c.vals.length q2) := fun x => x.cell x1
      have L3 : ∀ x : Lat wr, x.wd.cell? ⟨w.heap.size + 1, 1, none⟩ = some (.slice (some ⟨gt, 0, none⟩) a.terms.length qt) := fun x => x.cell m1
      have L4 : ∀ x : Lat wr, x.wd.cell? ⟨gt, k, none⟩ = some (.int .i64 a.terms[k]) := fun x => x.cell ct
      have V1 : ∀ x : Lat wr, ints x.wd (.slice p1 c.vars.length q1) c.vars g1 := fun x => i1.below' x.ok
      have V2 : ∀ x : Lat wr, ints x.wd (.slice p2 c.vals.length q2) c.vals g2 := fun x => i2.below' x.ok
      go_wp2_with fail
      refine wp_region_lat wr (by kernel_rfl) (by kernel_rfl) ?_
      repeat (go_big_quiet_step ((go_at_call 21; exact Lat.of (specValueOf_any c _ _ g1 g2 a.terms[k] _ (V1 _) (V2 _)))))
      refine wpQuiet_nil ?_
      intro _ hw'
      obtain ⟨y1, hw''⟩ := hw'
      subst hw''
      have hb7 := y1.ok
      generalize y1.wd = w7 at hb7 ⊢
      clear L1 L2 L3 L4 V1 V2
      have c7 := cell_below ct hb7
      have F47 := (F4.sx hsx (by simp; omega)).below hb7
      obtain ⟨⟨_, m71⟩, _, _⟩ := F47
      have FQ7 := FQ.below hb7
      have FQ7' := FQ7
      obtain ⟨⟨x70, x71⟩, _, _⟩ := FQ7'
      have L1 : ∀ x : Lat w7, x.wd.cell? ⟨w1.heap.size, 0, none⟩ = some (.slice p1 c.vars.length q1) := fun x => x.cell x70
      have L2 : ∀ x : Lat w7, x.wd.cell? ⟨w1.heap.size, 1, none⟩ = some (.slice p2 c.vals.length q2) := fun x => x.cell x71
      have L3 : ∀ x : Lat w7, x.wd.cell? ⟨w.heap.size + 1, 1, none⟩ = some (.slice (some ⟨gt, 0, none⟩) a.terms.length qt) := fun x => x.cell m71
      have L4 : ∀ x : Lat w7, x.wd.cell? ⟨gt, k, none⟩ = some (.int .i64 a.terms[k]) := fun x => x.cell c7
      have V1 : ∀ x : Lat w7, ints x.wd (.slice p1 c.vars.length q1) c.vars g1 := fun x => (i1.below' hb7).below' x.ok
      have V2 : ∀ x : Lat w7, ints x.wd (.slice p2 c.vals.length q2) c.vals g2 := fun x => (i2.below' hb7).below' x.ok
      obtain ⟨_, _, _, wt⟩ := row_of_ints ht
      obtain ⟨_, _, _, wx⟩ := row_of_ints hx
      have I1 := wt _ (List.getElem_mem hlt)
      have I2 := wx _ (List.getElem_mem hlt2)
      clear wt wx
      cases hv1 : isVarB a.terms[k] with
      | false =>
        have HC := Lib.hid (show (isVarB a.terms[k] && !boundL c.vars c.vals a.terms[k]) = false by rw [hv1]; rfl)
        go_wp2_with fail
        refine wp_region_lat w7 (by kernel_rfl) (by kernel_rfl) ?_
        repeat (go_big_quiet_step ((go_at_call 22; exact Lat.eq (retE (f22_any _ _) hv1))))
        refine wpQuiet_nil ?_
        intro _ hw'
        obtain ⟨z1, hw''⟩ := hw'
        subst hw''
        have hb8 := bt hb7 z1.ok
        generalize z1.wd = w8 at hb8 ⊢
        clear L1 L2 L3 L4 V1 V2 hb7 c7 m71 FQ7 x70 x71
        have B8 := bt Bq hb8
        have FQ8 := FQ.below hb8
        have H68 := Lib.hid (H6r.out.below hb8)
        have F58 := (F5.sx hsx (by simp; omega)).below hb8
        have F48 := (F4.sx hsx (by simp; omega)).below hb8
        have c8 := cell_below ct hb8
        have d8 := cell_below cx hb8
        have s8 : SX [w1.heap.size] (w1.alloc (.cells #[.slice c1 b.vars.length d1, .slice c2 b.vals.length d2] 32)) w8 := hsx.below hb8
        have j81 := i1.below' hb8
        have j82 := i2.below' hb8
        obtain ⟨⟨_, n81⟩, _, _⟩ := F58
        obtain ⟨⟨_, m81⟩, _, _⟩ := F48
        have FQ8' := FQ8
        obtain ⟨⟨x80, x81⟩, z80, z81⟩ := FQ8'
        by_cases hy : valB c a.terms[k] = f.vals[k]
        · have HM2 := Lib.hid ((matchL_same hlt hlt2 HC.out hy).symm.trans HM.out)
          have hyb : (valB c a.terms[k] != f.vals[k]) = false := by simp [hy]
          clear hy
          go_wp2
          go_roundw
          case rel => exact ⟨k + 1, c, _, _, g1, g2, by go_num, by omega, HM2, Lib.hid ⟨HLn.out.1, by have := HLn.out.2; omega⟩, FQ8, j81, j82, HF, HG2, s8, B8⟩
          case measure => simp [intOf]; omega
        · have HN := Lib.hid (show matchB b a f = none by rw [← HM.out]; exact matchL_none hlt hlt2 HC.out hy)
          have hyb : (valB c a.terms[k] != f.vals[k]) = true := by simp [hy]
          have H4e := H68
          clear hy
          have H4y := H4e.out
          obtain ⟨⟨r0, r1⟩, q0, q1⟩ := H4y
          go_wp2
          (try simp only [Exit.inBlock, Exit.then])
          refine bodyPost_ret (v := .tuple #[.agg #[.slice none 0 0, .slice none 0 0], .bool false]) ?_ rfl ?_
          · rw [results_cell_tmp rfl]
            simp [asAddr, Result.andThen, load_bind2 H4e.out]
          · exact MaEnd.no HN.out rfl (below_two2 B8 (by omega) _ _)
      | true =>
        cases hv2 : boundL c.vars c.vals a.terms[k] with
        | true =>
          have HC := Lib.hid (show (isVarB a.terms[k] && !boundL c.vars c.vals a.terms[k]) = false by rw [hv1, hv2]; rfl)
          go_wp2_with fail
          refine wp_region_lat w7 (by kernel_rfl) (by kernel_rfl) ?_
          repeat (go_big_quiet_step ((first | (go_at_call 22; exact Lat.eq (retE (f22_any _ _) hv1)) | (go_at_call 23; exact Lat.of (retBB (l4Bound_any c _ _ g1 g2 a.terms[k] _ (V1 _) (V2 _)) hv2)))))
          refine wpQuiet_nil ?_
          intro _ hw'
          obtain ⟨z1, hw''⟩ := hw'
          subst hw''
          have hb8 := bt hb7 z1.ok
          generalize z1.wd = w8 at hb8 ⊢
          clear L1 L2 L3 L4 V1 V2 hb7 c7 m71 FQ7 x70 x71
          have B8 := bt Bq hb8
          have FQ8 := FQ.below hb8
          have H68 := Lib.hid (H6r.out.below hb8)
          have F58 := (F5.sx hsx (by simp; omega)).below hb8
          have F48 := (F4.sx hsx (by simp; omega)).below hb8
          have c8 := cell_below ct hb8
          have d8 := cell_below cx hb8
          have s8 : SX [w1.heap.size] (w1.alloc (.cells #[.slice c1 b.vars.length d1, .slice c2 b.vals.length d2] 32)) w8 := hsx.below hb8
          have j81 := i1.below' hb8
          have j82 := i2.below' hb8
          obtain ⟨⟨_, n81⟩, _, _⟩ := F58
          obtain ⟨⟨_, m81⟩, _, _⟩ := F48
          have FQ8' := FQ8
          obtain ⟨⟨x80, x81⟩, z80, z81⟩ := FQ8'
          by_cases hy : valB c a.terms[k] = f.vals[k]
          · have HM2 := Lib.hid ((matchL_same hlt hlt2 HC.out hy).symm.trans HM.out)
            have hyb : (valB c a.terms[k] != f.vals[k]) = false := by simp [hy]
            clear hy
            go_wp2
            go_roundw
            case rel => exact ⟨k + 1, c, _, _, g1, g2, by go_num, by omega, HM2, Lib.hid ⟨HLn.out.1, by have := HLn.out.2; omega⟩, FQ8, j81, j82, HF, HG2, s8, B8⟩
            case measure => simp [intOf]; omega
          · have HN := Lib.hid (show matchB b a f = none by rw [← HM.out]; exact matchL_none hlt hlt2 HC.out hy)
            have hyb : (valB c a.terms[k] != f.vals[k]) = true := by simp [hy]
            have H4e := H68
            clear hy
            have H4y := H4e.out
            obtain ⟨⟨r0, r1⟩, q0, q1⟩ := H4y
            go_wp2
            (try simp only [Exit.inBlock, Exit.then])
            refine bodyPost_ret (v := .tuple #[.agg #[.slice none 0 0, .slice none 0 0], .bool false]) ?_ rfl ?_
            · rw [results_cell_tmp rfl]
              simp [asAddr, Result.andThen, load_bind2 H4e.out]
            · exact MaEnd.no HN.out rfl (below_two2 B8 (by omega) _ _)
        | false =>
          have HC := Lib.hid (matchL_bind hlt hlt2 hv1 hv2)
          go_wp2_with fail
          refine wp_region_lat w7 (by kernel_rfl) (by kernel_rfl) ?_
          repeat (go_big_quiet_step ((first | (go_at_call 22; exact Lat.eq (retE (f22_any _ _) hv1)) | (go_at_call 23; exact Lat.of (retBB (l4Bound_any c _ _ g1 g2 a.terms[k] _ (V1 _) (V2 _)) hv2)))))
          refine wpQuiet_nil ?_
          intro _ hw'
          obtain ⟨z1, hw''⟩ := hw'
          subst hw''
          have hb8 := bt hb7 z1.ok
          generalize z1.wd = w8 at hb8 ⊢
          clear L1 L2 L3 L4 V1 V2 hb7 c7 m71 FQ7 x70 x71
          have B8 := bt Bq hb8
          have FQ8 := FQ.below hb8
          have H68 := Lib.hid (H6r.out.below hb8)
          have F58 := (F5.sx hsx (by simp; omega)).below hb8
          have F48 := (F4.sx hsx (by simp; omega)).below hb8
          have c8 := cell_below ct hb8
          have d8 := cell_below cx hb8
          have s8 : SX [w1.heap.size] (w1.alloc (.cells #[.slice c1 b.vars.length d1, .slice c2 b.vals.length d2] 32)) w8 := hsx.below hb8
          have j81 := i1.below' hb8
          have j82 := i2.below' hb8
          obtain ⟨⟨_, n81⟩, _, _⟩ := F58
          obtain ⟨⟨_, m81⟩, _, _⟩ := F48
          have FQ8' := FQ8
          obtain ⟨⟨x80, x81⟩, z80, z81⟩ := FQ8'
          have hcl : c.vars.length ≤ 1048576 := by have := HLn.out.2; omega
          have hcl2 : c.vals.length ≤ 1048576 := by have := HLn.out.1; omega
          have hqb := fun (x : World) (h1 : ints x (.slice p1 c.vars.length q1) c.vars g1) (h2 : ints x (.slice p2 c.vals.length q2) c.vals g2) => l4Bind_any c.vars c.vals _ _ g1 g2 a.terms[k] f.vals[k] x h1 h2 hcl hcl2 I1 I2
          have HM2 := Lib.hid (HC.out.symm.trans HM.out)
          have HL2 := Lib.hid (show (c.vars ++ [a.terms[k]]).length = (c.vals ++ [f.vals[k]]).length ∧ (c.vars ++ [a.terms[k]]).length ≤ b.vars.length + (k + 1) by have := HLn.out; simp; omega)
          go_wp2_with fail
          go_region_law (go_simp
                         go_wp2_with (go_at_call 24
                                      refine (hqb _ (j81.below' ?_) (j82.below' ?_)).mono ?_
                                      · (repeat (first | exact Below.refl _ _ | refine bdr ?_))
                                      · (repeat (first | exact Below.refl _ _ | refine bdr ?_))
                                      rintro e w9 ⟨u1, u2, e1, e2, rfl, l1, l2, fr9, hb9'⟩
                                      have hb9 : Below w8.heap.size w8 w9 := bt (by (repeat (first | exact Below.refl _ _ | refine bdr ?_))) hb9'
                                      have fr9' : Fresh w8.heap.size (e1 ++ e2) := fr9
                                      obtain ⟨o1, r1', rfl⟩ := slR.form l1
                                      obtain ⟨o2, r2', rfl⟩ := slR.form l2
                                      have FQ9 := FQ8.below hb9
                                      have FQ9' := FQ9
                                      obtain ⟨⟨x90, x91⟩, z90, z91⟩ := FQ9'
                                      have y90 := cell_below c8 hb9
                                      have y91 := cell_below d8 hb9
                                      have y92 := cell_below n81 hb9
                                      have y93 := cell_below m81 hb9))
          all_goals
            have E1 : (c.vars ++ [a.terms[k]]).length = c.vars.length + 1 := by simp
            have E2 : (c.vals ++ [f.vals[k]]).length = c.vals.length + 1 := by simp
            rw [E1] at l1
            rw [E2] at l2
            have h18 : w1.heap.size < w8.heap.size := FQ8.lt
            have HNm := Lib.hid (show w1.heap.size ∉ e1 ++ e2 from fun hm => by have := fr9'.2 _ hm; omega)
            have HF9 := Lib.hid (FQ9.set (.slice o1 (c.vars.length + 1) r1') (.slice o2 (c.vals.length + 1) r2'))
            have HI1 := Lib.hid (ints_two2 (g := w1.heap.size) l1 (fun hm => HNm.out (List.mem_append.2 (.inl hm))) (.slice o1 (c.vars.length + 1) r1') (.slice o2 (c.vals.length + 1) r2'))
            have HI2 := Lib.hid (ints_two2 (g := w1.heap.size) l2 (fun hm => HNm.out (List.mem_append.2 (.inr hm))) (.slice o1 (c.vars.length + 1) r1') (.slice o2 (c.vals.length + 1) r2'))
            have HS9 := Lib.hid (((s8.below hb9).setIn 0 (.slice o1 (c.vars.length + 1) r1')).setIn 1 (.slice o2 (c.vals.length + 1) r2'))
            have HB9 := Lib.hid (below_two2 (g := w1.heap.size) (bt B8 hb9) (by omega) (.slice o1 (c.vars.length + 1) r1') (.slice o2 (c.vals.length + 1) r2'))
            have HFr := Lib.hid (fr9'.mono (show w.heap.size + 1 + 1 + 1 + 1 ≤ w8.heap.size by omega))
            clear l1 l2 FQ9 fr9 fr9' E1 E2 hqb s8 hb9
            go_wp2
            go_roundw
            case rel => exact ⟨k + 1, ⟨c.vars ++ [a.terms[k]], c.vals ++ [f.vals[k]]⟩, _, _, e1, e2, by go_num, by omega, HM2, HL2, HF9.out, HI1.out, HI2.out, HFr, HNm, HS9.out, HB9.out⟩
            case measure => simp [intOf]; omega
    · have hkk : k = a.terms.length := by omega
      have HE := Lib.hid (show matchB b a f = some c by rw [← HM.out]; exact matchL_end (by omega))
      have hkl : ¬ (k : Int) < (a.terms.length : Int) := by omega
      clear hkk
      have H6s := H6r.out
      obtain ⟨⟨r0, r1⟩, t0, t1⟩ := H6s
      have Hn1 := Lib.hid (show w.heap.size + 1 + 1 + 1 ∉ g1 from fun hm => by have := HF.out.2 _ (List.mem_append.2 (.inl hm)); omega)
      have Hn2 := Lib.hid (show w.heap.size + 1 + 1 + 1 ∉ g2 from fun hm => by have := HF.out.2 _ (List.mem_append.2 (.inr hm)); omega)
      go_wp2
      (try simp only [Exit.inBlock, Exit.then])
      refine bodyPost_ret (v := .tuple #[.agg #[.slice p1 c.vars.length q1, .slice p2 c.vals.length q2], .bool true]) ?_ rfl ?_
      · rw [results_cell_tmp rfl]
        simp [asAddr, Result.andThen, load_bind2 H6r.out]
      · exact MaEnd.yes c _ _ _ _ HE.out rfl (ints_two2 i1 Hn1.out _ _) (ints_two2 i2 Hn2.out _ _) (HF.out.mono (by omega)) (below_two2 Bq (by omega) _ _)
end Go.Proofs.Ytapapnaljjnhnaa
