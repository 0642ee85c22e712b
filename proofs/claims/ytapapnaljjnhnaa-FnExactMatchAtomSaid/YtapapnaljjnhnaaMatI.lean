/- MatchAtom of the program. Condition: lengths within 2^20. -/
import Derived.Test.YtapapnaljjnhnaaApp2
namespace Go.Proofs.Ytapapnaljjnhnaa
open Go.RowKit
set_option linter.unusedVariables false
set_option linter.unusedSimpArgs false
theorem load_bind1 {w : World} {g : Nat} {a b : Value} (h : Two w g a b) : (loadVar 32 ⟨g, 0, none⟩).run Try.prog w = .ok (.agg #[a, b]) w := load2 h Try.underlying32 rfl (by kernel_rfl)
theorem gr_mem {B : Nat} {w : World} {v : Value} {l : List Int} {f : List Nat} (h : grR 3 1 intR B w v l f) : ∀ j, v.ownBlock = some j → j ∈ f := by
  obtain ⟨_, _, _, _, _, rfl, _⟩ := h
  intro j hj
  simp [hj]
def matV (wx wf gx k : Nat) (v1 v2 vx : Value) (t x : Int) : Nat → Option Value
  | 0 => some (.pointer (some ⟨wx, 0, none⟩)) | 1 => some v1 | 2 => some (.int .i64 t) | 5 => some (.pointer (some ⟨wx, 1, none⟩)) | 6 => some v2 | 7 => some (.pointer (some ⟨wf, 1, none⟩)) | 8 => some vx | 9 => some (.int .i64 (k : Int)) | 10 => some (.pointer (some ⟨gx, k, none⟩)) | 11 => some (.int .i64 x) | 14 => some (.pointer (some ⟨wx, 0, none⟩)) | _ => none
set_option maxRecDepth 100000 in
set_option maxHeartbeats 12800000 in
theorem implMatchAtom_any (b : BindD) (a : AtomD) (f : FactD) (vv va vt vx : Value) (fv fa ft fx : List Nat) (w : World) (hv : ints w vv b.vars fv) (ha : ints w va b.vals fa) (ht : ints w vt a.terms ft) (hx : ints w vx f.vals fx) (hn : b.vars.length + a.terms.length ≤ 1048576) (hn2 : b.vals.length ≤ 1048576) :
    Calls Try.prog 11 #[.agg #[vv, va], .agg #[.int .i64 a.rel, vt], .agg #[.int .i64 f.rel, vx]] w (MaEnd (matchB b a f) w) := by
  obtain ⟨av, cv, rfl⟩ := slR.form hv
  obtain ⟨aa, ca, rfl⟩ := slR.form ha
  obtain ⟨pt, qt, rfl⟩ := slR.form ht
  obtain ⟨px, qx, rfl⟩ := slR.form hx
  have hlt := slR.le_max ht
  have hlx := slR.le_max hx
  have hb0 : Below w.heap.size w ((((w.alloc (.cells #[.slice av b.vars.length cv, .slice aa b.vals.length ca] 32)).alloc (.cells #[.int .i64 a.rel, .slice pt a.terms.length qt] 36)).alloc (.cells #[.int .i64 f.rel, .slice px f.vals.length qx] 38)).alloc (.cells #[.slice none 0 0, .slice none 0 0] 32)) := ba (ba (ba (ba (Below.refl _ _))))
  have s1 := size_al (w := w) (.cells #[.slice av b.vars.length cv, .slice aa b.vals.length ca] 32) rfl
  have s2 := size_al (.cells #[.int .i64 a.rel, .slice pt a.terms.length qt] 36) s1
  have s3 := size_al (.cells #[.int .i64 f.rel, .slice px f.vals.length qx] 38) s2
  have s4 := size_al (.cells #[.slice none 0 0, .slice none 0 0] 32) s3
  have T3 : Two ((((w.alloc (.cells #[.slice av b.vars.length cv, .slice aa b.vals.length ca] 32)).alloc (.cells #[.int .i64 a.rel, .slice pt a.terms.length qt] 36)).alloc (.cells #[.int .i64 f.rel, .slice px f.vals.length qx] 38)).alloc (.cells #[.slice none 0 0, .slice none 0 0] 32)) w.heap.size (.slice av b.vars.length cv) (.slice aa b.vals.length ca) := (two_at 32 _ _ rfl).below (ba (ba (ba (Below.refl _ _))))
  have T4 : Two ((((w.alloc (.cells #[.slice av b.vars.length cv, .slice aa b.vals.length ca] 32)).alloc (.cells #[.int .i64 a.rel, .slice pt a.terms.length qt] 36)).alloc (.cells #[.int .i64 f.rel, .slice px f.vals.length qx] 38)).alloc (.cells #[.slice none 0 0, .slice none 0 0] 32)) (w.heap.size + 1) (.int .i64 a.rel) (.slice pt a.terms.length qt) := (two_at 36 _ _ s1).below (ba (ba (Below.refl _ _)))
  have T5 : Two ((((w.alloc (.cells #[.slice av b.vars.length cv, .slice aa b.vals.length ca] 32)).alloc (.cells #[.int .i64 a.rel, .slice pt a.terms.length qt] 36)).alloc (.cells #[.int .i64 f.rel, .slice px f.vals.length qx] 38)).alloc (.cells #[.slice none 0 0, .slice none 0 0] 32)) (w.heap.size + 1 + 1) (.int .i64 f.rel) (.slice px f.vals.length qx) := (two_at 38 _ _ s2).below (ba (Below.refl _ _))
  have T6 : Two ((((w.alloc (.cells #[.slice av b.vars.length cv, .slice aa b.vals.length ca] 32)).alloc (.cells #[.int .i64 a.rel, .slice pt a.terms.length qt] 36)).alloc (.cells #[.int .i64 f.rel, .slice px f.vals.length qx] 38)).alloc (.cells #[.slice none 0 0, .slice none 0 0] 32)) (w.heap.size + 1 + 1 + 1) (.slice none 0 0) (.slice none 0 0) := two_at 32 _ _ s3
  have H6 := Lib.hid T6
  have T3' := T3
  have T4' := T4
  have T5' := T5
  obtain ⟨⟨a0, a1⟩, _, _⟩ := T3'
  obtain ⟨⟨b0, b1⟩, _, _⟩ := T4'
  obtain ⟨⟨k0, k1⟩, _, _⟩ := T5'
  have hcp := copyBinding_own b.vars b.vals _ _ fv fa ((((w.alloc (.cells #[.slice av b.vars.length cv, .slice aa b.vals.length ca] 32)).alloc (.cells #[.int .i64 a.rel, .slice pt a.terms.length qt] 36)).alloc (.cells #[.int .i64 f.rel, .slice px f.vals.length qx] 38)).alloc (.cells #[.slice none 0 0, .slice none 0 0] 32)) (hv.below' hb0) (ha.below' hb0) (by omega) hn2
  unfold BgEnd at hcp
  rw [s4] at hcp
  clear T6
  by_cases hr : a.rel = f.rel
  case neg =>
    have hrb : (a.rel != f.rel) = true := by simp [hr]
    have HN := Lib.hid (matchB_no1 (b := b) (a := a) (f := f) (fun h => hr h.1))
    have H4e := H6
    clear hr
    go_enter Try.func11, Try.ntmps11
    have H4y := H4e.out
    obtain ⟨⟨r0, r1⟩, q0, q1⟩ := H4y
    go_wp2
    (try simp only [Exit.inBlock, Exit.then])
    refine bodyPost_ret (v := .tuple #[.agg #[.slice none 0 0, .slice none 0 0], .bool false]) ?_ rfl ?_
    · rw [results_cell_tmp rfl]
      simp [asAddr, Result.andThen, load_bind1 H4e.out]
    · exact MaEnd.no HN.out rfl hb0
  have hrb : (a.rel != f.rel) = false := by simp [hr]
  by_cases hq : a.terms.length = f.vals.length
  case neg =>
    have hqb : ((a.terms.length : Int) != (f.vals.length : Int)) = true := by simp; omega
    have HN := Lib.hid (matchB_no1 (b := b) (a := a) (f := f) (fun h => hq h.2.1))
    have H4e := H6
    clear hr hq
    go_enter Try.func11, Try.ntmps11
    have H4y := H4e.out
    obtain ⟨⟨r0, r1⟩, q0, q1⟩ := H4y
    go_wp2
    (try simp only [Exit.inBlock, Exit.then])
    refine bodyPost_ret (v := .tuple #[.agg #[.slice none 0 0, .slice none 0 0], .bool false]) ?_ rfl ?_
    · rw [results_cell_tmp rfl]
      simp [asAddr, Result.andThen, load_bind1 H4e.out]
    · exact MaEnd.no HN.out rfl hb0
  have hqb : ((a.terms.length : Int) != (f.vals.length : Int)) = false := by simp [hq]
  by_cases hl : b.vars.length = b.vals.length
  case neg =>
    have hlb : ((b.vars.length : Int) != (b.vals.length : Int)) = true := by simp; omega
    have HN := Lib.hid (matchB_no1 (b := b) (a := a) (f := f) (fun h => hl h.2.2))
    have H4e := H6
    clear hr hq hl
    go_enter Try.func11, Try.ntmps11
    have H4y := H4e.out
    obtain ⟨⟨r0, r1⟩, q0, q1⟩ := H4y
    go_wp2
    (try simp only [Exit.inBlock, Exit.then])
    refine bodyPost_ret (v := .tuple #[.agg #[.slice none 0 0, .slice none 0 0], .bool false]) ?_ rfl ?_
    · rw [results_cell_tmp rfl]
      simp [asAddr, Result.andThen, load_bind1 H4e.out]
    · exact MaEnd.no HN.out rfl hb0
  have hlb : ((b.vars.length : Int) != (b.vals.length : Int)) = false := by simp [hl]
  have HG := Lib.hid (matchB_go ⟨hr, hq, hl⟩)
  have Hq := Lib.hid hq
  have Hl := Lib.hid hl
  clear hr hq hl
  go_enter Try.func11, Try.ntmps11
  go_wp2_with fail
  refine hcp.mono ?_
  rintro e w1 ⟨v1, v2, f1, f2, rfl, i1, i2, hfr, hb1'⟩
  clear hcp a0 a1 b0 b1 k0 k1
  have hb1 : Below ((((w.alloc (.cells #[.slice av b.vars.length cv, .slice aa b.vals.length ca] 32)).alloc (.cells #[.int .i64 a.rel, .slice pt a.terms.length qt] 36)).alloc (.cells #[.int .i64 f.rel, .slice px f.vals.length qx] 38)).alloc (.cells #[.slice none 0 0, .slice none 0 0] 32)).heap.size ((((w.alloc (.cells #[.slice av b.vars.length cv, .slice aa b.vals.length ca] 32)).alloc (.cells #[.int .i64 a.rel, .slice pt a.terms.length qt] 36)).alloc (.cells #[.int .i64 f.rel, .slice px f.vals.length qx] 38)).alloc (.cells #[.slice none 0 0, .slice none 0 0] 32)) w1 := by rw [s4]; exact hb1'
  have B1 := bt hb0 hb1
  have hw1 : w.heap.size + 4 ≤ w1.heap.size := by have := hb1'.size; omega
  obtain ⟨c1, d1, rfl⟩ := slR.form i1.sl
  obtain ⟨c2, d2, rfl⟩ := slR.form i2.sl
  have hbx : Below w1.heap.size w1 (w1.alloc (.cells #[.slice c1 b.vars.length d1, .slice c2 b.vals.length d2] 32)) := ba (Below.refl _ _)
  have F4 := (T4.below hb1).below hbx
  have F5 := (T5.below hb1).below hbx
  have H6x := Lib.hid ((H6.out.below hb1).below hbx)
  have FX : Two (w1.alloc (.cells #[.slice c1 b.vars.length d1, .slice c2 b.vals.length d2] 32)) w1.heap.size (.slice c1 b.vars.length d1) (.slice c2 b.vals.length d2) := Two.new _ _ _ _
  have Bx := bt B1 hbx
  have j1 := i1.below' good_int hbx
  have j2 := i2.below' good_int hbx
  have Hg1 := Lib.hid (show w1.heap.size ∉ f1 ++ f2 from fun hm => by
    rcases List.mem_append.1 hm with h | h
    · have := i1.lt good_int _ h; omega
    · have := i2.lt good_int _ h; omega)
  have Hfr := Lib.hid hfr
  have F4' := F4
  obtain ⟨⟨b0, b1⟩, _, _⟩ := F4'
  clear T3 T4 T5 i1 i2 hfr hb1' hb0 s1 s2 s3 s4 hb1 hbx
  go_wp2
  go_loopw [40] (fun i wr => ∃ (k : Nat) (c : BindD) (v1 v2 : Value) (g1 g2 : List Nat), i = .int .i64 (k : Int) ∧ k ≤ a.terms.length ∧ Hid (matchL (a.terms.drop k) (f.vals.drop k) c = matchB b a f) ∧ Hid (c.vars.length = c.vals.length ∧ c.vars.length ≤ b.vars.length + k) ∧ Two wr w1.heap.size v1 v2 ∧ grR 3 1 intR (w.heap.size + 1 + 1 + 1 + 1) wr v1 c.vars g1 ∧ grR 3 1 intR (w.heap.size + 1 + 1 + 1 + 1) wr v2 c.vals g2 ∧ Hid (Fresh (w.heap.size + 1 + 1 + 1 + 1) (g1 ++ g2)) ∧ Hid (w1.heap.size ∉ g1 ++ g2) ∧ Hid (Two wr (w.heap.size + 1 + 1) (.int .i64 f.rel) (.slice px f.vals.length qx)) ∧ Hid (Two wr (w.heap.size + 1 + 1 + 1) (.slice none 0 0) (.slice none 0 0)) ∧ Below w.heap.size w wr) (fun i _ => a.terms.length - (intOf i).toNat)
  case atStart => exact ⟨0, b, _, _, f1, f2, rfl, Nat.zero_le _, Lib.hid (by rw [HG.out]; rfl), Lib.hid ⟨Hl.out, by omega⟩, FX, j1, j2, Hfr, Hg1, Lib.hid F5, H6x, Bx⟩
  case round =>
    obtain ⟨k, c, v1, v2, g1, g2, rfl, hk, HM, HLn, FQ, hg1, hg2, HF, HG2, HF5, H6r, Bq⟩ := hrel
    obtain ⟨p1, q1, rfl⟩ := slR.form hg1.sl
    obtain ⟨p2, q2, rfl⟩ := slR.form hg2.sl
    have i1 : ints wr (.slice p1 c.vars.length q1) c.vars g1 := hg1.sl
    have i2 : ints wr (.slice p2 c.vals.length q2) c.vals g2 := hg2.sl
    have F5r := HF5.out
    obtain ⟨⟨n0, n1⟩, _, _⟩ := F5r
    have FQ' := FQ
    obtain ⟨⟨x0, x1⟩, z0, z1⟩ := FQ'
    by_cases hlt : k < a.terms.length
    · have hkl : (k : Int) < (a.terms.length : Int) := by omega
      have hk0 : (0 : Int) ≤ (k : Int) := by omega
      have hlt2 : k < f.vals.length := by have := Hq.out; omega
      have hkl2 : (k : Int) < (f.vals.length : Int) := by omega
      obtain ⟨gt, hpt, ct⟩ := (ht.below' Bq).cell k hlt
      obtain ⟨gx, hpx, cx⟩ := (hx.below' Bq).cell k hlt2
      subst hpt hpx
      obtain ⟨_, _, _, wt⟩ := row_of_ints ht
      obtain ⟨_, _, _, wx⟩ := row_of_ints hx
      have I1 := wt _ (List.getElem_mem hlt)
      have I2 := wx _ (List.getElem_mem hlt2)
      clear wt wx
      cases hv1 : isVarB a.terms[k] with
      | false =>
        have HC := Lib.hid (show (isVarB a.terms[k] && !boundL c.vars c.vals a.terms[k]) = false by rw [hv1]; rfl)
        go_wp2_with fail
        refine (retE (f27_any _ _) hv1).mono ?_
        rintro e w7 ⟨rfl, rfl⟩
        obtain ⟨w8, ew8⟩ : ∃ x, x = wr := ⟨_, rfl⟩
        have hb8 : Below wr.heap.size wr w8 := by rw [ew8]; exact Below.refl _ _
        rw [← ew8]
        clear ew8
        have B8 := bt Bq hb8
        have FQ8 := FQ.below hb8
        have H68 := Lib.hid (H6r.out.below hb8)
        have F58 := HF5.out.below hb8
        have HF58 := Lib.hid F58
        have c8 := cell_below ct hb8
        have d8 := cell_below cx hb8
        have j81 := hg1.below' good_int hb8
        have j82 := hg2.below' good_int hb8
        obtain ⟨⟨_, n81⟩, _, _⟩ := F58
        have FQ8' := FQ8
        obtain ⟨⟨x80, x81⟩, z80, z81⟩ := FQ8'
        by_cases hy : valB c a.terms[k] = f.vals[k]
        · have HM2 := Lib.hid ((matchL_same hlt hlt2 HC.out hy).symm.trans HM.out)
          have hyb : (valB c a.terms[k] != f.vals[k]) = false := by simp [hy]
          clear hy
          have L1 : ∀ x : Lat w8, x.wd.cell? ⟨w1.heap.size, 0, none⟩ = some (.slice p1 (c.vars.length) q1) := fun x => x.cell x80
          have L2 : ∀ x : Lat w8, x.wd.cell? ⟨w1.heap.size, 1, none⟩ = some (.slice p2 (c.vals.length) q2) := fun x => x.cell x81
          have L3 : ∀ x : Lat w8, x.wd.cell? ⟨w.heap.size + 1 + 1, 1, none⟩ = some (.slice (some ⟨gx, 0, none⟩) f.vals.length qx) := fun x => x.cell n81
          have L4 : ∀ x : Lat w8, x.wd.cell? ⟨gx, k, none⟩ = some (.int .i64 f.vals[k]) := fun x => x.cell d8
          have V1 : ∀ x : Lat w8, ints x.wd (.slice p1 (c.vars.length) q1) c.vars g1 := fun x => (i1.below' hb8).below' x.ok
          have V2 : ∀ x : Lat w8, ints x.wd (.slice p2 (c.vals.length) q2) c.vals g2 := fun x => (i2.below' hb8).below' x.ok
          go_wp2_with fail
          refine wp_region_lat w8 (by kernel_rfl) (by kernel_rfl) ?_
          repeat (go_big_quiet_step ((go_at_call 29; exact Lat.of (implValueOf_any c _ _ g1 g2 a.terms[k] _ (V1 _) (V2 _)))))
          refine wpQuiet_nil ?_
          intro _ hw'
          obtain ⟨y1, hw''⟩ := hw'
          subst hw''
          have hb9 := y1.ok
          generalize y1.wd = w9 at hb9 ⊢
          clear L1 L2 L3 L4 V1 V2
          go_wp2
          go_roundw
          case rel => exact ⟨k + 1, c, _, _, g1, g2, by go_num, by omega, HM2, Lib.hid ⟨HLn.out.1, by have := HLn.out.2; omega⟩, FQ8.below hb9, j81.below' good_int hb9, j82.below' good_int hb9, HF, HG2, Lib.hid (HF58.out.below hb9), Lib.hid (H68.out.below hb9), bt B8 hb9⟩
          case measure => simp [intOf]; omega
        · have HN := Lib.hid (show matchB b a f = none by rw [← HM.out]; exact matchL_none hlt hlt2 HC.out hy)
          have hyb : (valB c a.terms[k] != f.vals[k]) = true := by simp [hy]
          clear hy
          have L1 : ∀ x : Lat w8, x.wd.cell? ⟨w1.heap.size, 0, none⟩ = some (.slice p1 (c.vars.length) q1) := fun x => x.cell x80
          have L2 : ∀ x : Lat w8, x.wd.cell? ⟨w1.heap.size, 1, none⟩ = some (.slice p2 (c.vals.length) q2) := fun x => x.cell x81
          have L3 : ∀ x : Lat w8, x.wd.cell? ⟨w.heap.size + 1 + 1, 1, none⟩ = some (.slice (some ⟨gx, 0, none⟩) f.vals.length qx) := fun x => x.cell n81
          have L4 : ∀ x : Lat w8, x.wd.cell? ⟨gx, k, none⟩ = some (.int .i64 f.vals[k]) := fun x => x.cell d8
          have V1 : ∀ x : Lat w8, ints x.wd (.slice p1 (c.vars.length) q1) c.vars g1 := fun x => (i1.below' hb8).below' x.ok
          have V2 : ∀ x : Lat w8, ints x.wd (.slice p2 (c.vals.length) q2) c.vals g2 := fun x => (i2.below' hb8).below' x.ok
          go_wp2_with fail
          refine wp_region_lat w8 (by kernel_rfl) (by kernel_rfl) ?_
          repeat (go_big_quiet_step ((go_at_call 29; exact Lat.of (implValueOf_any c _ _ g1 g2 a.terms[k] _ (V1 _) (V2 _)))))
          refine wpQuiet_nil ?_
          intro _ hw'
          obtain ⟨y1, hw''⟩ := hw'
          subst hw''
          have hb9 := y1.ok
          generalize y1.wd = w9 at hb9 ⊢
          clear L1 L2 L3 L4 V1 V2
          have H4e := Lib.hid (H68.out.below hb9)
          have H4y := H4e.out
          obtain ⟨⟨r0, r1⟩, q0, q1⟩ := H4y
          go_wp2
          (try simp only [Exit.inBlock, Exit.then])
          refine bodyPost_ret (v := .tuple #[.agg #[.slice none 0 0, .slice none 0 0], .bool false]) ?_ rfl ?_
          · rw [results_cell_tmp rfl]
            simp [asAddr, Result.andThen, load_bind2 H4e.out]
          · exact MaEnd.no HN.out rfl (below_two2 (bt B8 hb9) (by omega) _ _)
      | true =>
        have hsp := entryL_spec c.vars c.vals a.terms[k]
        by_cases he : entryL c.vars c.vals a.terms[k] < 0
        · have HC := Lib.hid (matchL_bind hlt hlt2 hv1 (hsp.1 he).1)
          go_wp2_with fail
          refine (retE (f27_any _ _) hv1).mono ?_
          rintro e w7 ⟨rfl, rfl⟩
          go_wp2_with fail
          refine (entry_any c _ _ g1 g2 a.terms[k] _ i1 i2).mono ?_
          rintro e w8 ⟨rfl, hb8⟩
          have B8 := bt Bq hb8
          have FQ8 := FQ.below hb8
          have H68 := Lib.hid (H6r.out.below hb8)
          have F58 := HF5.out.below hb8
          have HF58 := Lib.hid F58
          have c8 := cell_below ct hb8
          have d8 := cell_below cx hb8
          have j81 := hg1.below' good_int hb8
          have j82 := hg2.below' good_int hb8
          obtain ⟨⟨_, n81⟩, _, _⟩ := F58
          have FQ8' := FQ8
          obtain ⟨⟨x80, x81⟩, z80, z81⟩ := FQ8'
          have hle : w.heap.size + 1 + 1 + 1 + 1 ≤ w8.heap.size := by have := FQ8.lt; omega
          have hcb := cutW_below hle
          have hA := j81
          have hB0 := j82
          rw [← cutW_size hle] at hA hB0
          have hlc : c.vars.length ≤ 1048576 := by have := HLn.out.2; omega
          have hlc2 : c.vals.length ≤ 1048576 := by have := HLn.out.1; omega
          have h18 : w1.heap.size < w8.heap.size := FQ8.lt
          have hdj : ∀ g ∈ g1, g ∉ g2 := fun g hg hg2' => (List.nodup_append.1 HF.out.1).2.2 g hg g hg2' rfl
          have hgxl : gx < w.heap.size := by
            obtain ⟨gx', hgx', cgx⟩ := hx.cell k hlt2
            cases hgx'
            exact lt_of_cell cgx
          have cellf : ∀ w', Below (cutW w8 (w.heap.size + 1 + 1 + 1 + 1)).heap.size (cutW w8 (w.heap.size + 1 + 1 + 1 + 1)) w' → w'.cell? ⟨w.heap.size + 1 + 1, 1, none⟩ = some (.slice (some ⟨gx, 0, none⟩) f.vals.length qx) ∧ w'.cell? ⟨gx, k, none⟩ = some (.int .i64 f.vals[k]) := by
            intro w' hbl
            refine ⟨(cell_cut hle hbl (by omega)).trans n81, (cell_cut hle hbl (by omega)).trans d8⟩
          have HM2 := Lib.hid (HC.out.symm.trans HM.out)
          have HL2 := Lib.hid (show (c.vars ++ [a.terms[k]]).length = (c.vals ++ [f.vals[k]]).length ∧ (c.vars ++ [a.terms[k]]).length ≤ b.vars.length + (k + 1) by have := HLn.out; simp; omega)
          have hyv : valB ⟨c.vars ++ [a.terms[k]], c.vals ++ [f.vals[k]]⟩ a.terms[k] = f.vals[k] := by
            unfold valB
            rw [hv1, if_pos rfl]
            exact lookL_new HLn.out.1 (hsp.1 he).1
          go_wp2_with fail
          refine wp_region_any (by kernel_rfl) ?_
          generalize hact : Act.mk _ _ = a0
          have t5 : a0.eval (.tmp 5) = .pointer (some ⟨w.heap.size + 1 + 1, 0, none⟩) := by rw [← hact]; rfl
          have t8 : a0.eval (.tmp 8) = .pointer (some ⟨w1.heap.size, 0, none⟩) := by rw [← hact]; rfl
          have t9 : a0.eval (.tmp 9) = .int .i64 (k : Int) := by rw [← hact]; rfl
          have t10 : a0.eval (.tmp 10) = .int .i64 a.terms[k] := by rw [← hact]; rfl
          have tsz : a0.tmps.size = 81 := by rw [← hact]; rfl
          have tdf : a0.defers = [] := by rw [← hact]
          refine wpAny_inv (J8 3 81 (cutW w8 (w.heap.size + 1 + 1 + 1 + 1)) w8 a0 w1.heap.size (matV w1.heap.size (w.heap.size + 1 + 1) gx k (.slice p1 c.vars.length q1) (.slice p2 c.vals.length q2) (.slice (some ⟨gx, 0, none⟩) f.vals.length qx) a.terms[k] f.vals[k]) (.slice p1 c.vars.length q1) (.slice p2 c.vals.length q2) c.vars c.vals g1 g2 a.terms[k] f.vals[k]) ?_ ?_ ?_ _ _ _ _ ?_ ?_
          · exact fun L a w h => h.1.size
          · intro L A w' i hI hi
            clear hact H6 HG Hq Hl F4 F5 H6x FX Bx j1 j2 Hg1 Hfr HF HC HM2 HL2 hyv hsp he HM HLn HF5 H6r hg1 hg2 i1 i2 H68 HF58 B8 FQ
            obtain ⟨g1', g2', g3⟩ := ready_iff hi
            have g1'' : i < 18 := g1'
            have hoff : L.getD i false = false := by
              have h9 : i < L.size := by rw [hI.1.size]; exact g1''
              simpa [Array.getD, h9] using g2'
            clear g2' hi g1'
            have e5 := (hI.1.old 5 (.inl (by omega))).trans t5
            have e8 := (hI.1.old 8 (.inl (by omega))).trans t8
            have e9 := (hI.1.old 9 (.inl (by omega))).trans t9
            have e10 := (hI.1.old 10 (.inl (by omega))).trans t10
            obtain ⟨tm, df⟩ := A
            obtain rfl : df = [] := hI.1.df
            simp only [Act.eval, Array.getD_eq_getD_getElem?] at e5 e8 e9 e10
            rcases (show i = 0 ∨ i = 1 ∨ i = 2 ∨ i = 3 ∨ i = 4 ∨ i = 5 ∨ i = 6 ∨ i = 7 ∨ i = 8 ∨ i = 9 ∨ i = 10 ∨ i = 11 ∨ i = 12 ∨ i = 13 ∨ i = 14 ∨ i = 15 ∨ i = 16 ∨ i = 17 by omega) with rfl | rfl | rfl | rfl | rfl | rfl | rfl | rfl | rfl | rfl | rfl | rfl | rfl | rfl | rfl | rfl | rfl | rfl
            · refine wpOp_some (by rfl) (by rfl) ?_
              go_simp
              exact hI.quiet (by omega) 0 (by omega) (by omega) hoff _ (fun u hu => by cases hu; rfl) (by simp [depL])
            · simp [Region.binds] at g3
              have hB := hI.box (i := 1) (by omega) hoff FQ8 HG2.out
              obtain ⟨⟨k0, k1⟩, _, _⟩ := hB
              have d0 := hI.1.det 0 _ (by omega) (opt_on (by simp only [g3])) rfl
              simp only [Act.eval, Array.getD_eq_getD_getElem?, Nat.reduceAdd] at d0
              refine wpOp_some (by rfl) (by rfl) ?_
              go_simp
              exact hI.quiet (by omega) 1 (by omega) (by omega) hoff _ (fun u hu => by cases hu; rfl) (by simp [depL])
            · refine wpOp_some (by rfl) (by rfl) ?_
              go_simp
              exact hI.quiet (by omega) 2 (by omega) (by omega) hoff _ (fun u hu => by cases hu; rfl) (by simp [depL])
            · simp [Region.binds] at g3
              have d2 := hI.1.det 2 _ (by omega) (opt_on (by simp only [g3])) rfl
              simp only [Act.eval, Array.getD_eq_getD_getElem?, Nat.reduceAdd] at d2
              refine wpOp_some (by rfl) (by rfl) ?_
              go_simp
              exact hI.lit1 (by omega) hoff rfl
            · simp [Region.binds] at g3
              exact wpOp_some (by rfl) (by rfl) (J8.app1 slInt rfl rfl hI (by omega) hoff (opt_on (by simp only [g3])) (opt_on (by simp only [g3])) rfl rfl I1 hlc (by omega))
            · refine wpOp_some (by rfl) (by rfl) ?_
              go_simp
              exact hI.quiet (by omega) 5 (by omega) (by omega) hoff _ (fun u hu => by cases hu; rfl) (by simp [depL])
            · simp [Region.binds] at g3
              have hB := hI.box (i := 6) (by omega) hoff FQ8 HG2.out
              obtain ⟨⟨k0, k1⟩, _, _⟩ := hB
              have d5 := hI.1.det 5 _ (by omega) (opt_on (by simp only [g3])) rfl
              simp only [Act.eval, Array.getD_eq_getD_getElem?, Nat.reduceAdd] at d5
              refine wpOp_some (by rfl) (by rfl) ?_
              go_simp
              exact hI.quiet (by omega) 6 (by omega) (by omega) hoff _ (fun u hu => by cases hu; rfl) (by simp [depL])
            · refine wpOp_some (by rfl) (by rfl) ?_
              go_simp
              exact hI.quiet (by omega) 7 (by omega) (by omega) hoff _ (fun u hu => by cases hu; rfl) (by simp [depL])
            · simp [Region.binds] at g3
              have hBl := (hI.pre (i := 8) (by omega) hoff).2.2.1
              have hc8 := cellf w' hBl
              obtain ⟨k0, k1⟩ := hc8
              have d7 := hI.1.det 7 _ (by omega) (opt_on (by simp only [g3])) rfl
              simp only [Act.eval, Array.getD_eq_getD_getElem?, Nat.reduceAdd] at d7
              refine wpOp_some (by rfl) (by rfl) ?_
              go_simp
              exact hI.quiet (by omega) 8 (by omega) (by omega) hoff _ (fun u hu => by cases hu; rfl) (by simp [depL, g3])
            · refine wpOp_some (by rfl) (by rfl) ?_
              go_simp
              exact hI.quiet (by omega) 9 (by omega) (by omega) hoff _ (fun u hu => by cases hu; rfl) (by simp [depL])
            · simp [Region.binds] at g3
              have hk0' : (0 : Int) ≤ (k : Int) := by omega
              have d8 := hI.1.det 8 _ (by omega) (opt_on (by simp only [g3])) rfl
              simp only [Act.eval, Array.getD_eq_getD_getElem?, Nat.reduceAdd] at d8
              have d9 := hI.1.det 9 _ (by omega) (opt_on (by simp only [g3])) rfl
              simp only [Act.eval, Array.getD_eq_getD_getElem?, Nat.reduceAdd] at d9
              refine wpOp_some (by rfl) (by rfl) ?_
              go_simp
              exact hI.quiet (by omega) 10 (by omega) (by omega) hoff _ (fun u hu => by cases hu; rfl) (by simp [depL, g3])
            · simp [Region.binds] at g3
              have hBl := (hI.pre (i := 11) (by omega) hoff).2.2.1
              have hc8 := cellf w' hBl
              obtain ⟨k0, k1⟩ := hc8
              have d10 := hI.1.det 10 _ (by omega) (opt_on (by simp only [g3])) rfl
              simp only [Act.eval, Array.getD_eq_getD_getElem?, Nat.reduceAdd] at d10
              refine wpOp_some (by rfl) (by rfl) ?_
              go_simp
              exact hI.quiet (by omega) 11 (by omega) (by omega) hoff _ (fun u hu => by cases hu; rfl) (by simp [depL, g3])
            · simp [Region.binds] at g3
              have d11 := hI.1.det 11 _ (by omega) (opt_on (by simp only [g3])) rfl
              simp only [Act.eval, Array.getD_eq_getD_getElem?, Nat.reduceAdd] at d11
              refine wpOp_some (by rfl) (by rfl) ?_
              go_simp
              exact hI.lit2 (by omega) hoff rfl (opt_on (by simp only [g3]))
            · simp [Region.binds] at g3
              exact wpOp_some (by rfl) (by rfl) (J8.app2 slInt rfl rfl hI (by omega) hoff (opt_on (by simp only [g3])) (opt_on (by simp only [g3])) rfl rfl I2 hlc2 (by omega))
            · refine wpOp_some (by rfl) (by rfl) ?_
              go_simp
              exact hI.quiet (by omega) 14 (by omega) (by omega) hoff _ (fun u hu => by cases hu; rfl) (by simp [depL])
            · simp [Region.binds] at g3
              have hall := hI.1.all15 (fun i hi => by
                rcases (show i = 0 ∨ i = 1 ∨ i = 2 ∨ i = 3 ∨ i = 4 ∨ i = 5 ∨ i = 6 by omega) with rfl | rfl | rfl | rfl | rfl | rfl | rfl <;> exact opt_on (by simp only [g3])) (opt_on (by simp only [g3])) (opt_on (by simp only [g3]))
              have hS := hI.store1 hoff hall
              have d14 := hI.1.det 14 _ (by omega) (hall 14 (by omega)) rfl
              obtain ⟨p, n, q, e57⟩ := hI.v57 hoff (hall 4 (by omega))
              have hB := hI.boxP hoff FQ8 HG2.out
              obtain ⟨⟨k0, k1⟩, z0, z1⟩ := hB
              rw [e57] at hS
              simp only [Act.eval, Array.getD_eq_getD_getElem?, Nat.reduceAdd] at d14 e57
              generalize J8 3 81 (cutW w8 (w.heap.size + 1 + 1 + 1 + 1)) w8 a0 w1.heap.size (matV w1.heap.size (w.heap.size + 1 + 1) gx k (.slice p1 c.vars.length q1) (.slice p2 c.vals.length q2) (.slice (some ⟨gx, 0, none⟩) f.vals.length qx) a.terms[k] f.vals[k]) (.slice p1 c.vars.length q1) (.slice p2 c.vals.length q2) c.vars c.vals g1 g2 a.terms[k] f.vals[k] (L.setIfInBounds 15 true) = K at hS ⊢
              clear hall hI g3
              refine wpOp_some (by rfl) (by rfl) ?_
              go_simp
              exact hS
            · refine wpOp_some (by rfl) (by rfl) ?_
              go_simp
              exact hI.q16 (by omega)
            · simp [Region.binds] at g3
              have h15 : L.getD 15 false = true := opt_on (by simp only [g3])
              have hS := hI.store2 h15 hoff
              have d16 := hI.1.d16 (opt_on (by simp only [g3]))
              obtain ⟨p, n, q, e66⟩ := hI.v66 h15
              obtain ⟨r', hB⟩ := hI.boxQ h15 hoff FQ8 HG2.out
              obtain ⟨⟨k0, k1⟩, z0, z1⟩ := hB
              rw [e66] at hS
              simp only [Act.eval, Array.getD_eq_getD_getElem?, Nat.reduceAdd] at d16 e66
              generalize J8 3 81 (cutW w8 (w.heap.size + 1 + 1 + 1 + 1)) w8 a0 w1.heap.size (matV w1.heap.size (w.heap.size + 1 + 1) gx k (.slice p1 c.vars.length q1) (.slice p2 c.vals.length q2) (.slice (some ⟨gx, 0, none⟩) f.vals.length qx) a.terms[k] f.vals[k]) (.slice p1 c.vars.length q1) (.slice p2 c.vals.length q2) c.vars c.vals g1 g2 a.terms[k] f.vals[k] (L.setIfInBounds 17 true) = K at hS ⊢
              clear hI g3
              refine wpOp_some (by rfl) (by rfl) ?_
              go_simp
              exact hS
          · intro L A w' hI hr
            have hall := all_listed hI.1.size (by kernel_rfl) hr
            have hdf := hI.1.df
            have htz := hI.1.tsz
            have hold := hI.1.old
            clear hr
            rcases hI.2 with ⟨h15, _⟩ | ⟨_, _, w4, r1, f1', r2, f2', b4, s4, o1, o2, u1, u2, hdis, e66, hfin⟩
            · rw [hall 15 (by exact (by decide : 15 < 18))] at h15; cases h15
            rcases hfin with ⟨h17, _⟩ | ⟨_, rfl⟩
            · rw [hall 17 (by exact (by decide : 17 < 18))] at h17; cases h17
            clear hall hI e66
            obtain ⟨tm, df⟩ := A
            obtain rfl : df = [] := hdf
            subst hact
            obtain ⟨r53, hr53, htm⟩ := frame_split2 (n := 53) (m := 16) (q := 12) htz (by rfl) hold
            obtain ⟨y53, r54, rfl, hr54⟩ := list_succ hr53
            obtain ⟨y54, r55, rfl, hr55⟩ := list_succ hr54
            obtain ⟨y55, r56, rfl, hr56⟩ := list_succ hr55
            obtain ⟨y56, r57, rfl, hr57⟩ := list_succ hr56
            obtain ⟨y57, r58, rfl, hr58⟩ := list_succ hr57
            obtain ⟨y58, r59, rfl, hr59⟩ := list_succ hr58
            obtain ⟨y59, r60, rfl, hr60⟩ := list_succ hr59
            obtain ⟨y60, r61, rfl, hr61⟩ := list_succ hr60
            obtain ⟨y61, r62, rfl, hr62⟩ := list_succ hr61
            obtain ⟨y62, r63, rfl, hr63⟩ := list_succ hr62
            obtain ⟨y63, r64, rfl, hr64⟩ := list_succ hr63
            obtain ⟨y64, r65, rfl, hr65⟩ := list_succ hr64
            obtain ⟨y65, r66, rfl, hr66⟩ := list_succ hr65
            obtain ⟨y66, r67, rfl, hr67⟩ := list_succ hr66
            obtain ⟨y67, r68, rfl, hr68⟩ := list_succ hr67
            obtain ⟨y68, r69, rfl, hr69⟩ := list_succ hr68
            obtain rfl := list_zero hr69
            simp only [List.take_succ_cons, List.take_zero, List.cons_append, List.nil_append, Nat.reduceAdd, List.drop_succ_cons, List.drop_zero] at htm
            subst htm
            clear hold htz t5 t8 t9 t10 tsz tdf
            have hwx1 : w1.heap.size ∉ f1' := fun hm => (u1 _ hm).elim (fun h => HG2.out (List.mem_append.2 (.inl h))) (fun h => by omega)
            have hwx2 : w1.heap.size ∉ f2' := fun hm => (u2 _ hm).elim (fun h => HG2.out (List.mem_append.2 (.inr h))) (fun h => by omega)
            rw [cutW_size hle] at o1 o2
            obtain ⟨p3, q3, rfl⟩ := slR.form o1.sl
            obtain ⟨p4, q4, rfl⟩ := slR.form o2.sl
            have FN := (FQ8.sx s4 HG2.out).set (.slice p3 (c.vars ++ [a.terms[k]]).length q3) (.slice p4 (c.vals ++ [f.vals[k]]).length q4)
            have o1' := gr_two2 o1 hwx1 (.slice p3 (c.vars ++ [a.terms[k]]).length q3) (.slice p4 (c.vals ++ [f.vals[k]]).length q4)
            have o2' := gr_two2 o2 hwx2 (.slice p3 (c.vars ++ [a.terms[k]]).length q3) (.slice p4 (c.vals ++ [f.vals[k]]).length q4)
            have HF' := Lib.hid (show Fresh (w.heap.size + 1 + 1 + 1 + 1) (f1' ++ f2') from fresh_two o1.fresh o2.fresh hdis)
            have HG' := Lib.hid (show w1.heap.size ∉ f1' ++ f2' from fun hm => (List.mem_append.1 hm).elim hwx1 hwx2)
            have hbx := below_two2 (below_cut B8 (by omega) hle b4) (show w.heap.size ≤ w1.heap.size by omega) (.slice p3 (c.vars ++ [a.terms[k]]).length q3) (.slice p4 (c.vals ++ [f.vals[k]]).length q4)
            have F5n := Lib.hid (two_two2 (two_cut hle b4 (by omega) HF58.out) (show w.heap.size + 1 + 1 ≠ w1.heap.size by omega) (.slice p3 (c.vars ++ [a.terms[k]]).length q3) (.slice p4 (c.vals ++ [f.vals[k]]).length q4))
            have H6n := Lib.hid (two_two2 (two_cut hle b4 (by omega) H68.out) (show w.heap.size + 1 + 1 + 1 ≠ w1.heap.size by omega) (.slice p3 (c.vars ++ [a.terms[k]]).length q3) (.slice p4 (c.vals ++ [f.vals[k]]).length q4))
            obtain ⟨w9, hw9⟩ : ∃ w9, w9 = two2 w4 w1.heap.size (.slice p3 (c.vars ++ [a.terms[k]]).length q3) (.slice p4 (c.vals ++ [f.vals[k]]).length q4) := ⟨_, rfl⟩
            have d9 : w9.cell? ⟨gx, k, none⟩ = some (.int .i64 f.vals[k]) := by
              obtain ⟨gx', hgx', cgx⟩ := (hx.below' (show Below w.heap.size w w9 by rw [hw9]; exact hbx)).cell k hlt2
              cases hgx'
              exact cgx
            rw [← hw9] at FN o1' o2' hbx F5n H6n ⊢
            clear hw9 o1 o2 u1 u2 hdis b4 s4 hcb hA hB0 cellf
            clear d8 x80 x81 n81 FQ8 hb8 H68 HF58 B8 c8 j81 j82 HF HG2 HM HLn HC i1 i2 hg1 hg2
            have F5c := F5n.out
            obtain ⟨⟨_, n91⟩, _, _⟩ := F5c
            have FNc := FN
            obtain ⟨⟨x90, x91⟩, _, _⟩ := FNc
            have i1 := o1'.sl
            have i2 := o2'.sl
            have hyb : (valB ⟨c.vars ++ [a.terms[k]], c.vals ++ [f.vals[k]]⟩ a.terms[k] != f.vals[k]) = false := by simp [hyv]
            clear hyv
            obtain ⟨c', hc'⟩ : ∃ c' : BindD, c' = ⟨c.vars ++ [a.terms[k]], c.vals ++ [f.vals[k]]⟩ := ⟨_, rfl⟩
            obtain ⟨lv, hlv⟩ : ∃ lv, lv = c.vars ++ [a.terms[k]] := ⟨_, rfl⟩
            obtain ⟨lx, hlx9⟩ : ∃ lx, lx = c.vals ++ [f.vals[k]] := ⟨_, rfl⟩
            rw [← hlv, ← hlx9] at hc'
            rw [← hlv, ← hlx9, ← hc'] at hyb HM2
            rw [← hlv, ← hlx9] at HL2
            rw [← hlv] at x90 FN
            rw [← hlx9] at x91 FN
            have i1 : ints w9 (.slice p3 lv.length q3) c'.vars f1' := by rw [hc', hlv]; exact i1
            have i2 : ints w9 (.slice p4 lx.length q4) c'.vals f2' := by rw [hc', hlx9]; exact i2
            have o1' : grR 3 1 intR (w.heap.size + 1 + 1 + 1 + 1) w9 (.slice p3 lv.length q3) c'.vars f1' := by rw [hc', hlv]; exact o1'
            have o2' : grR 3 1 intR (w.heap.size + 1 + 1 + 1 + 1) w9 (.slice p4 lx.length q4) c'.vals f2' := by rw [hc', hlx9]; exact o2'
            have HL2' := Lib.hid (show c'.vars.length = c'.vals.length ∧ c'.vars.length ≤ b.vars.length + (k + 1) by rw [hc']; exact HL2.out)
            clear hlv hlx9 hc'
            have L1 : ∀ x : Lat w9, x.wd.cell? ⟨w1.heap.size, 0, none⟩ = some (.slice p3 (lv.length) q3) := fun x => x.cell x90
            have L2 : ∀ x : Lat w9, x.wd.cell? ⟨w1.heap.size, 1, none⟩ = some (.slice p4 (lx.length) q4) := fun x => x.cell x91
            have L3 : ∀ x : Lat w9, x.wd.cell? ⟨w.heap.size + 1 + 1, 1, none⟩ = some (.slice (some ⟨gx, 0, none⟩) f.vals.length qx) := fun x => x.cell n91
            have L4 : ∀ x : Lat w9, x.wd.cell? ⟨gx, k, none⟩ = some (.int .i64 f.vals[k]) := fun x => x.cell d9
            have V1 : ∀ x : Lat w9, ints x.wd (.slice p3 (lv.length) q3) c'.vars f1' := fun x => i1.below' x.ok
            have V2 : ∀ x : Lat w9, ints x.wd (.slice p4 (lx.length) q4) c'.vals f2' := fun x => i2.below' x.ok
            go_wp2_with fail
            refine wp_region_lat w9 (by kernel_rfl) (by kernel_rfl) ?_
            repeat (go_big_quiet_step ((go_at_call 29; exact Lat.of (implValueOf_any c' _ _ f1' f2' a.terms[k] _ (V1 _) (V2 _)))))
            refine wpQuiet_nil ?_
            intro _ hw'
            obtain ⟨y1, hw''⟩ := hw'
            subst hw''
            have hb9 := y1.ok
            generalize y1.wd = w10 at hb9 ⊢
            clear L1 L2 L3 L4 V1 V2
            go_wp2
            go_roundw
            case rel => exact ⟨k + 1, c', _, _, f1', f2', by go_num, by omega, HM2, HL2', FN.below hb9, o1'.below' good_int hb9, o2'.below' good_int hb9, HF', HG', Lib.hid (F5n.out.below hb9), Lib.hid (H6n.out.below hb9), bt hbx hb9⟩
            case measure => simp [intOf]; omega
          · refine ⟨⟨by rfl, tdf, tsz, fun s hs => rfl, fun i v hi h => absurd h (by rw [rep_off]; simp), fun h => absurd h (by rw [rep_off]; simp), fun i h => absurd h (by rw [rep_off]; simp)⟩, .inl ⟨rep_off _ _, rep_off _ _, bdr hcb, (SX.drew w8).more (by simp), _, _, g1, _, _, g2, ⟨hA.below' good_int (bdr (Below.refl _ _)), hB0.below' good_int (bdr (Below.refl _ _)), fun j hj => .inl hj, fun j hj => .inl hj, hdj, fun _ => ⟨rfl, rfl⟩, fun h => absurd h (by rw [rep_off]; simp), fun _ => ⟨rfl, rfl⟩, fun h => absurd h (by rw [rep_off]; simp), fun h => absurd h (by rw [rep_off]; simp), fun h => absurd h (by rw [rep_off]; simp)⟩⟩⟩
          · decide
        · have HC := Lib.hid (show (isVarB a.terms[k] && !boundL c.vars c.vals a.terms[k]) = false by rw [hv1, (hsp.2 (by omega)).1]; rfl)
          go_wp2_with fail
          refine (retE (f27_any _ _) hv1).mono ?_
          rintro e w7 ⟨rfl, rfl⟩
          go_wp2_with fail
          refine (entry_any c _ _ g1 g2 a.terms[k] _ i1 i2).mono ?_
          rintro e w8 ⟨rfl, hb8⟩
          have B8 := bt Bq hb8
          have FQ8 := FQ.below hb8
          have H68 := Lib.hid (H6r.out.below hb8)
          have F58 := HF5.out.below hb8
          have HF58 := Lib.hid F58
          have c8 := cell_below ct hb8
          have d8 := cell_below cx hb8
          have j81 := hg1.below' good_int hb8
          have j82 := hg2.below' good_int hb8
          obtain ⟨⟨_, n81⟩, _, _⟩ := F58
          have FQ8' := FQ8
          obtain ⟨⟨x80, x81⟩, z80, z81⟩ := FQ8'
          by_cases hy : valB c a.terms[k] = f.vals[k]
          · have HM2 := Lib.hid ((matchL_same hlt hlt2 HC.out hy).symm.trans HM.out)
            have hyb : (valB c a.terms[k] != f.vals[k]) = false := by simp [hy]
            clear hy
            have L1 : ∀ x : Lat w8, x.wd.cell? ⟨w1.heap.size, 0, none⟩ = some (.slice p1 (c.vars.length) q1) := fun x => x.cell x80
            have L2 : ∀ x : Lat w8, x.wd.cell? ⟨w1.heap.size, 1, none⟩ = some (.slice p2 (c.vals.length) q2) := fun x => x.cell x81
            have L3 : ∀ x : Lat w8, x.wd.cell? ⟨w.heap.size + 1 + 1, 1, none⟩ = some (.slice (some ⟨gx, 0, none⟩) f.vals.length qx) := fun x => x.cell n81
            have L4 : ∀ x : Lat w8, x.wd.cell? ⟨gx, k, none⟩ = some (.int .i64 f.vals[k]) := fun x => x.cell d8
            have V1 : ∀ x : Lat w8, ints x.wd (.slice p1 (c.vars.length) q1) c.vars g1 := fun x => (i1.below' hb8).below' x.ok
            have V2 : ∀ x : Lat w8, ints x.wd (.slice p2 (c.vals.length) q2) c.vals g2 := fun x => (i2.below' hb8).below' x.ok
            go_wp2_with fail
            refine wp_region_lat w8 (by kernel_rfl) (by kernel_rfl) ?_
            repeat (go_big_quiet_step ((go_at_call 29; exact Lat.of (implValueOf_any c _ _ g1 g2 a.terms[k] _ (V1 _) (V2 _)))))
            refine wpQuiet_nil ?_
            intro _ hw'
            obtain ⟨y1, hw''⟩ := hw'
            subst hw''
            have hb9 := y1.ok
            generalize y1.wd = w9 at hb9 ⊢
            clear L1 L2 L3 L4 V1 V2
            go_wp2
            go_roundw
            case rel => exact ⟨k + 1, c, _, _, g1, g2, by go_num, by omega, HM2, Lib.hid ⟨HLn.out.1, by have := HLn.out.2; omega⟩, FQ8.below hb9, j81.below' good_int hb9, j82.below' good_int hb9, HF, HG2, Lib.hid (HF58.out.below hb9), Lib.hid (H68.out.below hb9), bt B8 hb9⟩
            case measure => simp [intOf]; omega
          · have HN := Lib.hid (show matchB b a f = none by rw [← HM.out]; exact matchL_none hlt hlt2 HC.out hy)
            have hyb : (valB c a.terms[k] != f.vals[k]) = true := by simp [hy]
            clear hy
            have L1 : ∀ x : Lat w8, x.wd.cell? ⟨w1.heap.size, 0, none⟩ = some (.slice p1 (c.vars.length) q1) := fun x => x.cell x80
            have L2 : ∀ x : Lat w8, x.wd.cell? ⟨w1.heap.size, 1, none⟩ = some (.slice p2 (c.vals.length) q2) := fun x => x.cell x81
            have L3 : ∀ x : Lat w8, x.wd.cell? ⟨w.heap.size + 1 + 1, 1, none⟩ = some (.slice (some ⟨gx, 0, none⟩) f.vals.length qx) := fun x => x.cell n81
            have L4 : ∀ x : Lat w8, x.wd.cell? ⟨gx, k, none⟩ = some (.int .i64 f.vals[k]) := fun x => x.cell d8
            have V1 : ∀ x : Lat w8, ints x.wd (.slice p1 (c.vars.length) q1) c.vars g1 := fun x => (i1.below' hb8).below' x.ok
            have V2 : ∀ x : Lat w8, ints x.wd (.slice p2 (c.vals.length) q2) c.vals g2 := fun x => (i2.below' hb8).below' x.ok
            go_wp2_with fail
            refine wp_region_lat w8 (by kernel_rfl) (by kernel_rfl) ?_
            repeat (go_big_quiet_step ((go_at_call 29; exact Lat.of (implValueOf_any c _ _ g1 g2 a.terms[k] _ (V1 _) (V2 _)))))
            refine wpQuiet_nil ?_
            intro _ hw'
            obtain ⟨y1, hw''⟩ := hw'
            subst hw''
            have hb9 := y1.ok
            generalize y1.wd = w9 at hb9 ⊢
            clear L1 L2 L3 L4 V1 V2
            have H4e := Lib.hid (H68.out.below hb9)
            have H4y := H4e.out
            obtain ⟨⟨r0, r1⟩, q0, q1⟩ := H4y
            go_wp2
            (try simp only [Exit.inBlock, Exit.then])
            refine bodyPost_ret (v := .tuple #[.agg #[.slice none 0 0, .slice none 0 0], .bool false]) ?_ rfl ?_
            · rw [results_cell_tmp rfl]
              simp [asAddr, Result.andThen, load_bind2 H4e.out]
            · exact MaEnd.no HN.out rfl (below_two2 (bt B8 hb9) (by omega) _ _)
    · have hkk : k = a.terms.length := by omega
      have HE := Lib.hid (show matchB b a f = some c by rw [← HM.out]; exact matchL_end (by omega))
      have hkl : ¬ (k : Int) < (a.terms.length : Int) := by omega
      clear hkk
      have H6s := H6r.out
      obtain ⟨⟨r0, r1⟩, t0, t1⟩ := H6s
      have Hn1 := Lib.hid (show w.heap.size + 1 + 1 + 1 ∉ g1 from fun hm => by have := HF.out.2 _ (List.mem_append.2 (.inl hm)); omega)
      have Hn2 := Lib.hid (show w.heap.size + 1 + 1 + 1 ∉ g2 from fun hm => by have := HF.out.2 _ (List.mem_append.2 (.inr hm)); omega)
      go_wp2
      (try simp only [Exit.inBlock, Exit.then])
      refine bodyPost_ret (v := .tuple #[.agg #[.slice p1 c.vars.length q1, .slice p2 c.vals.length q2], .bool true]) ?_ rfl ?_
      · rw [results_cell_tmp rfl]
        simp [asAddr, Result.andThen, load_bind2 H6r.out]
      · exact MaEnd.yes c _ _ _ _ HE.out rfl (ints_two2 i1 Hn1.out _ _) (ints_two2 i2 Hn2.out _ _) (HF.out.mono (by omega)) (below_two2 Bq (by omega) _ _)
end Go.Proofs.Ytapapnaljjnhnaa
