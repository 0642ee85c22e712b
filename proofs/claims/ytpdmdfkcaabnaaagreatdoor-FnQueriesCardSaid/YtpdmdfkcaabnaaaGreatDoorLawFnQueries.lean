/- The walk of the law FnQueries: it returns true, whatever the input. Condition: what the library's own variables hold. -/
import Derived.Test.YtpdmdfkcaabnaaaGreatDoorMR
import Derived.Test.YtpdmdfkcaabnaaaGreatDoorMP
import Derived.Test.YtpdmdfkcaabnaaaGreatDoorParQS
import Derived.Test.YtpdmdfkcaabnaaaGreatDoorMS
import Derived.Test.YtpdmdfkcaabnaaaGreatDoorVarsI
import Derived.Test.YtpdmdfkcaabnaaaGreatDoorVarsS
import Derived.Test.YtpdmdfkcaabnaaaGreatDoorIsQuery
import Derived.Test.YtpdmdfkcaabnaaaGreatDoorFmtQ
import Derived.Test.YtpdmdfkcaabnaaaGreatDoorMC
import Derived.Deep.Cut
namespace Go.Proofs.YtpdmdfkcaabnaaaGreatDoor
open Go.RowKit
set_option linter.unusedVariables false
set_option linter.unusedSimpArgs false
theorem bigF_any (b : Option Addr) (n cap : Nat) (w : World) : Calls Tryz.prog 6 #[.slice b n cap] w fun e w' => e = .returned (.bool (decide ((1048576 : Int) < (n : Int)))) ∧ w = w' := by
  go_enter Tryz.func6, Tryz.ntmps6
  go_wp2
  go_ret
  exact ⟨rfl, rfl⟩
theorem retBL {P : Program} {f : FuncId} {args : Array Value} {w : World} {b c : Bool} {Q : World → Prop} (h : Calls P f args w fun e w' => e = .returned (.bool b) ∧ Q w') (hb : b = c) : Calls P f args w fun e w' => e = .returned (.bool c) ∧ Q w' := hb ▸ h
theorem retSL {P : Program} {f : FuncId} {args : Array Value} {w : World} {b c : ByteArray} {Q : World → Prop} (h : Calls P f args w fun e w' => e = .returned (.string b) ∧ Q w') (hb : b = c) : Calls P f args w fun e w' => e = .returned (.string c) ∧ Q w' := hb ▸ h
theorem lawSameB_any (va vb : Value) (l m : List Int) (fa fb : List Nat) (w : World) (ha : ints w va l fa) (hb : ints w vb m fb) (h : l = m) :
    Calls Tryz.prog 44 #[va, vb] w fun e w' => e = .returned (.bool true) ∧ Below w.heap.size w w' := by
  refine (lawSame_any va vb l m fa fb w ha hb).mono ?_
  rintro e w' ⟨rfl, n, rfl⟩
  exact ⟨by rw [decide_eq_true h], bdn (Below.refl _ _)⟩
theorem mem_terms {l : List AtomD} {n m : Nat} (hn : n < l.length) (hm : m < l[n].terms.length) : l[n].terms[m] ∈ termsL l := by
  unfold termsL
  exact List.mem_flatMap.2 ⟨l[n], List.getElem_mem hn, List.getElem_mem hm⟩
set_option maxRecDepth 100000 in
set_option maxHeartbeats 12800000 in
theorem fnQueries_walk (v : Value) (l : List Int) (w : World) (g0 : bytesV w v l) (hT : LibW w) :
    Calls Tryz.prog 4 #[v] w fun e w' => e = .returned (.bool true) ∧ Below w.heap.size w w' := by
  obtain ⟨b, cap, rfl⟩ := slW.form g0
  have HLW := Lib.hid hT
  clear hT
  by_cases hn : l.length ≤ 1048576
  case neg =>
    have hni : (1048576 : Int) < (l.length : Int) := by omega
    go_enter Tryz.func4, Tryz.ntmps4
    go_wp2_with (go_at_call 6; refine (bigF_any _ _ _ _).mono ?_; rintro e w' ⟨rfl, rfl⟩)
    go_ret
    exact ⟨rfl, Below.refl _ _⟩
  have hni : ¬ (1048576 : Int) < (l.length : Int) := by omega
  go_enter Tryz.func4, Tryz.ntmps4
  go_wp2_with (go_at_call 6; refine (bigF_any _ _ _ _).mono ?_; rintro e w' ⟨rfl, rfl⟩)
  go_wp2_with fail
  refine (DrawIsQuery_any b cap l _ g0 hn).mono ?_
  rintro e w1 ⟨vs, s, fs, qd, vh, va, fh, fa, rfl, hs, hsn, hh, ha, hnd, ok, hj, hb1⟩
  have D1 : Below w.heap.size w w1 := bt (by (repeat (first | exact (Below.refl _ _) | exact Below.refl _ _ | refine ba ?_ | refine bdr ?_ | refine bs ?_ (by omega))); done) hb1
  clear hnd hj
  obtain ⟨ps, qs, rfl⟩ := slR.form hs
  obtain ⟨ph, qh, rfl⟩ := slR.form hh
  obtain ⟨pa, qa, rfl⟩ := slR.form ha
  have hsm := queryFS_small hh ha ok
  have htm : (termsL qd.atoms).length ≤ 1048576 := by have := termsL_bd (l := qd.atoms) (n := 3) (fun y hy => (ok.2.1 y hy).2); have := ok.1; omega
  have hqh : qd.head.length ≤ 1048576 := by have := ok.2.2; omega
  have hqa : qd.atoms.length ≤ 1048576 := by have := ok.1; omega
  have Hok := Lib.hid ok
  clear ok
  go_wp2_with fail
  refine (implFormatQuery_any qd _ fh _ fa _ (hh.below' (by (repeat (first | exact (Below.refl _ _) | exact Below.refl _ _ | refine ba ?_ | refine bdr ?_ | refine bs ?_ (by omega))); done)) (ha.below' (by (repeat (first | exact (Below.refl _ _) | exact Below.refl _ _ | refine ba ?_ | refine bdr ?_ | refine bs ?_ (by omega))); done)) htm hqh hqa (Tab.on HLW.out.2.2.1 (by (repeat (first | exact D1 | exact Below.refl _ _ | refine ba ?_ | refine bdr ?_ | refine bs ?_ (by omega))); done))).mono ?_
  rintro e w2 ⟨rfl, hb2⟩
  have D2 : Below w1.heap.size w1 w2 := bt (by (repeat (first | exact (Below.refl _ _) | exact Below.refl _ _ | refine ba ?_ | refine bdr ?_ | refine bs ?_ (by omega))); done) hb2
  have b4b0 : w2.cell? ⟨w1.heap.size, 0, none⟩ = some (.slice ph qd.head.length qh) := cell_below (by first | exact cell_new _ _ _ 0 _ rfl | exact cell_al (cell_new _ _ _ 0 _ rfl) _ | exact cell_at _ _ (by simp only [World.alloc, Array.size_push]) _ _ 0 _ rfl) hb2
  have b4b1 : w2.cell? ⟨w1.heap.size, 1, none⟩ = some (.slice pa qd.atoms.length qa) := cell_below (by first | exact cell_new _ _ _ 1 _ rfl | exact cell_al (cell_new _ _ _ 1 _ rfl) _ | exact cell_at _ _ (by simp only [World.alloc, Array.size_push]) _ _ 1 _ rfl) hb2
  obtain ⟨ts, Hts⟩ : ∃ ts : ByteArray, ts = ⟨(queryFS qd).toArray⟩ := ⟨_, rfl⟩
  have hsz : ts.size ≤ 1048576 := by rw [Hts]; simp only [ByteArray.size, List.size_toArray]; omega
  have htl : ts.data.toList = queryFS qd := by rw [Hts]
  rw [← Hts]
  have HT := Lib.hid Hts
  clear Hts hsm
  go_wp2_with fail
  refine (implParseQuery_any _ s fs ts _ (hs.below' (by (repeat (first | exact D2 | exact Below.refl _ _ | refine ba ?_ | refine bdr ?_ | refine bs ?_ (by omega))); done)) hsz (HLW.out.on (by (repeat (first | exact (bt D1 D2) | exact Below.refl _ _ | refine ba ?_ | refine bdr ?_ | refine bs ?_ (by omega))); done))).mono ?_
  rintro e w3 ⟨x, k, vxh, vxa, fxh, fxa, rfl, hF, hxh, hxa, hxf, hb3⟩
  have D3 : Below w2.heap.size w2 w3 := bt (by (repeat (first | exact (Below.refl _ _) | exact Below.refl _ _ | refine ba ?_ | refine bdr ?_ | refine bs ?_ (by omega))); done) hb3
  rw [htl] at hF
  obtain ⟨hk, hkx⟩ := queryIs_self hF
  have Hk := Lib.hid hk
  have Hkx := Lib.hid hkx
  clear hk hkx hF htl hsz hxf
  obtain ⟨pxh, qxh, rfl⟩ := slR.form hxh
  obtain ⟨pxa, qxa, rfl⟩ := slR.form hxa
  have b6L : (w3.alloc (.cells #[.slice pxh x.head.length qxh, .slice pxa x.atoms.length qxa] 58)).cell? ⟨w3.heap.size, 0, none⟩ = some (.slice pxh x.head.length qxh) ∧ (w3.alloc (.cells #[.slice pxh x.head.length qxh, .slice pxa x.atoms.length qxa] 58)).cell? ⟨w3.heap.size, 1, none⟩ = some (.slice pxa x.atoms.length qxa) := ⟨cell_new _ _ _ 0 _ rfl, cell_new _ _ _ 1 _ rfl⟩
  go_upto_region 6 with fail
  go_cut [64] from 21 (fun s64 wr => s64 = .bool false ∧ Below w3.heap.size w3 wr)
  case first => as_aux_lemma =>
    obtain ⟨w4, hw4⟩ : ∃ z, z = w3.alloc (.cells #[.slice pxh x.head.length qxh, .slice pxa x.atoms.length qxa] 58) := ⟨_, rfl⟩
    rw [← hw4] at b6L ⊢
    have D4 : Below w3.heap.size w3 w4 := by rw [hw4]; exact ba (Below.refl _ _)
    clear hw4
    cases k with
    | true =>
     as_aux_lemma =>
      have b4c0 : w4.cell? ⟨w1.heap.size, 0, none⟩ = some (.slice ph qd.head.length qh) := cell_below b4b0 (bt D3 D4)
      have b4c1 : w4.cell? ⟨w1.heap.size, 1, none⟩ = some (.slice pa qd.atoms.length qa) := cell_below b4b1 (bt D3 D4)
      obtain ⟨b6c0, b6c1⟩ := b6L
      have b4L0 : ∀ z : Lat w4, z.wd.cell? ⟨w1.heap.size, 0, none⟩ = some (.slice ph qd.head.length qh) := fun z => z.cell b4c0
      have b4L1 : ∀ z : Lat w4, z.wd.cell? ⟨w1.heap.size, 1, none⟩ = some (.slice pa qd.atoms.length qa) := fun z => z.cell b4c1
      have b6L0 : ∀ z : Lat w4, z.wd.cell? ⟨w3.heap.size, 0, none⟩ = some (.slice pxh x.head.length qxh) := fun z => z.cell b6c0
      have b6L1 : ∀ z : Lat w4, z.wd.cell? ⟨w3.heap.size, 1, none⟩ = some (.slice pxa x.atoms.length qxa) := fun z => z.cell b6c1
      clear b4c0 b4c1 b6c0 b6c1
      have VS : ∀ z : Lat w4, ints z.wd (.slice ps s.length qs) s fs := fun z => (hs.below' (bt (bt D2 D3) D4)).below' z.ok
      have VH : ∀ z : Lat w4, ints z.wd (.slice ph qd.head.length qh) qd.head fh := fun z => (hh.below' (bt (bt D2 D3) D4)).below' z.ok
      have VA : ∀ z : Lat w4, atoms z.wd (.slice pa qd.atoms.length qa) qd.atoms fa := fun z => (ha.below' (bt (bt D2 D3) D4)).below' z.ok
      have XH : ∀ z : Lat w4, ints z.wd (.slice pxh x.head.length qxh) x.head fxh := fun z => (hxh.below' D4).below' z.ok
      have XA : ∀ z : Lat w4, atoms z.wd (.slice pxa x.atoms.length qxa) x.atoms fxa := fun z => (hxa.below' D4).below' z.ok
      obtain rfl := Hkx.out rfl
      go_wp2_with fail
      refine wp_region_lat w4 (by kernel_rfl) (by kernel_rfl) ?_
      (try simp only [List.append])
      repeat (go_big_quiet_step ((first
          | (go_at_call 38; with_reducible exact Lat.of (retSL (specFormatQuery_any x _ fh _ fa _ (VH _) (VA _) htm hqh hqa) HT.out.symm))
          | (go_at_call 39; with_reducible exact Lat.of (retBL (specIsQuery_any _ s fs x _ fh _ fa _ (VS _) (VH _) (VA _) htm) Hk.out.symm))
          | (go_at_call 41; with_reducible exact Lat.of (retBL (implIsQuery_any _ s fs x _ fh _ fa _ (VS _) (VH _) (VA _) htm) Hk.out.symm))
          | (go_at_call 40; with_reducible exact Lat.of (retBL (implSameQueries_any x x _ _ _ _ fxh fxa fh fa _ (XH _) (XA _) (VH _) (VA _)) (decide_eq_true rfl))))))
      refine wpQuiet_nil ?_
      intro _ hw'
      obtain ⟨z1, hw''⟩ := hw'
      subst hw''
      have hb9 := bt D4 z1.ok
      generalize z1.wd = wz at hb9 ⊢
      clear b4L0 b4L1 b6L0 b6L1 VS VH VA XH XA
      (try go_wp2_with fail)
      go_meet
      exact ⟨rfl, hb9⟩
    | false =>
     as_aux_lemma =>
      have b4c0 : w4.cell? ⟨w1.heap.size, 0, none⟩ = some (.slice ph qd.head.length qh) := cell_below b4b0 (bt D3 D4)
      have b4c1 : w4.cell? ⟨w1.heap.size, 1, none⟩ = some (.slice pa qd.atoms.length qa) := cell_below b4b1 (bt D3 D4)
      obtain ⟨b6c0, b6c1⟩ := b6L
      have b4L0 : ∀ z : Lat w4, z.wd.cell? ⟨w1.heap.size, 0, none⟩ = some (.slice ph qd.head.length qh) := fun z => z.cell b4c0
      have b4L1 : ∀ z : Lat w4, z.wd.cell? ⟨w1.heap.size, 1, none⟩ = some (.slice pa qd.atoms.length qa) := fun z => z.cell b4c1
      have b6L0 : ∀ z : Lat w4, z.wd.cell? ⟨w3.heap.size, 0, none⟩ = some (.slice pxh x.head.length qxh) := fun z => z.cell b6c0
      have b6L1 : ∀ z : Lat w4, z.wd.cell? ⟨w3.heap.size, 1, none⟩ = some (.slice pxa x.atoms.length qxa) := fun z => z.cell b6c1
      clear b4c0 b4c1 b6c0 b6c1
      have VS : ∀ z : Lat w4, ints z.wd (.slice ps s.length qs) s fs := fun z => (hs.below' (bt (bt D2 D3) D4)).below' z.ok
      have VH : ∀ z : Lat w4, ints z.wd (.slice ph qd.head.length qh) qd.head fh := fun z => (hh.below' (bt (bt D2 D3) D4)).below' z.ok
      have VA : ∀ z : Lat w4, atoms z.wd (.slice pa qd.atoms.length qa) qd.atoms fa := fun z => (ha.below' (bt (bt D2 D3) D4)).below' z.ok
      have XH : ∀ z : Lat w4, ints z.wd (.slice pxh x.head.length qxh) x.head fxh := fun z => (hxh.below' D4).below' z.ok
      have XA : ∀ z : Lat w4, atoms z.wd (.slice pxa x.atoms.length qxa) x.atoms fxa := fun z => (hxa.below' D4).below' z.ok
      go_wp2_with fail
      refine wp_region_lat w4 (by kernel_rfl) (by kernel_rfl) ?_
      (try simp only [List.append])
      repeat (go_big_quiet_step ((first
          | (go_at_call 38; with_reducible exact Lat.of (retSL (specFormatQuery_any qd _ fh _ fa _ (VH _) (VA _) htm hqh hqa) HT.out.symm))
          | (go_at_call 39; with_reducible exact Lat.of (retBL (specIsQuery_any _ s fs qd _ fh _ fa _ (VS _) (VH _) (VA _) htm) Hk.out.symm))
          | (go_at_call 41; with_reducible exact Lat.of (retBL (implIsQuery_any _ s fs qd _ fh _ fa _ (VS _) (VH _) (VA _) htm) Hk.out.symm)))))
      refine wpQuiet_nil ?_
      intro _ hw'
      obtain ⟨z1, hw''⟩ := hw'
      subst hw''
      have hb9 := bt D4 z1.ok
      generalize z1.wd = wz at hb9 ⊢
      clear b4L0 b4L1 b6L0 b6L1 VS VH VA XH XA
      (try go_wp2_with fail)
      go_meet
      exact ⟨rfl, hb9⟩
  case rest =>
  obtain ⟨rfl, D4⟩ := hcut
  obtain ⟨w4, ew⟩ : ∃ x, x = wc := ⟨_, rfl⟩
  subst ew
  clear b6L Hk Hkx HT hxh hxa hs
  have b4c0 : w4.cell? ⟨w1.heap.size, 0, none⟩ = some (.slice ph qd.head.length qh) := cell_below b4b0 (bt D3 D4)
  have b4c1 : w4.cell? ⟨w1.heap.size, 1, none⟩ = some (.slice pa qd.atoms.length qa) := cell_below b4b1 (bt D3 D4)
  go_wp2_with fail
  refine (implVarsOf_any qd _ fh _ fa _ (hh.below' (by (repeat (first | exact (bt (bt D2 D3) D4) | exact Below.refl _ _ | refine ba ?_ | refine bdr ?_ | refine bs ?_ (by omega))); done)) (ha.below' (by (repeat (first | exact (bt (bt D2 D3) D4) | exact Below.refl _ _ | refine ba ?_ | refine bdr ?_ | refine bs ?_ (by omega))); done)) htm).mono ?_
  rintro e w5 ⟨vv, fv, rfl, hv, hvf, hb5⟩
  have D5 : Below w4.heap.size w4 w5 := bt (by (repeat (first | exact (Below.refl _ _) | exact Below.refl _ _ | refine ba ?_ | refine bdr ?_ | refine bs ?_ (by omega))); done) hb5
  clear b4c0 b4c1
  obtain ⟨pv, qv, rfl⟩ := slR.form hv
  obtain ⟨lv, hlv⟩ : ∃ lv, lv = setOf isVarB (termsL qd.atoms) := ⟨_, rfl⟩
  rw [← hlv] at hv ⊢
  have Hlv := Lib.hid hlv
  clear hlv hvf
  have b4c0 : w5.cell? ⟨w1.heap.size, 0, none⟩ = some (.slice ph qd.head.length qh) := cell_below b4b0 (bt (bt D3 D4) D5)
  have b4c1 : w5.cell? ⟨w1.heap.size, 1, none⟩ = some (.slice pa qd.atoms.length qa) := cell_below b4b1 (bt (bt D3 D4) D5)
  go_wp2_with fail
  refine (implConstantsOf_any qd _ fh _ fa _ (hh.below' (by (repeat (first | exact (bt (bt (bt D2 D3) D4) D5) | exact Below.refl _ _ | refine ba ?_ | refine bdr ?_ | refine bs ?_ (by omega))); done)) (ha.below' (by (repeat (first | exact (bt (bt (bt D2 D3) D4) D5) | exact Below.refl _ _ | refine ba ?_ | refine bdr ?_ | refine bs ?_ (by omega))); done)) htm).mono ?_
  rintro e w6 ⟨vc, fc, rfl, hc, hcf, hb6⟩
  have D6 : Below w5.heap.size w5 w6 := bt (by (repeat (first | exact (Below.refl _ _) | exact Below.refl _ _ | refine ba ?_ | refine bdr ?_ | refine bs ?_ (by omega))); done) hb6
  clear b4c0 b4c1
  obtain ⟨pc, qc, rfl⟩ := slR.form hc
  obtain ⟨lc, hlc⟩ : ∃ lc, lc = setOf isVal (termsL qd.atoms) := ⟨_, rfl⟩
  rw [← hlc] at hc ⊢
  have Hlc := Lib.hid hlc
  clear hlc hcf
  have b4c0 : w6.cell? ⟨w1.heap.size, 0, none⟩ = some (.slice ph qd.head.length qh) := cell_below b4b0 (bt (bt (bt D3 D4) D5) D6)
  have b4c1 : w6.cell? ⟨w1.heap.size, 1, none⟩ = some (.slice pa qd.atoms.length qa) := cell_below b4b1 (bt (bt (bt D3 D4) D5) D6)
  go_wp2_with fail
  refine (specVarsOf_any qd _ fh _ fa _ (hh.below' (by (repeat (first | exact (bt (bt (bt (bt D2 D3) D4) D5) D6) | exact Below.refl _ _ | refine ba ?_ | refine bdr ?_ | refine bs ?_ (by omega))); done)) (ha.below' (by (repeat (first | exact (bt (bt (bt (bt D2 D3) D4) D5) D6) | exact Below.refl _ _ | refine ba ?_ | refine bdr ?_ | refine bs ?_ (by omega))); done)) htm).mono ?_
  rintro e w7 ⟨vy, fy, rfl, hy, hb7⟩
  have D7 : Below w6.heap.size w6 w7 := bt (by (repeat (first | exact (Below.refl _ _) | exact Below.refl _ _ | refine ba ?_ | refine bdr ?_ | refine bs ?_ (by omega))); done) hb7
  clear b4c0 b4c1
  obtain ⟨py, qy, rfl⟩ := slR.form hy
  rw [← Hlv.out] at hy ⊢
  have b4c0 : w7.cell? ⟨w1.heap.size, 0, none⟩ = some (.slice ph qd.head.length qh) := cell_below b4b0 (bt (bt (bt (bt D3 D4) D5) D6) D7)
  have b4c1 : w7.cell? ⟨w1.heap.size, 1, none⟩ = some (.slice pa qd.atoms.length qa) := cell_below b4b1 (bt (bt (bt (bt D3 D4) D5) D6) D7)
  go_wp2_with fail
  refine (lawSameB_any _ _ lv lv fv fy _ (hv.below' (by (repeat (first | exact (bt D6 D7) | exact Below.refl _ _ | refine ba ?_ | refine bdr ?_ | refine bs ?_ (by omega))); done)) (hy.below' (by (repeat (first | exact (Below.refl _ _) | exact Below.refl _ _ | refine ba ?_ | refine bdr ?_ | refine bs ?_ (by omega))); done)) rfl).mono ?_
  rintro e w8 ⟨rfl, hb8⟩
  have D8 : Below w7.heap.size w7 w8 := bt (by (repeat (first | exact (Below.refl _ _) | exact Below.refl _ _ | refine ba ?_ | refine bdr ?_ | refine bs ?_ (by omega))); done) hb8
  clear b4c0 b4c1
  have b4c0 : w8.cell? ⟨w1.heap.size, 0, none⟩ = some (.slice ph qd.head.length qh) := cell_below b4b0 (bt (bt (bt (bt (bt D3 D4) D5) D6) D7) D8)
  have b4c1 : w8.cell? ⟨w1.heap.size, 1, none⟩ = some (.slice pa qd.atoms.length qa) := cell_below b4b1 (bt (bt (bt (bt (bt D3 D4) D5) D6) D7) D8)
  go_wp2_with fail
  refine (specConstantsOf_any qd _ fh _ fa _ (hh.below' (by (repeat (first | exact (bt (bt (bt (bt (bt (bt D2 D3) D4) D5) D6) D7) D8) | exact Below.refl _ _ | refine ba ?_ | refine bdr ?_ | refine bs ?_ (by omega))); done)) (ha.below' (by (repeat (first | exact (bt (bt (bt (bt (bt (bt D2 D3) D4) D5) D6) D7) D8) | exact Below.refl _ _ | refine ba ?_ | refine bdr ?_ | refine bs ?_ (by omega))); done)) htm).mono ?_
  rintro e w9 ⟨vz, fz, rfl, hz, hb9⟩
  have D9 : Below w8.heap.size w8 w9 := bt (by (repeat (first | exact (Below.refl _ _) | exact Below.refl _ _ | refine ba ?_ | refine bdr ?_ | refine bs ?_ (by omega))); done) hb9
  clear b4c0 b4c1
  obtain ⟨pz, qz, rfl⟩ := slR.form hz
  rw [← Hlc.out] at hz ⊢
  have b4c0 : w9.cell? ⟨w1.heap.size, 0, none⟩ = some (.slice ph qd.head.length qh) := cell_below b4b0 (bt (bt (bt (bt (bt (bt D3 D4) D5) D6) D7) D8) D9)
  have b4c1 : w9.cell? ⟨w1.heap.size, 1, none⟩ = some (.slice pa qd.atoms.length qa) := cell_below b4b1 (bt (bt (bt (bt (bt (bt D3 D4) D5) D6) D7) D8) D9)
  go_wp2_with fail
  refine (lawSameB_any _ _ lc lc fc fz _ (hc.below' (by (repeat (first | exact (bt (bt D7 D8) D9) | exact Below.refl _ _ | refine ba ?_ | refine bdr ?_ | refine bs ?_ (by omega))); done)) (hz.below' (by (repeat (first | exact (Below.refl _ _) | exact Below.refl _ _ | refine ba ?_ | refine bdr ?_ | refine bs ?_ (by omega))); done)) rfl).mono ?_
  rintro e w10 ⟨rfl, hb10⟩
  have D10 : Below w9.heap.size w9 w10 := bt (by (repeat (first | exact (Below.refl _ _) | exact Below.refl _ _ | refine ba ?_ | refine bdr ?_ | refine bs ?_ (by omega))); done) hb10
  clear b4c0 b4c1
  clear hy hz htm hqh hqa
  have b4c0 : w10.cell? ⟨w1.heap.size, 0, none⟩ = some (.slice ph qd.head.length qh) := cell_below b4b0 (bt (bt (bt (bt (bt (bt (bt D3 D4) D5) D6) D7) D8) D9) D10)
  have b4c1 : w10.cell? ⟨w1.heap.size, 1, none⟩ = some (.slice pa qd.atoms.length qa) := cell_below b4b1 (bt (bt (bt (bt (bt (bt (bt D3 D4) D5) D6) D7) D8) D9) D10)
  have ha10 := ha.below' (bt (bt (bt (bt (bt (bt (bt (bt D2 D3) D4) D5) D6) D7) D8) D9) D10)
  have hv10 := hv.below' (bt (bt (bt (bt D6 D7) D8) D9) D10)
  have hc10 := hc.below' (bt (bt (bt D7 D8) D9) D10)
  clear ha hh hv hc
  have hqa3 : qd.atoms.length ≤ 3 := Hok.out.1.2
  go_wp2
  go_loopw [10] (fun i wr => ∃ n : Nat, i = .int .i64 (n : Int) ∧ n ≤ qd.atoms.length ∧ Below w10.heap.size w10 wr) (fun i _ => qd.atoms.length - (intOf i).toNat)
  case atStart => exact ⟨0, rfl, Nat.zero_le _, Below.refl _ _⟩
  case round =>
    obtain ⟨n, rfl, hn1, hbel⟩ := hrel
    have e0 := cell_below b4c0 hbel
    have e1 := cell_below b4c1 hbel
    by_cases hlt : n < qd.atoms.length
    · have hlti : (n : Int) < (qd.atoms.length : Int) := by omega
      have hn00 : (0 : Int) ≤ (n : Int) := Int.natCast_nonneg _
      obtain ⟨ga, ccc, ft, hga, ⟨vt, rfl, ita, hvt⟩, _, hca, _, _, _⟩ := slR.at ha10 n hlt
      subst hga
      have hqt3 : qd.atoms[n].terms.length ≤ 3 := (Hok.out.2.1 _ (List.getElem_mem hlt)).2
      obtain ⟨pt, qt, rfl⟩ := slR.form hvt
      have A1 : w10.cell? ⟨ga, n * 2 + 1, none⟩ = some (.slice pt qd.atoms[n].terms.length qt) := hca 1 _ rfl
      clear hca
      go_wp2
      obtain ⟨wo, ewo⟩ : ∃ wo : World, wo = wr := ⟨_, rfl⟩
      subst ewo
      go_loopw [11] (fun j wr => ∃ m : Nat, j = .int .i64 (m : Int) ∧ m ≤ qd.atoms[n].terms.length ∧ Below wo.heap.size wo wr) (fun j _ => qd.atoms[n].terms.length - (intOf j).toNat)
      case atStart => exact ⟨0, rfl, Nat.zero_le _, Below.refl _ _⟩
      case round =>
        obtain ⟨m, rfl, hm1, hbel2⟩ := hrel
        have hbw := bt hbel hbel2
        have r0 := cell_below e0 hbel2
        have r1 := cell_below e1 hbel2
        have r2 := cell_below A1 hbw
        by_cases hlt2 : m < qd.atoms[n].terms.length
        · have hlt2i : (m : Int) < (qd.atoms[n].terms.length : Int) := by omega
          have hm00 : (0 : Int) ≤ (m : Int) := Int.natCast_nonneg _
          have hmem := mem_terms hlt hlt2
          obtain ⟨gt, e9, ct, _, _, _⟩ := (hvt.below' hbw).get m hlt2
          cases e9
          have hvr := hv10.below' hbw
          have hcr := hc10.below' hbw
          generalize hty : qd.atoms[n].terms[m] = y at ct hmem
          have h1 : memB lv y = isVarB y := by rw [Hlv.out]; exact setOf_has hmem
          have h2 : memB lc y = isVal y := by rw [Hlc.out]; exact setOf_has hmem
          have h3 : isTermB y = (isVal y || isVarB y) := rfl
          have h4 : isVarB y = isVarB y := rfl
          clear hty hmem
          generalize hp1 : isVarB y = p1 at h1 h3
          generalize hp2 : isVal y = p2 at h2 h3
          clear hp2 h4
          cases p1 <;> cases p2 <;>
          · simp only [Bool.or_false, Bool.or_true, Bool.false_or, Bool.true_or] at h3
            go_wp2_with (first
              | (go_at_call 47; refine (retBL (f47_any _ _) h3).mono ?_; rintro e w' ⟨rfl, rfl⟩)
              | (go_at_call 49; refine (retBL (f49_any _ _) hp1).mono ?_; rintro e w' ⟨rfl, rfl⟩)
              | (go_at_call 48; with_reducible refine (retBL (lawHas_any _ lv fv y _ hvr) h1).mono ?_; rintro e w' ⟨rfl, rfl⟩)
              | (go_at_call 48; with_reducible refine (retBL (lawHas_any _ lc fc y _ hcr) h2).mono ?_; rintro e w' ⟨rfl, rfl⟩))
            go_roundw
            case rel => exact ⟨m + 1, by go_num, by omega, hbel2⟩
            case measure => simp [intOf]; omega
        · have hlt2i : ¬ (m : Int) < (qd.atoms[n].terms.length : Int) := by omega
          have hn00 : (0 : Int) ≤ (n : Int) := Int.natCast_nonneg _
          go_wp2
          go_roundw
          case rel => exact ⟨n + 1, by go_num, by omega, hbw⟩
          case measure => simp [intOf]; omega
    · have hlti : ¬ (n : Int) < (qd.atoms.length : Int) := by omega
      obtain ⟨w11, ew⟩ : ∃ x, x = wr := ⟨_, rfl⟩
      subst ew
      have D11 := hbel
      clear hbel ha10 hv10 hc10 Hlv Hlc Hok b4b0 b4b1 b4c0 b4c1
      go_wp2_with fail
      refine (DrawIsAtom_any b cap l _ (g0.below' (by (repeat (first | exact (bt (bt (bt (bt (bt (bt (bt (bt (bt (bt D1 D2) D3) D4) D5) D6) D7) D8) D9) D10) D11) | exact Below.refl _ _ | refine ba ?_ | refine bdr ?_ | refine bs ?_ (by omega))); done)) hn).mono ?_
      rintro e w12 ⟨vu, u, fu, ad, vat, fad, rfl, hu, hun, hai, had, hadn, hb12⟩
      have D12 : Below w11.heap.size w11 w12 := bt (by (repeat (first | exact (Below.refl _ _) | exact Below.refl _ _ | refine ba ?_ | refine bdr ?_ | refine bs ?_ (by omega))); done) hb12
      obtain ⟨pu, qu, rfl⟩ := slR.form hu
      obtain ⟨pad, qad, rfl⟩ := slR.form had
      go_wp2_with fail
      refine (DrawParseQuery_any b cap l _ (g0.below' (by (repeat (first | exact (bt (bt (bt (bt (bt (bt (bt (bt (bt (bt (bt D1 D2) D3) D4) D5) D6) D7) D8) D9) D10) D11) D12) | exact Below.refl _ _ | refine ba ?_ | refine bdr ?_ | refine bs ?_ (by omega))); done)) hn).mono ?_
      rintro e w13 ⟨vel, el, fel, tx, rfl, hel, heln, htx, hb13⟩
      have D13 : Below w12.heap.size w12 w13 := bt (by (repeat (first | exact (Below.refl _ _) | exact Below.refl _ _ | refine ba ?_ | refine bdr ?_ | refine bs ?_ (by omega))); done) hb13
      have b14b0 : w13.cell? ⟨w12.heap.size, 0, none⟩ = some (.int .i64 ad.rel) := cell_below (by first | exact cell_new _ _ _ 0 _ rfl | exact cell_al (cell_new _ _ _ 0 _ rfl) _ | exact cell_at _ _ (by simp only [World.alloc, Array.size_push]) _ _ 0 _ rfl) hb13
      have b14b1 : w13.cell? ⟨w12.heap.size, 1, none⟩ = some (.slice pad ad.terms.length qad) := cell_below (by first | exact cell_new _ _ _ 1 _ rfl | exact cell_al (cell_new _ _ _ 1 _ rfl) _ | exact cell_at _ _ (by simp only [World.alloc, Array.size_push]) _ _ 1 _ rfl) hb13
      obtain ⟨pel, qel, rfl⟩ := slR.form hel
      go_wp2_with fail
      refine (implParseQuery_any _ el fel tx _ (hel.below' (by (repeat (first | exact (Below.refl _ _) | exact Below.refl _ _ | refine ba ?_ | refine bdr ?_ | refine bs ?_ (by omega))); done)) (by omega) (HLW.out.on (by (repeat (first | exact (bt (bt (bt (bt (bt (bt (bt (bt (bt (bt (bt (bt D1 D2) D3) D4) D5) D6) D7) D8) D9) D10) D11) D12) D13) | exact Below.refl _ _ | refine ba ?_ | refine bdr ?_ | refine bs ?_ (by omega))); done))).mono ?_
      rintro e w14 ⟨y1, k1, vyh, vya, fyh, fya, rfl, hF1, hyh, hya, hyf, hb14⟩
      have D14 : Below w13.heap.size w13 w14 := bt (by (repeat (first | exact (Below.refl _ _) | exact Below.refl _ _ | refine ba ?_ | refine bdr ?_ | refine bs ?_ (by omega))); done) hb14
      obtain ⟨pyh, qyh, rfl⟩ := slR.form hyh
      obtain ⟨pya, qya, rfl⟩ := slR.form hya
      clear hyh hya hyf
      go_wp2_with fail
      refine (specParseQuery_any _ el fel tx _ (hel.below' (by (repeat (first | exact D14 | exact Below.refl _ _ | refine ba ?_ | refine bdr ?_ | refine bs ?_ (by omega))); done)) (by omega)).mono ?_
      rintro e w15 ⟨z1, k2, vzh, vza, fzh, fza, rfl, hF2, hzh, hza, hzf, hb15⟩
      have D15 : Below w14.heap.size w14 w15 := bt (by (repeat (first | exact (Below.refl _ _) | exact Below.refl _ _ | refine ba ?_ | refine bdr ?_ | refine bs ?_ (by omega))); done) hb15
      have b17b0 : w15.cell? ⟨w14.heap.size, 0, none⟩ = some (.slice pyh y1.head.length qyh) := cell_below (by first | exact cell_new _ _ _ 0 _ rfl | exact cell_al (cell_new _ _ _ 0 _ rfl) _ | exact cell_at _ _ (by simp only [World.alloc, Array.size_push]) _ _ 0 _ rfl) hb15
      have b17b1 : w15.cell? ⟨w14.heap.size, 1, none⟩ = some (.slice pya y1.atoms.length qya) := cell_below (by first | exact cell_new _ _ _ 1 _ rfl | exact cell_al (cell_new _ _ _ 1 _ rfl) _ | exact cell_at _ _ (by simp only [World.alloc, Array.size_push]) _ _ 1 _ rfl) hb15
      obtain ⟨pzh, qzh, rfl⟩ := slR.form hzh
      obtain ⟨pza, qza, rfl⟩ := slR.form hza
      clear hzh hza hzf
      obtain rfl := (QueryIs.one hF1 hF2).2
      clear hF1 hF2 hel htx
      obtain ⟨rA, hrA⟩ : ∃ r, r = atomB u ad := ⟨_, rfl⟩
      have HrA := Lib.hid hrA.symm
      clear hrA
      obtain ⟨tA, htA⟩ : ∃ t : ByteArray, t = ⟨(atomFS ad).toArray⟩ := ⟨_, rfl⟩
      have HtA := Lib.hid htA.symm
      clear htA
      have b14c0 : w15.cell? ⟨w12.heap.size, 0, none⟩ = some (.int .i64 ad.rel) := cell_below b14b0 (bt D14 D15)
      have b14c1 : w15.cell? ⟨w12.heap.size, 1, none⟩ = some (.slice pad ad.terms.length qad) := cell_below b14b1 (bt D14 D15)
      have c0a := cell_al b14c0 (.cells #[.slice pzh z1.head.length qzh, .slice pza z1.atoms.length qza] 58)
      have c1a := cell_al b14c1 (.cells #[.slice pzh z1.head.length qzh, .slice pza z1.atoms.length qza] 58)
      have hu9 := (hu.below' (bt (bt D13 D14) D15)).below' (ba (o := (.cells #[.slice pzh z1.head.length qzh, .slice pza z1.atoms.length qza] 58)) (Below.refl _ _))
      have had9 := (had.below' (bt (bt D13 D14) D15)).below' (ba (o := (.cells #[.slice pzh z1.head.length qzh, .slice pza z1.atoms.length qza] 58)) (Below.refl _ _))
      have D16 : Below w15.heap.size w15 (w15.alloc (.cells #[.slice pzh z1.head.length qzh, .slice pza z1.atoms.length qza] 58)) := ba (Below.refl _ _)
      clear b14c0 b14c1 b14b0 b14b1 hu had
      go_wp2_with fail
      obtain ⟨w16, hwz⟩ : ∃ z, z = w15.alloc (.cells #[.slice pzh z1.head.length qzh, .slice pza z1.atoms.length qza] 58) := ⟨_, rfl⟩
      rw [← hwz] at c0a c1a hu9 had9 D16 ⊢
      clear hwz
      have L0 : ∀ z : Lat w16, z.wd.cell? ⟨w12.heap.size, 0, none⟩ = some (.int .i64 ad.rel) := fun z => z.cell c0a
      have L1 : ∀ z : Lat w16, z.wd.cell? ⟨w12.heap.size, 1, none⟩ = some (.slice pad ad.terms.length qad) := fun z => z.cell c1a
      have VU : ∀ z : Lat w16, ints z.wd (.slice pu u.length qu) u fu := fun z => hu9.below' z.ok
      have VD : ∀ z : Lat w16, ints z.wd (.slice pad ad.terms.length qad) ad.terms fad := fun z => had9.below' z.ok
      have VT : ∀ z : Lat w16, Lib.TabBelow Tryz.prog z.wd.heap.size z.wd "internal/strconv.uint64pow10" .u64 Lib.pow10Tab := fun z => Tab.on HLW.out.2.2.1 (bt (bt (bt (bt (bt (bt (bt (bt (bt (bt (bt (bt (bt (bt (bt (bt D1 D2) D3) D4) D5) D6) D7) D8) D9) D10) D11) D12) D13) D14) D15) D16) z.ok)
      clear c0a c1a hu9 had9
      refine wp_region_lat w16 (by kernel_rfl) (by kernel_rfl) ?_
      (try simp only [List.append])
      repeat (go_big_quiet_step ((first
          | (go_at_call 53; with_reducible exact Lat.of (retBL (implIsAtom_any _ u fu ad _ fad _ (VU _) (VD _)) HrA.out))
          | (go_at_call 54; with_reducible exact Lat.of (retBL (specIsAtom_any _ u fu ad _ fad _ (VU _) (VD _)) HrA.out))
          | (go_at_call 55; with_reducible exact Lat.of (retSL (implFormatAtom_any ad _ fad _ (VD _) (VT _)) HtA.out))
          | (go_at_call 56; with_reducible exact Lat.of (retSL (specFormatAtom_any ad _ fad _ (VD _)) HtA.out)))))
      refine wpQuiet_nil ?_
      intro _ hw'
      obtain ⟨z9, hw''⟩ := hw'
      subst hw''
      have hb9 := bt (bt (bt (bt (bt (bt (bt (bt (bt (bt (bt (bt (bt (bt (bt (bt D1 D2) D3) D4) D5) D6) D7) D8) D9) D10) D11) D12) D13) D14) D15) D16) z9.ok
      generalize z9.wd = wz at hb9 ⊢
      clear L0 L1 VU VD VT
      go_wp2
      go_ret
      exact ⟨rfl, hb9⟩
end Go.Proofs.YtpdmdfkcaabnaaaGreatDoor
