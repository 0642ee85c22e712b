/- The laws' helpers at Atom and at slices of it: size, copy, comparison, marks, marks held. Conditions: the sizes that the laws themselves ask. -/
import Derived.Test.YtpdmdfkcaabnaaaGreatHBase
import Derived.StillTailTactics
namespace Go.Proofs.YtpdmdfkcaabnaaaGreat
open Go.RowKit
set_option linter.unusedVariables false
set_option linter.unusedSimpArgs false
instance : DecidableEq AtomD := fun a b => decidable_of_iff (a.rel = b.rel ∧ a.terms = b.terms) (by cases a; cases b; simp)
instance : Inhabited AtomD := ⟨⟨0, []⟩⟩
def bulkAtom (x : AtomD) : Nat := x.terms.length
set_option maxHeartbeats 400000 in
theorem toAtom_any (x : AtomD) (vterms : Value) (w : World) (hterms : intsV w vterms x.terms) (nterms : x.terms.length ≤ 1048576) :
    Calls Tryz.prog 40 #[.agg #[.int .i64 x.rel, vterms]] w fun e w' => ∃ uterms gterms, e = .returned (.agg #[.int .i64 x.rel, uterms]) ∧ ints w' uterms x.terms gterms ∧ Fresh w.heap.size (gterms) ∧ Below w.heap.size w w' := by
  obtain ⟨aterms, cterms, rfl⟩ := slW.form hterms
  have hb0 : ∀ o1 o2 o3 : Obj, Below w.heap.size w (((w.alloc o1).alloc o2).alloc o3) := fun o1 o2 o3 => (((Below.refl _ _).alloc (Nat.le_refl _) _).alloc (by simp) _).alloc (by simp; omega) _
  go_enter Tryz.func40, Tryz.ntmps40
  go_wp2_with fail
  refine (toIntS_any _ x.terms _ (hterms.below' ?_) nterms).mono ?_
  · repeat (refine Below.setCell ?_ (by simp <;> omega) _)
    exact hb0 _ _ _
  rintro e w1 ⟨uterms, gterms, rfl, huterms, hfterms, hb1⟩
  obtain ⟨aterms', cterms', rfl⟩ := slR.form huterms
  have hz1 : w.heap.size + 2 < w1.heap.size := by have := hb1.size; simp at this; omega
  have hz1a : w.heap.size + 1 < w1.heap.size := by omega
  have hz1b : w.heap.size < w1.heap.size := by omega
  obtain ⟨hc1, hzz1⟩ := bcell hb1
  go_wp2
  refine bodyPost_ret (v := .agg #[.int .i64 x.rel, .slice aterms' x.terms.length cterms']) (by simp [results, Tryz.results40, go_sem, hc1, hzz1, hz1, hz1a, hz1b]) rfl ⟨_, gterms, rfl, ?_, ?_, ?_⟩
  · repeat (refine ints.far ?_ (hfterms.notin (by simp <;> omega)) _)
    exact huterms
  · exact hfterms.mono (by simp; omega)
  · repeat (refine Below.setCell ?_ (by simp <;> omega) _)
    exact (hb0 _ _ _).trans (hb1.mono (by simp; omega))
set_option maxHeartbeats 800000 in
theorem eqAtom_any (x y : AtomD) (vterms yterms : Value) (fterms gterms : List Nat) (w : World) (hterms : ints w vterms x.terms fterms) (kterms : ints w yterms y.terms gterms) :
    Calls Tryz.prog 46 #[.agg #[.int .i64 x.rel, vterms], .agg #[.int .i64 y.rel, yterms]] w fun e w' => e = .returned (.bool (decide (x = y))) ∧ Below w.heap.size w w' := by
  obtain ⟨aterms, cterms, rfl⟩ := slR.form hterms
  obtain ⟨bterms, dterms, rfl⟩ := slR.form kterms
  have hb0 : ∀ o1 o2 : Obj, Below w.heap.size w ((w.alloc o1).alloc o2) := fun o1 o2 => ((Below.refl _ _).alloc (Nat.le_refl _) _).alloc (by simp) _
  by_cases erel : x.rel = y.rel
  case neg =>
    have trel : (x.rel != y.rel) = true := by simp [erel]
    have Hfin := Lib.hid (show decide (x = y) = false from decide_eq_false (fun h => erel (by rw [h])))
    clear erel
    go_enter Tryz.func46, Tryz.ntmps46
    go_wp2
    go_ret
    exact ⟨ret_bool (by rw [Hfin.out]), hb0 _ _⟩
  by_cases eterms : x.terms = y.terms
  case neg =>
    have trel : (x.rel != y.rel) = false := by simp [erel]
    have tterms : decide (x.terms = y.terms) = false := by simp [eterms]
    have Hfin := Lib.hid (show decide (x = y) = false from decide_eq_false (fun h => eterms (by rw [h])))
    clear erel
    clear eterms
    go_enter Tryz.func46, Tryz.ntmps46
    go_wp2_with fail
    refine (eqIntS_any _ _ _ _ _ _ _ (hterms.below' (hb0 _ _)) (kterms.below' (hb0 _ _))).mono ?_
    rintro e w1 ⟨rfl, hb1⟩
    have hB1 := Below.trans (hb0 _ _) (hb1.mono (hb0 _ _).size)
    have hz1 : w.heap.size + 1 < w1.heap.size := by have := hb1.size; simp at this; omega
    obtain ⟨hc1, hzz1⟩ := bcell hb1
    go_wp2
    go_ret
    exact ⟨ret_bool (by rw [Hfin.out]), hB1⟩
  have trel : (x.rel != y.rel) = false := by simp [erel]
  have tterms : decide (x.terms = y.terms) = true := by simp [eterms]
  have Hfin := Lib.hid (show decide (x = y) = true from decide_eq_true (by cases x; cases y; simp_all))
  clear erel
  clear eterms
  go_enter Tryz.func46, Tryz.ntmps46
  go_wp2_with fail
  refine (eqIntS_any _ _ _ _ _ _ _ (hterms.below' (hb0 _ _)) (kterms.below' (hb0 _ _))).mono ?_
  rintro e w1 ⟨rfl, hb1⟩
  have hB1 := Below.trans (hb0 _ _) (hb1.mono (hb0 _ _).size)
  have hz1 : w.heap.size + 1 < w1.heap.size := by have := hb1.size; simp at this; omega
  obtain ⟨hc1, hzz1⟩ := bcell hb1
  go_wp2
  go_ret
  exact ⟨ret_bool (by rw [Hfin.out]), hB1⟩
set_option maxHeartbeats 400000 in
theorem szAtom_any (x : AtomD) (vterms : Value) (b : Int) (w : World) (hterms : intsV w vterms x.terms) (hb : 0 ≤ b ∧ b ≤ 1048576) :
    Calls Tryz.prog 34 #[.agg #[.int .i64 x.rel, vterms], .int .i64 b] w fun e w' => e = .returned (.int .i64 (left (bulkAtom x) b)) ∧ Below w.heap.size w w' := by
  obtain ⟨aterms, cterms, rfl⟩ := slW.form hterms
  have hb0 : ∀ o1 : Obj, Below w.heap.size w (w.alloc o1) := fun o1 => (Below.refl _ _).alloc (Nat.le_refl _) _
  have hl := left_cases x.terms.length b hb.1
  rcases hl with ⟨h0, h1⟩ | ⟨h0, h1⟩
  all_goals
    have H1 := Lib.hid h1
    have hlt := left_sign x.terms.length b
    go_enter Tryz.func34, Tryz.ntmps34
    go_wp2_with fail
    refine (szIntS_any _ x.terms b _ (hterms.below' (hb0 _)) hb).mono ?_
    rintro e w1 ⟨rfl, rfl⟩
    go_wp2
    go_ret
    exact ⟨ret_int (by first | rfl | (have := H1.out; unfold bulkAtom; omega)), (hb0 _)⟩
theorem infoAtomS : (Tryz.prog.info? 75).map (fun i => (i.zero, i.size, i.bytes)) = some (some (.agg #[.int .i64 0, .slice none 0 0]), 2, 32) := by kernel_rfl
theorem slAtomS : SlT Tryz.prog 35 75 (.agg #[.int .i64 0, .slice none 0 0]) 2 32 := slT_of Tryz.underlying35 infoAtomS rfl (by decide)
def bulkAtomS (l : List AtomD) : Nat := l.length + (l.map fun x => bulkAtom x).sum
set_option maxHeartbeats 800000 in
theorem toAtomS_any (v : Value) (l : List AtomD) (w : World) (h : atomsV w v l) (hn : l.length ≤ 1048576) (nterms : ∀ x ∈ l, x.terms.length ≤ 1048576) :
    Calls Tryz.prog 27 #[v] w fun e w' => ∃ v' f, e = .returned v' ∧ atoms w' v' l f ∧ Fresh w.heap.size f ∧ Below w.heap.size w w' := by
  obtain ⟨a, cap, rfl⟩ := slW.form h
  have hmk := make_row slAtomS l.length (by omega) (by omega)
  go_enter Tryz.func27, Tryz.ntmps27
  go_wp2
  go_loopw [4] (fun i wr => ∃ (k : Nat) (f : List Nat), i = .int .i64 k ∧ k ≤ l.length ∧ partR 75 2 atomR [.int .i64 0, .slice none 0 0] wr w.heap.size l k f ∧ Fresh (w.heap.size + 1) f ∧ Below w.heap.size w wr) (fun i _ => l.length - (intOf i).toNat)
  case atStart =>
    have h0 := part_start (E := 75) (sz := 2) (R := atomR) w (.agg #[.int .i64 0, .slice none 0 0]) rfl (by decide) l (by unfold maxLen; omega)
    exact ⟨0, [], rfl, Nat.zero_le _, h0, Fresh.nil _, (Below.refl _ _).alloc (Nat.le_refl _) _⟩
  case round =>
    obtain ⟨k, f, rfl, hk, hp, hf, hbel⟩ := hrel
    by_cases hlt : k < l.length
    · obtain ⟨b, off, c, rfl, hcl, hc, xterms, rfl, irel, hterms⟩ := slW.at (h.below' hbel) k hlt
      have hc0 : wr.cell? ⟨b, off + k * 2, none⟩ = _ := hc 0 _ rfl
      have hc1 : wr.cell? ⟨b, off + k * 2 + 1, none⟩ = _ := hc 1 _ rfl
      have mterms := nterms l[k] (List.getElem_mem hlt)
      clear hc
      go_wp2_with fail
      refine (toAtom_any l[k] _ _ hterms mterms).mono ?_
      rintro e w1 ⟨uterms, gterms, rfl, huterms, hfk, hb1⟩
      obtain ⟨aterms', cterms', rfl⟩ := slR.form huterms
      have hp1 := part_below good_atom hp hb1
      have hd0 : w1.cell? ⟨w.heap.size, k * 2, none⟩ = _ := part_cells hp1 hlt rfl 0 _ rfl
      have hz0 := part_frozen hp1 hlt (k * 2)
      have hd1 : w1.cell? ⟨w.heap.size, k * 2 + 1, none⟩ = _ := part_cells hp1 hlt rfl 1 _ rfl
      have hz1 := part_frozen hp1 hlt (k * 2 + 1)
      have hpl := part_lt good_atom hp
      have hs := part_step good_atom (by decide) hp1 hlt rfl (c := [.int .i64 l[k].rel, .slice aterms' l[k].terms.length cterms']) (fk := gterms) rfl ⟨_, rfl, irel, huterms⟩ (hf.notin (by omega)) (hfk.notin hpl.1)
      have hf' := hf.append hfk (by have := hpl.1; omega) hpl.2
      have hb2 := hbel.trans (hb1.mono hbel.size)
      clear hp hp1 hf hpl hc0 hc1 hfk huterms
      go_wp2
      go_roundw
      case rel => exact ⟨k + 1, f ++ (gterms), by go_num, by omega, hs, hf', ((hb2.setCell (Nat.le_refl _) _).setCell (Nat.le_refl _) _)⟩
      case measure => simp [intOf]; omega
    · have hkl : k = l.length := by omega
      have hs := part_full hp hkl
      subst hkl
      go_wp2
      go_ret
      exact ⟨_, _, rfl, hs, ⟨List.nodup_cons.2 ⟨hf.notin (by omega), hf.1⟩, fun g hg => by
        rcases List.mem_cons.1 hg with rfl | hg
        · exact Nat.le_refl _
        · have := hf.2 g hg; omega⟩, hbel⟩
set_option maxRecDepth 100000 in
set_option maxHeartbeats 800000 in
theorem eqAtomS_any (va vb : Value) (l m : List AtomD) (fa fb : List Nat) (w : World) (ha : atoms w va l fa) (hb : atoms w vb m fb) :
    Calls Tryz.prog 32 #[va, vb] w fun e w' => e = .returned (.bool (decide (l = m))) ∧ Below w.heap.size w w' := by
  obtain ⟨a, cap, rfl⟩ := slR.form ha
  obtain ⟨b, cap', rfl⟩ := slR.form hb
  have hla := slR.le_max ha
  by_cases hlen : l.length = m.length
  · have Hlen := Lib.hid hlen
    have hle : m.length ≤ l.length := by omega
    have hge : l.length ≤ m.length := by omega
    have hne0 : ((l.length : Int) != (m.length : Int)) = false := by simp [hlen]
    clear hlen
    go_enter Tryz.func32, Tryz.ntmps32
    go_wp2
    go_loopw [5] (fun i wr => ∃ k : Nat, i = .int .i64 k ∧ k ≤ l.length ∧ Hid (l.take k = m.take k) ∧ Below w.heap.size w wr) (fun i _ => l.length - (intOf i).toNat)
    case atStart => exact ⟨0, rfl, Nat.zero_le _, Lib.hid (by simp), Below.refl _ _⟩
    case round =>
      obtain ⟨k, rfl, hk, HT, hbel⟩ := hrel
      by_cases hlt : k < l.length
      · obtain ⟨g, c, fi, rfl, ⟨pxterms, rfl, pirel, phterms⟩, _, hc, _, _, _⟩ := slR.at (ha.below' hbel) k hlt
        obtain ⟨g', c', fi', rfl, ⟨qxterms, rfl, qirel, qhterms⟩, _, hc', _, _, _⟩ := slR.at (hb.below' hbel) k (by omega)
        have hp0 : wr.cell? ⟨g, k * 2, none⟩ = _ := hc 0 _ rfl
        have hq0 : wr.cell? ⟨g', k * 2, none⟩ = _ := hc' 0 _ rfl
        have hp1 : wr.cell? ⟨g, k * 2 + 1, none⟩ = _ := hc 1 _ rfl
        have hq1 : wr.cell? ⟨g', k * 2 + 1, none⟩ = _ := hc' 1 _ rfl
        clear hc hc'
        have hkm : (k : Int) < (m.length : Int) := by omega
        have hkl : (k : Int) < (l.length : Int) := by omega
        by_cases he : l[k] = m[k]
        · have HS := Lib.hid (take_eq_step hlt (by omega) HT.out he)
          have hne : decide (l[k] = m[k]) = true := by simp [he]
          clear he
          go_wp2
          have Hla := Lib.hid hla; clear hla
          refine wp_region_still_tail 8 (by kernel_rfl) (by kernel_rfl) ?_
          change wpStill _ _ (World.drew _) _ _ _
          simp only [List.take_succ_cons, List.take_zero, List.drop_succ_cons, List.drop_zero]
          iterate 8 still_step
          refine wpStill_nil ?_
          have hla := Hla.out
          change wpList _ _ _ _ _ wr.drew
          go_wp2_with fail
          refine (eqAtom_any l[k] m[k] _ _ _ _ _ (phterms.below' (Below.drew (Below.refl _ _))) (qhterms.below' (Below.drew (Below.refl _ _)))).mono ?_
          rintro e w1 ⟨rfl, hb1⟩
          have hb2 : Below w.heap.size w w1 := Below.trans hbel.drew (hb1.mono hbel.size)
          go_wp2
          go_roundw
          case rel => exact ⟨k + 1, by go_num, by omega, HS, hb2⟩
          case measure => simp [intOf]; omega
        · have Hfin := Lib.hid (ne_of_get hlt (by omega) he)
          have hne : decide (l[k] = m[k]) = false := by simp [he]
          clear he
          go_wp2
          have Hla := Lib.hid hla; clear hla
          refine wp_region_still_tail 8 (by kernel_rfl) (by kernel_rfl) ?_
          change wpStill _ _ (World.drew _) _ _ _
          simp only [List.take_succ_cons, List.take_zero, List.drop_succ_cons, List.drop_zero]
          iterate 8 still_step
          refine wpStill_nil ?_
          have hla := Hla.out
          change wpList _ _ _ _ _ wr.drew
          go_wp2_with fail
          refine (eqAtom_any l[k] m[k] _ _ _ _ _ (phterms.below' (Below.drew (Below.refl _ _))) (qhterms.below' (Below.drew (Below.refl _ _)))).mono ?_
          rintro e w1 ⟨rfl, hb1⟩
          have hb2 : Below w.heap.size w w1 := Below.trans hbel.drew (hb1.mono hbel.size)
          go_wp2
          go_ret
          exact ⟨ret_bool (by simp [Hfin.out]), hb2⟩
      · have hkl : k = l.length := by omega
        have Hfin := Lib.hid (eq_of_take Hlen.out (by have := HT.out; rw [hkl] at this; exact this))
        go_wp2
        go_ret
        exact ⟨ret_bool (by simp [Hfin.out]), hbel⟩
  · have hne0 : ((l.length : Int) != (m.length : Int)) = true := by simp; omega
    have Hfin := Lib.hid (show l ≠ m from fun h => hlen (by rw [h]))
    clear hlen
    go_enter Tryz.func32, Tryz.ntmps32
    go_wp2
    go_ret
    exact ⟨ret_bool (by simp [Hfin.out]), Below.refl _ _⟩
theorem bulkAtomS_left (l : List AtomD) (b : Int) (m k : Nat) (hk : k = l.length) (h : ((l.map fun x => bulkAtom x).take k).sum = m) (hm : 0 ≤ b - (l.length : Int) - (m : Int)) : left (bulkAtomS l) b = b - (l.length : Int) - (m : Int) := by
  unfold bulkAtomS
  have h0 := left_sum (l.map fun x => bulkAtom x) l.length b m k
  exact h0 (by rw [List.length_map]; exact hk) h hm
set_option maxHeartbeats 800000 in
theorem szAtomS_any (v : Value) (l : List AtomD) (b : Int) (w : World) (h : atomsV w v l) (hb : 0 ≤ b ∧ b ≤ 1048576) :
    Calls Tryz.prog 22 #[v, .int .i64 b] w fun e w' => e = .returned (.int .i64 (left (bulkAtomS l) b)) ∧ Below w.heap.size w w' := by
  obtain ⟨a, cap, rfl⟩ := slW.form h
  have hla := slW.le_max h
  by_cases h0 : b - l.length < 0
  · have Hf := Lib.hid (show left (bulkAtomS l) b = -1 from left_neg (by unfold bulkAtomS; omega))
    go_enter Tryz.func22, Tryz.ntmps22
    go_wp2
    go_ret
    exact ⟨ret_int (by rw [Hf.out]), Below.refl _ _⟩
  · go_enter Tryz.func22, Tryz.ntmps22
    go_wp2
    go_loopw [1, 5] (fun x i wr => ∃ k m : Nat, i = .int .i64 k ∧ k ≤ l.length ∧ x = .int .i64 (b - l.length - (m : Int)) ∧ Hid (((l.map fun x => bulkAtom x).take k).sum = m) ∧ 0 ≤ b - l.length - (m : Int) ∧ Below w.heap.size w wr) (fun _ i _ => l.length - (intOf i).toNat)
    case atStart => exact ⟨0, 0, rfl, Nat.zero_le _, by simp, Lib.hid (by simp), by omega, Below.refl _ _⟩
    case round =>
      obtain ⟨k, m, rfl, hk, rfl, HM, hm, hbel⟩ := hrel
      by_cases hlt : k < l.length
      · obtain ⟨bb, off, c, rfl, hcl, hc, xterms, rfl, irel, hterms⟩ := slW.at (h.below' hbel) k hlt
        have hc0 : wr.cell? ⟨bb, off + k * 2, none⟩ = _ := hc 0 _ rfl
        have hc1 : wr.cell? ⟨bb, off + k * 2 + 1, none⟩ = _ := hc 1 _ rfl
        clear hc
        have HN := Lib.hid (sum_take_step (l.map fun x => bulkAtom x) k (by simpa using hlt) m HM.out)
        have hge := sum_take_le (l.map fun x => bulkAtom x) k (by simpa using hlt) m HM.out
        simp only [List.getElem_map] at hge
        have hpos : 0 ≤ b - l.length - (m : Int) ∧ b - l.length - (m : Int) ≤ 1048576 := ⟨hm, by omega⟩
        have hsg := left_sign (bulkAtom l[k]) (b - l.length - (m : Int))
        rcases left_cases (bulkAtom l[k]) (b - l.length - (m : Int)) hm with ⟨h2, h3⟩ | ⟨h2, h3⟩
        · have Hf := Lib.hid (show left (bulkAtomS l) b = -1 from left_neg (by unfold bulkAtomS; have := (left_le_iff h2 h3); omega))
          have H3 := Lib.hid h3; clear h3
          go_wp2_with fail
          refine (szAtom_any l[k] _ _ _ hterms hpos).mono ?_
          rintro e w1 ⟨rfl, hb1⟩
          have hb2 := hbel.trans (hb1.mono hbel.size)
          go_wp2
          go_ret
          exact ⟨ret_int (by rw [Hf.out]), hb2⟩
        · have H3 := Lib.hid h3; clear h3
          go_wp2_with fail
          refine (szAtom_any l[k] _ _ _ hterms hpos).mono ?_
          rintro e w1 ⟨rfl, hb1⟩
          have hb2 := hbel.trans (hb1.mono hbel.size)
          go_wp2
          go_roundw
          case rel => exact ⟨k + 1, m + (bulkAtom l[k]), by go_num, by omega, by rw [H3.out]; go_num, Lib.hid (by have := HN.out; simpa using this), by have := H3.out; omega, hb2⟩
          case measure => simp [intOf]; omega
      · have hkl : k = l.length := by omega
        have Hf := Lib.hid (bulkAtomS_left l b m k hkl HM.out hm)
        subst hkl
        go_wp2
        go_ret
        exact ⟨ret_int (by rw [Hf.out]), hbel⟩
def markAtomD (k : Int) (x : AtomD) : AtomD := { rel := k, terms := marks (k + 1) x.terms.length }
def cntAtom (x : AtomD) : Nat := 1 + x.terms.length
set_option maxRecDepth 100000 in
set_option maxHeartbeats 1600000 in
theorem markAtomS_any (v : Value) (l : List AtomD) (f : List Nat) (k0 : Int) (w : World) (h : atoms w v l f) (hnd : f.Nodup) (hk0 : 0 ≤ k0) (hk1 : k0 + ((l.map cntAtom).sum : Nat) ≤ 1000000000) :
    Calls Tryz.prog 33 #[v, .int .i64 k0] w fun e w' => e = .returned (.int .i64 (k0 + ((l.map cntAtom).sum : Nat))) ∧ atoms w' v (markL markAtomD cntAtom k0 l) f ∧ Wrote f w w' := by
  obtain ⟨a, cap, rfl⟩ := slR.form h
  have hla := slR.le_max h
  go_enter Tryz.func33, Tryz.ntmps33
  go_wp2
  go_loopw [1, 5] (fun x i wr => ∃ j m : Nat, i = .int .i64 j ∧ j ≤ l.length ∧ x = .int .i64 (k0 + m) ∧ Hid (((l.map cntAtom).take j).sum = m) ∧ atoms wr (.slice a l.length cap) (markL markAtomD cntAtom k0 (l.take j) ++ l.drop j) f ∧ Wrote f w wr) (fun _ i _ => l.length - (intOf i).toNat)
  case atStart => exact ⟨0, 0, rfl, Nat.zero_le _, by simp, Lib.hid (by simp), by simpa [markL] using h, Wrote.refl _ _⟩
  case round =>
    obtain ⟨j, m, rfl, hj, rfl, HM, hr, hwr⟩ := hrel
    by_cases hlt : j < l.length
    · have hjl : j < (markL markAtomD cntAtom k0 (l.take j) ++ l.drop j).length := by simp [markL_length]; omega
      have hle : m + cntAtom l[j] ≤ (l.map cntAtom).sum := by have := sum_take_le (l.map cntAtom) j (by simpa using hlt) m HM.out; simpa using this
      have hcnt : cntAtom l[j] = 1 + l[j].terms.length := rfl
      have HS := Lib.hid (markL_step (mk := markAtomD) (cnt := cntAtom) k0 l j hlt m HM.out)
      have HN := Lib.hid (sum_take_step (l.map cntAtom) j (by simpa using hlt) m HM.out)
      obtain ⟨g, c, fi, rfl, ho, hR⟩ := slR.open good_atom hr hnd hjl
      rw [markL_at k0 l j hlt hjl] at hR
      obtain ⟨xterms, rfl, irel, hterms⟩ := hR
      have hmem := ho.mem
      clear hr h
      have hc0_0 : wr.cell? ⟨g, j * 2, none⟩ = _ := ho.cell (by omega) 0 _ rfl
      have hz0_0 := ho.frozen (by omega) (j * 2)
      have hc0_1 : wr.cell? ⟨g, j * 2 + 1, none⟩ = _ := ho.cell (by omega) 1 _ rfl
      have hz0_1 := ho.frozen (by omega) (j * 2 + 1)
      have ho0 := ho.store 0 (by decide) (.int .i64 (k0 + (m : Int)))
      have hterms_0 : ints (wr.setCell ⟨g, j * 2, none⟩ (.int .i64 (k0 + (m : Int)))) xterms _ fi := ints.far hterms (p := ⟨g, j * 2, none⟩) (fun hx => hmem.2.1 (by simp [hx])) _
      go_wp2_with fail
      refine (markIntS_any _ l[j].terms fi _ _ hterms_0 ⟨by omega, by omega⟩ (by omega)).mono ?_
      rintro e w1 ⟨rfl, hmterms, hw1⟩
      have ho1 := ho0.wrote hw1 (fun x hx => by simp [hx])
      have hs := ho1.shut (d := markAtomD (k0 + (m : Int)) l[j]) (by exact ⟨_, rfl, (by show I64 (k0 + (m : Int)); unfold I64; omega), hmterms⟩)
      rw [HS.out] at hs
      have hwr0 := Wrote.setCell hwr (p := ⟨g, j * 2, none⟩) hmem.1 (.int .i64 (k0 + (m : Int)))
      have hwr1 := Wrote.trans hwr0 (Wrote.mono hw1 (fun x hx => hmem.2.2.1 x (by simp [hx])))
      clear hmem ho
      go_wp2
      go_roundw
      case rel => exact ⟨j + 1, m + cntAtom l[j], by go_num, by omega, by rw [hcnt]; go_num, Lib.hid (by have := HN.out; simpa using this), hs, hwr1⟩
      case measure => simp [intOf]; omega
    · have hkl : j = l.length := by omega
      have HM2 := Lib.hid (show (l.map cntAtom).sum = m by have := HM.out; rw [hkl, List.take_of_length_le (by simp)] at this; exact this)
      have hr' : atoms wr (.slice a l.length cap) (markL markAtomD cntAtom k0 l) f := by rw [hkl] at hr; simpa using hr
      subst hkl
      clear hr
      go_wp2
      go_ret
      exact ⟨ret_int (by rw [HM2.out]), hr', hwr⟩
end Go.Proofs.YtpdmdfkcaabnaaaGreat
