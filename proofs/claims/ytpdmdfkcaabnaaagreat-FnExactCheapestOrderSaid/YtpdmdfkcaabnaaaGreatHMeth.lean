/- The laws' helpers at Method and at slices of it: size, copy, comparison, marks, marks held. Conditions: the sizes that the laws themselves ask. -/
import Derived.Test.YtpdmdfkcaabnaaaGreatHBase
import Derived.StillTailTactics
namespace Go.Proofs.YtpdmdfkcaabnaaaGreat
open Go.RowKit
set_option linter.unusedVariables false
set_option linter.unusedSimpArgs false
instance : DecidableEq MethD := fun a b => decidable_of_iff (a.rel = b.rel ∧ a.inputs = b.inputs ∧ a.limit = b.limit ∧ a.cost = b.cost ∧ a.quota = b.quota) (by cases a; cases b; simp)
instance : Inhabited MethD := ⟨⟨0, [], 0, 0, 0⟩⟩
def bulkMethod (x : MethD) : Nat := x.inputs.length
set_option maxHeartbeats 400000 in
theorem toMethod_any (x : MethD) (vinputs : Value) (w : World) (hinputs : intsV w vinputs x.inputs) (ninputs : x.inputs.length ≤ 1048576) :
    Calls Tryz.prog 26 #[.agg #[.int .i64 x.rel, vinputs, .int .i64 x.limit, .int .i64 x.cost, .int .i64 x.quota]] w fun e w' => ∃ uinputs ginputs, e = .returned (.agg #[.int .i64 x.rel, uinputs, .int .i64 x.limit, .int .i64 x.cost, .int .i64 x.quota]) ∧ ints w' uinputs x.inputs ginputs ∧ Fresh w.heap.size (ginputs) ∧ Below w.heap.size w w' := by
  obtain ⟨ainputs, cinputs, rfl⟩ := slW.form hinputs
  have hb0 : ∀ o1 o2 o3 : Obj, Below w.heap.size w (((w.alloc o1).alloc o2).alloc o3) := fun o1 o2 o3 => (((Below.refl _ _).alloc (Nat.le_refl _) _).alloc (by simp) _).alloc (by simp; omega) _
  go_enter Tryz.func26, Tryz.ntmps26
  go_wp2_with fail
  refine (toIntS_any _ x.inputs _ (hinputs.below' ?_) ninputs).mono ?_
  · repeat (refine Below.setCell ?_ (by simp <;> omega) _)
    exact hb0 _ _ _
  rintro e w1 ⟨uinputs, ginputs, rfl, huinputs, hfinputs, hb1⟩
  obtain ⟨ainputs', cinputs', rfl⟩ := slR.form huinputs
  have hz1 : w.heap.size + 2 < w1.heap.size := by have := hb1.size; simp at this; omega
  have hz1a : w.heap.size + 1 < w1.heap.size := by omega
  have hz1b : w.heap.size < w1.heap.size := by omega
  obtain ⟨hc1, hzz1⟩ := bcell hb1
  go_wp2
  refine bodyPost_ret (v := .agg #[.int .i64 x.rel, .slice ainputs' x.inputs.length cinputs', .int .i64 x.limit, .int .i64 x.cost, .int .i64 x.quota]) (by simp [results, Tryz.results26, go_sem, hc1, hzz1, hz1, hz1a, hz1b]) rfl ⟨_, ginputs, rfl, ?_, ?_, ?_⟩
  · repeat (refine ints.far ?_ (hfinputs.notin (by simp <;> omega)) _)
    exact huinputs
  · exact hfinputs.mono (by simp; omega)
  · repeat (refine Below.setCell ?_ (by simp <;> omega) _)
    exact (hb0 _ _ _).trans (hb1.mono (by simp; omega))
set_option maxHeartbeats 800000 in
theorem eqMethod_any (x y : MethD) (vinputs yinputs : Value) (finputs ginputs : List Nat) (w : World) (hinputs : ints w vinputs x.inputs finputs) (kinputs : ints w yinputs y.inputs ginputs) :
    Calls Tryz.prog 31 #[.agg #[.int .i64 x.rel, vinputs, .int .i64 x.limit, .int .i64 x.cost, .int .i64 x.quota], .agg #[.int .i64 y.rel, yinputs, .int .i64 y.limit, .int .i64 y.cost, .int .i64 y.quota]] w fun e w' => e = .returned (.bool (decide (x = y))) ∧ Below w.heap.size w w' := by
  obtain ⟨ainputs, cinputs, rfl⟩ := slR.form hinputs
  obtain ⟨binputs, dinputs, rfl⟩ := slR.form kinputs
  have hb0 : ∀ o1 o2 : Obj, Below w.heap.size w ((w.alloc o1).alloc o2) := fun o1 o2 => ((Below.refl _ _).alloc (Nat.le_refl _) _).alloc (by simp) _
  by_cases erel : x.rel = y.rel
  case neg =>
    have trel : (x.rel != y.rel) = true := by simp [erel]
    have Hfin := Lib.hid (show decide (x = y) = false from decide_eq_false (fun h => erel (by rw [h])))
    clear erel
    go_enter Tryz.func31, Tryz.ntmps31
    go_wp2
    go_ret
    exact ⟨ret_bool (by rw [Hfin.out]), hb0 _ _⟩
  by_cases einputs : x.inputs = y.inputs
  case neg =>
    have trel : (x.rel != y.rel) = false := by simp [erel]
    have tinputs : decide (x.inputs = y.inputs) = false := by simp [einputs]
    have Hfin := Lib.hid (show decide (x = y) = false from decide_eq_false (fun h => einputs (by rw [h])))
    clear erel
    clear einputs
    go_enter Tryz.func31, Tryz.ntmps31
    go_wp2_with fail
    refine (eqIntS_any _ _ _ _ _ _ _ (hinputs.below' (hb0 _ _)) (kinputs.below' (hb0 _ _))).mono ?_
    rintro e w1 ⟨rfl, hb1⟩
    have hB1 := Below.trans (hb0 _ _) (hb1.mono (hb0 _ _).size)
    have hz1 : w.heap.size + 1 < w1.heap.size := by have := hb1.size; simp at this; omega
    obtain ⟨hc1, hzz1⟩ := bcell hb1
    go_wp2
    go_ret
    exact ⟨ret_bool (by rw [Hfin.out]), hB1⟩
  by_cases elimit : x.limit = y.limit
  case neg =>
    have trel : (x.rel != y.rel) = false := by simp [erel]
    have tinputs : decide (x.inputs = y.inputs) = true := by simp [einputs]
    have tlimit : (x.limit != y.limit) = true := by simp [elimit]
    have Hfin := Lib.hid (show decide (x = y) = false from decide_eq_false (fun h => elimit (by rw [h])))
    clear erel
    clear einputs
    clear elimit
    go_enter Tryz.func31, Tryz.ntmps31
    go_wp2_with fail
    refine (eqIntS_any _ _ _ _ _ _ _ (hinputs.below' (hb0 _ _)) (kinputs.below' (hb0 _ _))).mono ?_
    rintro e w1 ⟨rfl, hb1⟩
    have hB1 := Below.trans (hb0 _ _) (hb1.mono (hb0 _ _).size)
    have hz1 : w.heap.size + 1 < w1.heap.size := by have := hb1.size; simp at this; omega
    obtain ⟨hc1, hzz1⟩ := bcell hb1
    go_wp2
    go_ret
    exact ⟨ret_bool (by rw [Hfin.out]), hB1⟩
  by_cases ecost : x.cost = y.cost
  case neg =>
    have trel : (x.rel != y.rel) = false := by simp [erel]
    have tinputs : decide (x.inputs = y.inputs) = true := by simp [einputs]
    have tlimit : (x.limit != y.limit) = false := by simp [elimit]
    have tcost : (x.cost != y.cost) = true := by simp [ecost]
    have Hfin := Lib.hid (show decide (x = y) = false from decide_eq_false (fun h => ecost (by rw [h])))
    clear erel
    clear einputs
    clear elimit
    clear ecost
    go_enter Tryz.func31, Tryz.ntmps31
    go_wp2_with fail
    refine (eqIntS_any _ _ _ _ _ _ _ (hinputs.below' (hb0 _ _)) (kinputs.below' (hb0 _ _))).mono ?_
    rintro e w1 ⟨rfl, hb1⟩
    have hB1 := Below.trans (hb0 _ _) (hb1.mono (hb0 _ _).size)
    have hz1 : w.heap.size + 1 < w1.heap.size := by have := hb1.size; simp at this; omega
    obtain ⟨hc1, hzz1⟩ := bcell hb1
    go_wp2
    go_ret
    exact ⟨ret_bool (by rw [Hfin.out]), hB1⟩
  by_cases equota : x.quota = y.quota
  case neg =>
    have trel : (x.rel != y.rel) = false := by simp [erel]
    have tinputs : decide (x.inputs = y.inputs) = true := by simp [einputs]
    have tlimit : (x.limit != y.limit) = false := by simp [elimit]
    have tcost : (x.cost != y.cost) = false := by simp [ecost]
    have tquota : (x.quota != y.quota) = true := by simp [equota]
    have Hfin := Lib.hid (show decide (x = y) = false from decide_eq_false (fun h => equota (by rw [h])))
    clear erel
    clear einputs
    clear elimit
    clear ecost
    clear equota
    go_enter Tryz.func31, Tryz.ntmps31
    go_wp2_with fail
    refine (eqIntS_any _ _ _ _ _ _ _ (hinputs.below' (hb0 _ _)) (kinputs.below' (hb0 _ _))).mono ?_
    rintro e w1 ⟨rfl, hb1⟩
    have hB1 := Below.trans (hb0 _ _) (hb1.mono (hb0 _ _).size)
    have hz1 : w.heap.size + 1 < w1.heap.size := by have := hb1.size; simp at this; omega
    obtain ⟨hc1, hzz1⟩ := bcell hb1
    go_wp2
    go_ret
    exact ⟨ret_bool (by rw [Hfin.out]), hB1⟩
  have trel : (x.rel != y.rel) = false := by simp [erel]
  have tinputs : decide (x.inputs = y.inputs) = true := by simp [einputs]
  have tlimit : (x.limit != y.limit) = false := by simp [elimit]
  have tcost : (x.cost != y.cost) = false := by simp [ecost]
  have tquota : (x.quota != y.quota) = false := by simp [equota]
  have Hfin := Lib.hid (show decide (x = y) = true from decide_eq_true (by cases x; cases y; simp_all))
  clear erel
  clear einputs
  clear elimit
  clear ecost
  clear equota
  go_enter Tryz.func31, Tryz.ntmps31
  go_wp2_with fail
  refine (eqIntS_any _ _ _ _ _ _ _ (hinputs.below' (hb0 _ _)) (kinputs.below' (hb0 _ _))).mono ?_
  rintro e w1 ⟨rfl, hb1⟩
  have hB1 := Below.trans (hb0 _ _) (hb1.mono (hb0 _ _).size)
  have hz1 : w.heap.size + 1 < w1.heap.size := by have := hb1.size; simp at this; omega
  obtain ⟨hc1, hzz1⟩ := bcell hb1
  go_wp2
  go_ret
  exact ⟨ret_bool (by rw [Hfin.out]), hB1⟩
set_option maxHeartbeats 400000 in
theorem szMethod_any (x : MethD) (vinputs : Value) (b : Int) (w : World) (hinputs : intsV w vinputs x.inputs) (hb : 0 ≤ b ∧ b ≤ 1048576) :
    Calls Tryz.prog 20 #[.agg #[.int .i64 x.rel, vinputs, .int .i64 x.limit, .int .i64 x.cost, .int .i64 x.quota], .int .i64 b] w fun e w' => e = .returned (.int .i64 (left (bulkMethod x) b)) ∧ Below w.heap.size w w' := by
  obtain ⟨ainputs, cinputs, rfl⟩ := slW.form hinputs
  have hb0 : ∀ o1 : Obj, Below w.heap.size w (w.alloc o1) := fun o1 => (Below.refl _ _).alloc (Nat.le_refl _) _
  have hl := left_cases x.inputs.length b hb.1
  rcases hl with ⟨h0, h1⟩ | ⟨h0, h1⟩
  all_goals
    have H1 := Lib.hid h1
    have hlt := left_sign x.inputs.length b
    go_enter Tryz.func20, Tryz.ntmps20
    go_wp2_with fail
    refine (szIntS_any _ x.inputs b _ (hinputs.below' (hb0 _)) hb).mono ?_
    rintro e w1 ⟨rfl, rfl⟩
    go_wp2
    go_ret
    exact ⟨ret_int (by first | rfl | (have := H1.out; unfold bulkMethod; omega)), (hb0 _)⟩
theorem infoMethodS : (Tryz.prog.info? 55).map (fun i => (i.zero, i.size, i.bytes)) = some (some (.agg #[.int .i64 0, .slice none 0 0, .int .i64 0, .int .i64 0, .int .i64 0]), 5, 56) := by kernel_rfl
theorem slMethodS : SlT Tryz.prog 33 55 (.agg #[.int .i64 0, .slice none 0 0, .int .i64 0, .int .i64 0, .int .i64 0]) 5 56 := slT_of Tryz.underlying33 infoMethodS rfl (by decide)
def bulkMethodS (l : List MethD) : Nat := l.length + (l.map fun x => bulkMethod x).sum
set_option maxHeartbeats 800000 in
theorem toMethodS_any (v : Value) (l : List MethD) (w : World) (h : methsV w v l) (hn : l.length ≤ 1048576) (ninputs : ∀ x ∈ l, x.inputs.length ≤ 1048576) :
    Calls Tryz.prog 8 #[v] w fun e w' => ∃ v' f, e = .returned v' ∧ meths w' v' l f ∧ Fresh w.heap.size f ∧ Below w.heap.size w w' := by
  obtain ⟨a, cap, rfl⟩ := slW.form h
  have hmk := make_row slMethodS l.length (by omega) (by omega)
  go_enter Tryz.func8, Tryz.ntmps8
  go_wp2
  go_loopw [4] (fun i wr => ∃ (k : Nat) (f : List Nat), i = .int .i64 k ∧ k ≤ l.length ∧ partR 55 5 methR [.int .i64 0, .slice none 0 0, .int .i64 0, .int .i64 0, .int .i64 0] wr w.heap.size l k f ∧ Fresh (w.heap.size + 1) f ∧ Below w.heap.size w wr) (fun i _ => l.length - (intOf i).toNat)
  case atStart =>
    have h0 := part_start (E := 55) (sz := 5) (R := methR) w (.agg #[.int .i64 0, .slice none 0 0, .int .i64 0, .int .i64 0, .int .i64 0]) rfl (by decide) l (by unfold maxLen; omega)
    exact ⟨0, [], rfl, Nat.zero_le _, h0, Fresh.nil _, (Below.refl _ _).alloc (Nat.le_refl _) _⟩
  case round =>
    obtain ⟨k, f, rfl, hk, hp, hf, hbel⟩ := hrel
    by_cases hlt : k < l.length
    · obtain ⟨b, off, c, rfl, hcl, hc, xinputs, rfl, irel, ilimit, icost, iquota, hinputs⟩ := slW.at (h.below' hbel) k hlt
      have hc0 : wr.cell? ⟨b, off + k * 5, none⟩ = _ := hc 0 _ rfl
      have hc1 : wr.cell? ⟨b, off + k * 5 + 1, none⟩ = _ := hc 1 _ rfl
      have hc2 : wr.cell? ⟨b, off + k * 5 + 2, none⟩ = _ := hc 2 _ rfl
      have hc3 : wr.cell? ⟨b, off + k * 5 + 3, none⟩ = _ := hc 3 _ rfl
      have hc4 : wr.cell? ⟨b, off + k * 5 + 4, none⟩ = _ := hc 4 _ rfl
      have minputs := ninputs l[k] (List.getElem_mem hlt)
      clear hc
      go_wp2_with fail
      refine (toMethod_any l[k] _ _ hinputs minputs).mono ?_
      rintro e w1 ⟨uinputs, ginputs, rfl, huinputs, hfk, hb1⟩
      obtain ⟨ainputs', cinputs', rfl⟩ := slR.form huinputs
      have hp1 := part_below good_meth hp hb1
      have hd0 : w1.cell? ⟨w.heap.size, k * 5, none⟩ = _ := part_cells hp1 hlt rfl 0 _ rfl
      have hz0 := part_frozen hp1 hlt (k * 5)
      have hd1 : w1.cell? ⟨w.heap.size, k * 5 + 1, none⟩ = _ := part_cells hp1 hlt rfl 1 _ rfl
      have hz1 := part_frozen hp1 hlt (k * 5 + 1)
      have hd2 : w1.cell? ⟨w.heap.size, k * 5 + 2, none⟩ = _ := part_cells hp1 hlt rfl 2 _ rfl
      have hz2 := part_frozen hp1 hlt (k * 5 + 2)
      have hd3 : w1.cell? ⟨w.heap.size, k * 5 + 3, none⟩ = _ := part_cells hp1 hlt rfl 3 _ rfl
      have hz3 := part_frozen hp1 hlt (k * 5 + 3)
      have hd4 : w1.cell? ⟨w.heap.size, k * 5 + 4, none⟩ = _ := part_cells hp1 hlt rfl 4 _ rfl
      have hz4 := part_frozen hp1 hlt (k * 5 + 4)
      have hpl := part_lt good_meth hp
      have hs := part_step good_meth (by decide) hp1 hlt rfl (c := [.int .i64 l[k].rel, .slice ainputs' l[k].inputs.length cinputs', .int .i64 l[k].limit, .int .i64 l[k].cost, .int .i64 l[k].quota]) (fk := ginputs) rfl ⟨_, rfl, irel, ilimit, icost, iquota, huinputs⟩ (hf.notin (by omega)) (hfk.notin hpl.1)
      have hf' := hf.append hfk (by have := hpl.1; omega) hpl.2
      have hb2 := hbel.trans (hb1.mono hbel.size)
      clear hp hp1 hf hpl hc0 hc1 hc2 hc3 hc4 hfk huinputs
      go_wp2
      go_roundw
      case rel => exact ⟨k + 1, f ++ (ginputs), by go_num, by omega, hs, hf', (((((hb2.setCell (Nat.le_refl _) _).setCell (Nat.le_refl _) _).setCell (Nat.le_refl _) _).setCell (Nat.le_refl _) _).setCell (Nat.le_refl _) _)⟩
      case measure => simp [intOf]; omega
    · have hkl : k = l.length := by omega
      have hs := part_full hp hkl
      subst hkl
      go_wp2
      go_ret
      exact ⟨_, _, rfl, hs, ⟨List.nodup_cons.2 ⟨hf.notin (by omega), hf.1⟩, fun g hg => by
        rcases List.mem_cons.1 hg with rfl | hg
        · exact Nat.le_refl _
        · have := hf.2 g hg; omega⟩, hbel⟩
set_option maxRecDepth 100000 in
set_option maxHeartbeats 800000 in
theorem eqMethodS_any (va vb : Value) (l m : List MethD) (fa fb : List Nat) (w : World) (ha : meths w va l fa) (hb : meths w vb m fb) :
    Calls Tryz.prog 13 #[va, vb] w fun e w' => e = .returned (.bool (decide (l = m))) ∧ Below w.heap.size w w' := by
  obtain ⟨a, cap, rfl⟩ := slR.form ha
  obtain ⟨b, cap', rfl⟩ := slR.form hb
  have hla := slR.le_max ha
  by_cases hlen : l.length = m.length
  · have Hlen := Lib.hid hlen
    have hle : m.length ≤ l.length := by omega
    have hge : l.length ≤ m.length := by omega
    have hne0 : ((l.length : Int) != (m.length : Int)) = false := by simp [hlen]
    clear hlen
    go_enter Tryz.func13, Tryz.ntmps13
    go_wp2
    go_loopw [5] (fun i wr => ∃ k : Nat, i = .int .i64 k ∧ k ≤ l.length ∧ Hid (l.take k = m.take k) ∧ Below w.heap.size w wr) (fun i _ => l.length - (intOf i).toNat)
    case atStart => exact ⟨0, rfl, Nat.zero_le _, Lib.hid (by simp), Below.refl _ _⟩
    case round =>
      obtain ⟨k, rfl, hk, HT, hbel⟩ := hrel
      by_cases hlt : k < l.length
      · obtain ⟨g, c, fi, rfl, ⟨pxinputs, rfl, pirel, pilimit, picost, piquota, phinputs⟩, _, hc, _, _, _⟩ := slR.at (ha.below' hbel) k hlt
        obtain ⟨g', c', fi', rfl, ⟨qxinputs, rfl, qirel, qilimit, qicost, qiquota, qhinputs⟩, _, hc', _, _, _⟩ := slR.at (hb.below' hbel) k (by omega)
        have hp0 : wr.cell? ⟨g, k * 5, none⟩ = _ := hc 0 _ rfl
        have hq0 : wr.cell? ⟨g', k * 5, none⟩ = _ := hc' 0 _ rfl
        have hp1 : wr.cell? ⟨g, k * 5 + 1, none⟩ = _ := hc 1 _ rfl
        have hq1 : wr.cell? ⟨g', k * 5 + 1, none⟩ = _ := hc' 1 _ rfl
        have hp2 : wr.cell? ⟨g, k * 5 + 2, none⟩ = _ := hc 2 _ rfl
        have hq2 : wr.cell? ⟨g', k * 5 + 2, none⟩ = _ := hc' 2 _ rfl
        have hp3 : wr.cell? ⟨g, k * 5 + 3, none⟩ = _ := hc 3 _ rfl
        have hq3 : wr.cell? ⟨g', k * 5 + 3, none⟩ = _ := hc' 3 _ rfl
        have hp4 : wr.cell? ⟨g, k * 5 + 4, none⟩ = _ := hc 4 _ rfl
        have hq4 : wr.cell? ⟨g', k * 5 + 4, none⟩ = _ := hc' 4 _ rfl
        clear hc hc'
        have hkm : (k : Int) < (m.length : Int) := by omega
        have hkl : (k : Int) < (l.length : Int) := by omega
        by_cases he : l[k] = m[k]
        · have HS := Lib.hid (take_eq_step hlt (by omega) HT.out he)
          have hne : decide (l[k] = m[k]) = true := by simp [he]
          clear he
          go_wp2
          have Hla := Lib.hid hla; clear hla
          refine wp_region_still_tail 8 (by kernel_rfl) (by kernel_rfl) ?_
          change wpStill _ _ (World.drew _) _ _ _
          simp only [List.take_succ_cons, List.take_zero, List.drop_succ_cons, List.drop_zero]
          iterate 8 still_step
          refine wpStill_nil ?_
          have hla := Hla.out
          change wpList _ _ _ _ _ wr.drew
          go_wp2_with fail
          refine (eqMethod_any l[k] m[k] _ _ _ _ _ (phinputs.below' (Below.drew (Below.refl _ _))) (qhinputs.below' (Below.drew (Below.refl _ _)))).mono ?_
          rintro e w1 ⟨rfl, hb1⟩
          have hb2 : Below w.heap.size w w1 := Below.trans hbel.drew (hb1.mono hbel.size)
          go_wp2
          go_roundw
          case rel => exact ⟨k + 1, by go_num, by omega, HS, hb2⟩
          case measure => simp [intOf]; omega
        · have Hfin := Lib.hid (ne_of_get hlt (by omega) he)
          have hne : decide (l[k] = m[k]) = false := by simp [he]
          clear he
          go_wp2
          have Hla := Lib.hid hla; clear hla
          refine wp_region_still_tail 8 (by kernel_rfl) (by kernel_rfl) ?_
          change wpStill _ _ (World.drew _) _ _ _
          simp only [List.take_succ_cons, List.take_zero, List.drop_succ_cons, List.drop_zero]
          iterate 8 still_step
          refine wpStill_nil ?_
          have hla := Hla.out
          change wpList _ _ _ _ _ wr.drew
          go_wp2_with fail
          refine (eqMethod_any l[k] m[k] _ _ _ _ _ (phinputs.below' (Below.drew (Below.refl _ _))) (qhinputs.below' (Below.drew (Below.refl _ _)))).mono ?_
          rintro e w1 ⟨rfl, hb1⟩
          have hb2 : Below w.heap.size w w1 := Below.trans hbel.drew (hb1.mono hbel.size)
          go_wp2
          go_ret
          exact ⟨ret_bool (by simp [Hfin.out]), hb2⟩
      · have hkl : k = l.length := by omega
        have Hfin := Lib.hid (eq_of_take Hlen.out (by have := HT.out; rw [hkl] at this; exact this))
        go_wp2
        go_ret
        exact ⟨ret_bool (by simp [Hfin.out]), hbel⟩
  · have hne0 : ((l.length : Int) != (m.length : Int)) = true := by simp; omega
    have Hfin := Lib.hid (show l ≠ m from fun h => hlen (by rw [h]))
    clear hlen
    go_enter Tryz.func13, Tryz.ntmps13
    go_wp2
    go_ret
    exact ⟨ret_bool (by simp [Hfin.out]), Below.refl _ _⟩
theorem bulkMethodS_left (l : List MethD) (b : Int) (m k : Nat) (hk : k = l.length) (h : ((l.map fun x => bulkMethod x).take k).sum = m) (hm : 0 ≤ b - (l.length : Int) - (m : Int)) : left (bulkMethodS l) b = b - (l.length : Int) - (m : Int) := by
  unfold bulkMethodS
  have h0 := left_sum (l.map fun x => bulkMethod x) l.length b m k
  exact h0 (by rw [List.length_map]; exact hk) h hm
set_option maxHeartbeats 800000 in
theorem szMethodS_any (v : Value) (l : List MethD) (b : Int) (w : World) (h : methsV w v l) (hb : 0 ≤ b ∧ b ≤ 1048576) :
    Calls Tryz.prog 4 #[v, .int .i64 b] w fun e w' => e = .returned (.int .i64 (left (bulkMethodS l) b)) ∧ Below w.heap.size w w' := by
  obtain ⟨a, cap, rfl⟩ := slW.form h
  have hla := slW.le_max h
  by_cases h0 : b - l.length < 0
  · have Hf := Lib.hid (show left (bulkMethodS l) b = -1 from left_neg (by unfold bulkMethodS; omega))
    go_enter Tryz.func4, Tryz.ntmps4
    go_wp2
    go_ret
    exact ⟨ret_int (by rw [Hf.out]), Below.refl _ _⟩
  · go_enter Tryz.func4, Tryz.ntmps4
    go_wp2
    go_loopw [1, 5] (fun x i wr => ∃ k m : Nat, i = .int .i64 k ∧ k ≤ l.length ∧ x = .int .i64 (b - l.length - (m : Int)) ∧ Hid (((l.map fun x => bulkMethod x).take k).sum = m) ∧ 0 ≤ b - l.length - (m : Int) ∧ Below w.heap.size w wr) (fun _ i _ => l.length - (intOf i).toNat)
    case atStart => exact ⟨0, 0, rfl, Nat.zero_le _, by simp, Lib.hid (by simp), by omega, Below.refl _ _⟩
    case round =>
      obtain ⟨k, m, rfl, hk, rfl, HM, hm, hbel⟩ := hrel
      by_cases hlt : k < l.length
      · obtain ⟨bb, off, c, rfl, hcl, hc, xinputs, rfl, irel, ilimit, icost, iquota, hinputs⟩ := slW.at (h.below' hbel) k hlt
        have hc0 : wr.cell? ⟨bb, off + k * 5, none⟩ = _ := hc 0 _ rfl
        have hc1 : wr.cell? ⟨bb, off + k * 5 + 1, none⟩ = _ := hc 1 _ rfl
        have hc2 : wr.cell? ⟨bb, off + k * 5 + 2, none⟩ = _ := hc 2 _ rfl
        have hc3 : wr.cell? ⟨bb, off + k * 5 + 3, none⟩ = _ := hc 3 _ rfl
        have hc4 : wr.cell? ⟨bb, off + k * 5 + 4, none⟩ = _ := hc 4 _ rfl
        clear hc
        have HN := Lib.hid (sum_take_step (l.map fun x => bulkMethod x) k (by simpa using hlt) m HM.out)
        have hge := sum_take_le (l.map fun x => bulkMethod x) k (by simpa using hlt) m HM.out
        simp only [List.getElem_map] at hge
        have hpos : 0 ≤ b - l.length - (m : Int) ∧ b - l.length - (m : Int) ≤ 1048576 := ⟨hm, by omega⟩
        have hsg := left_sign (bulkMethod l[k]) (b - l.length - (m : Int))
        rcases left_cases (bulkMethod l[k]) (b - l.length - (m : Int)) hm with ⟨h2, h3⟩ | ⟨h2, h3⟩
        · have Hf := Lib.hid (show left (bulkMethodS l) b = -1 from left_neg (by unfold bulkMethodS; have := (left_le_iff h2 h3); omega))
          have H3 := Lib.hid h3; clear h3
          go_wp2_with fail
          refine (szMethod_any l[k] _ _ _ hinputs hpos).mono ?_
          rintro e w1 ⟨rfl, hb1⟩
          have hb2 := hbel.trans (hb1.mono hbel.size)
          go_wp2
          go_ret
          exact ⟨ret_int (by rw [Hf.out]), hb2⟩
        · have H3 := Lib.hid h3; clear h3
          go_wp2_with fail
          refine (szMethod_any l[k] _ _ _ hinputs hpos).mono ?_
          rintro e w1 ⟨rfl, hb1⟩
          have hb2 := hbel.trans (hb1.mono hbel.size)
          go_wp2
          go_roundw
          case rel => exact ⟨k + 1, m + (bulkMethod l[k]), by go_num, by omega, by rw [H3.out]; go_num, Lib.hid (by have := HN.out; simpa using this), by have := H3.out; omega, hb2⟩
          case measure => simp [intOf]; omega
      · have hkl : k = l.length := by omega
        have Hf := Lib.hid (bulkMethodS_left l b m k hkl HM.out hm)
        subst hkl
        go_wp2
        go_ret
        exact ⟨ret_int (by rw [Hf.out]), hbel⟩
def markMethodD (k : Int) (x : MethD) : MethD := { rel := k, inputs := marks (k + 1) x.inputs.length, limit := k + 1 + (x.inputs.length : Int), cost := k + 1 + (x.inputs.length : Int) + 1, quota := k + 1 + (x.inputs.length : Int) + 1 + 1 }
def cntMethod (x : MethD) : Nat := 1 + x.inputs.length + 1 + 1 + 1
set_option maxRecDepth 100000 in
set_option maxHeartbeats 1600000 in
theorem markMethodS_any (v : Value) (l : List MethD) (f : List Nat) (k0 : Int) (w : World) (h : meths w v l f) (hnd : f.Nodup) (hk0 : 0 ≤ k0) (hk1 : k0 + ((l.map cntMethod).sum : Nat) ≤ 1000000000) :
    Calls Tryz.prog 16 #[v, .int .i64 k0] w fun e w' => e = .returned (.int .i64 (k0 + ((l.map cntMethod).sum : Nat))) ∧ meths w' v (markL markMethodD cntMethod k0 l) f ∧ Wrote f w w' := by
  obtain ⟨a, cap, rfl⟩ := slR.form h
  have hla := slR.le_max h
  go_enter Tryz.func16, Tryz.ntmps16
  go_wp2
  go_loopw [1, 5] (fun x i wr => ∃ j m : Nat, i = .int .i64 j ∧ j ≤ l.length ∧ x = .int .i64 (k0 + m) ∧ Hid (((l.map cntMethod).take j).sum = m) ∧ meths wr (.slice a l.length cap) (markL markMethodD cntMethod k0 (l.take j) ++ l.drop j) f ∧ Wrote f w wr) (fun _ i _ => l.length - (intOf i).toNat)
  case atStart => exact ⟨0, 0, rfl, Nat.zero_le _, by simp, Lib.hid (by simp), by simpa [markL] using h, Wrote.refl _ _⟩
  case round =>
    obtain ⟨j, m, rfl, hj, rfl, HM, hr, hwr⟩ := hrel
    by_cases hlt : j < l.length
    · have hjl : j < (markL markMethodD cntMethod k0 (l.take j) ++ l.drop j).length := by simp [markL_length]; omega
      have hle : m + cntMethod l[j] ≤ (l.map cntMethod).sum := by have := sum_take_le (l.map cntMethod) j (by simpa using hlt) m HM.out; simpa using this
      have hcnt : cntMethod l[j] = 1 + l[j].inputs.length + 1 + 1 + 1 := rfl
      have HS := Lib.hid (markL_step (mk := markMethodD) (cnt := cntMethod) k0 l j hlt m HM.out)
      have HN := Lib.hid (sum_take_step (l.map cntMethod) j (by simpa using hlt) m HM.out)
      obtain ⟨g, c, fi, rfl, ho, hR⟩ := slR.open good_meth hr hnd hjl
      rw [markL_at k0 l j hlt hjl] at hR
      obtain ⟨xinputs, rfl, irel, ilimit, icost, iquota, hinputs⟩ := hR
      have hmem := ho.mem
      clear hr h
      have hc0_0 : wr.cell? ⟨g, j * 5, none⟩ = _ := ho.cell (by omega) 0 _ rfl
      have hz0_0 := ho.frozen (by omega) (j * 5)
      have hc0_1 : wr.cell? ⟨g, j * 5 + 1, none⟩ = _ := ho.cell (by omega) 1 _ rfl
      have hz0_1 := ho.frozen (by omega) (j * 5 + 1)
      have hc0_2 : wr.cell? ⟨g, j * 5 + 2, none⟩ = _ := ho.cell (by omega) 2 _ rfl
      have hz0_2 := ho.frozen (by omega) (j * 5 + 2)
      have hc0_3 : wr.cell? ⟨g, j * 5 + 3, none⟩ = _ := ho.cell (by omega) 3 _ rfl
      have hz0_3 := ho.frozen (by omega) (j * 5 + 3)
      have hc0_4 : wr.cell? ⟨g, j * 5 + 4, none⟩ = _ := ho.cell (by omega) 4 _ rfl
      have hz0_4 := ho.frozen (by omega) (j * 5 + 4)
      have ho0 := ho.store 0 (by decide) (.int .i64 (k0 + (m : Int)))
      have hinputs_0 : ints (wr.setCell ⟨g, j * 5, none⟩ (.int .i64 (k0 + (m : Int)))) xinputs _ fi := ints.far hinputs (p := ⟨g, j * 5, none⟩) (fun hx => hmem.2.1 (by simp [hx])) _
      go_wp2_with fail
      refine (markIntS_any _ l[j].inputs fi _ _ hinputs_0 ⟨by omega, by omega⟩ (by omega)).mono ?_
      rintro e w1 ⟨rfl, hminputs, hw1⟩
      have ho1 := ho0.wrote hw1 (fun x hx => by simp [hx])
      have hc1_0 : w1.cell? ⟨g, j * 5, none⟩ = _ := ho1.cell (by omega) 0 _ rfl
      have hz1_0 := ho1.frozen (by omega) (j * 5)
      have hc1_1 : w1.cell? ⟨g, j * 5 + 1, none⟩ = _ := ho1.cell (by omega) 1 _ rfl
      have hz1_1 := ho1.frozen (by omega) (j * 5 + 1)
      have hc1_2 : w1.cell? ⟨g, j * 5 + 2, none⟩ = _ := ho1.cell (by omega) 2 _ rfl
      have hz1_2 := ho1.frozen (by omega) (j * 5 + 2)
      have hc1_3 : w1.cell? ⟨g, j * 5 + 3, none⟩ = _ := ho1.cell (by omega) 3 _ rfl
      have hz1_3 := ho1.frozen (by omega) (j * 5 + 3)
      have hc1_4 : w1.cell? ⟨g, j * 5 + 4, none⟩ = _ := ho1.cell (by omega) 4 _ rfl
      have hz1_4 := ho1.frozen (by omega) (j * 5 + 4)
      have ho2 := ho1.store 2 (by decide) (.int .i64 (k0 + (m : Int) + 1 + (l[j].inputs.length : Int)))
      have hinputs_2 : ints (w1.setCell ⟨g, j * 5 + 2, none⟩ (.int .i64 (k0 + (m : Int) + 1 + (l[j].inputs.length : Int)))) xinputs _ fi := ints.far hminputs (p := ⟨g, j * 5 + 2, none⟩) (fun hx => hmem.2.1 (by simp [hx])) _
      have ho3 := ho2.store 3 (by decide) (.int .i64 (k0 + (m : Int) + 1 + (l[j].inputs.length : Int) + 1))
      have hinputs_3 : ints ((w1.setCell ⟨g, j * 5 + 2, none⟩ (.int .i64 (k0 + (m : Int) + 1 + (l[j].inputs.length : Int)))).setCell ⟨g, j * 5 + 3, none⟩ (.int .i64 (k0 + (m : Int) + 1 + (l[j].inputs.length : Int) + 1))) xinputs _ fi := ints.far hinputs_2 (p := ⟨g, j * 5 + 3, none⟩) (fun hx => hmem.2.1 (by simp [hx])) _
      have ho4 := ho3.store 4 (by decide) (.int .i64 (k0 + (m : Int) + 1 + (l[j].inputs.length : Int) + 1 + 1))
      have hinputs_4 : ints (((w1.setCell ⟨g, j * 5 + 2, none⟩ (.int .i64 (k0 + (m : Int) + 1 + (l[j].inputs.length : Int)))).setCell ⟨g, j * 5 + 3, none⟩ (.int .i64 (k0 + (m : Int) + 1 + (l[j].inputs.length : Int) + 1))).setCell ⟨g, j * 5 + 4, none⟩ (.int .i64 (k0 + (m : Int) + 1 + (l[j].inputs.length : Int) + 1 + 1))) xinputs _ fi := ints.far hinputs_3 (p := ⟨g, j * 5 + 4, none⟩) (fun hx => hmem.2.1 (by simp [hx])) _
      have hs := ho4.shut (d := markMethodD (k0 + (m : Int)) l[j]) (by exact ⟨_, rfl, (by show I64 (k0 + (m : Int)); unfold I64; omega), (by show I64 (k0 + (m : Int) + 1 + (l[j].inputs.length : Int)); unfold I64; omega), (by show I64 (k0 + (m : Int) + 1 + (l[j].inputs.length : Int) + 1); unfold I64; omega), (by show I64 (k0 + (m : Int) + 1 + (l[j].inputs.length : Int) + 1 + 1); unfold I64; omega), hinputs_4⟩)
      rw [HS.out] at hs
      have hwr0 := Wrote.setCell hwr (p := ⟨g, j * 5, none⟩) hmem.1 (.int .i64 (k0 + (m : Int)))
      have hwr1 := Wrote.trans hwr0 (Wrote.mono hw1 (fun x hx => hmem.2.2.1 x (by simp [hx])))
      have hwr2 := Wrote.setCell hwr1 (p := ⟨g, j * 5 + 2, none⟩) hmem.1 (.int .i64 (k0 + (m : Int) + 1 + (l[j].inputs.length : Int)))
      have hwr3 := Wrote.setCell hwr2 (p := ⟨g, j * 5 + 3, none⟩) hmem.1 (.int .i64 (k0 + (m : Int) + 1 + (l[j].inputs.length : Int) + 1))
      have hwr4 := Wrote.setCell hwr3 (p := ⟨g, j * 5 + 4, none⟩) hmem.1 (.int .i64 (k0 + (m : Int) + 1 + (l[j].inputs.length : Int) + 1 + 1))
      clear hmem ho
      go_wp2
      go_roundw
      case rel => exact ⟨j + 1, m + cntMethod l[j], by go_num, by omega, by rw [hcnt]; go_num, Lib.hid (by have := HN.out; simpa using this), hs, hwr4⟩
      case measure => simp [intOf]; omega
    · have hkl : j = l.length := by omega
      have HM2 := Lib.hid (show (l.map cntMethod).sum = m by have := HM.out; rw [hkl, List.take_of_length_le (by simp)] at this; exact this)
      have hr' : meths wr (.slice a l.length cap) (markL markMethodD cntMethod k0 l) f := by rw [hkl] at hr; simpa using hr
      subst hkl
      clear hr
      go_wp2
      go_ret
      exact ⟨ret_int (by rw [HM2.out]), hr', hwr⟩
end Go.Proofs.YtpdmdfkcaabnaaaGreat
