/- The laws' helpers at Atom and at slices of it: size, copy, comparison, marks, marks held. Conditions: the sizes that the laws themselves ask. -/
import Derived.Test.YtojjojcmemifhaaGreatDoorHBase
import Derived.StillTailTactics
namespace Go.Proofs.YtojjojcmemifhaaGreatDoor
open Go.RowKit
set_option linter.unusedVariables false
set_option linter.unusedSimpArgs false
instance : DecidableEq AtomD := fun a b => decidable_of_iff (a.rel = b.rel ∧ a.terms = b.terms) (by cases a; cases b; simp)
instance : Inhabited AtomD := ⟨⟨0, []⟩⟩
def bulkAtom (x : AtomD) : Nat := x.terms.length
set_option maxHeartbeats 800000 in
theorem eqAtom_any (x y : AtomD) (vterms yterms : Value) (fterms gterms : List Nat) (w : World) (hterms : ints w vterms x.terms fterms) (kterms : ints w yterms y.terms gterms) :
    Calls Tryz.prog 194 #[.agg #[.int .i64 x.rel, vterms], .agg #[.int .i64 y.rel, yterms]] w fun e w' => e = .returned (.bool (decide (x = y))) ∧ Below w.heap.size w w' := by
  obtain ⟨aterms, cterms, rfl⟩ := slR.form hterms
  obtain ⟨bterms, dterms, rfl⟩ := slR.form kterms
  have hb0 : ∀ o1 o2 : Obj, Below w.heap.size w ((w.alloc o1).alloc o2) := fun o1 o2 => ((Below.refl _ _).alloc (Nat.le_refl _) _).alloc (by simp) _
  by_cases erel : x.rel = y.rel
  case neg =>
    have trel : (x.rel != y.rel) = true := by simp [erel]
    have Hfin := Lib.hid (show decide (x = y) = false from decide_eq_false (fun h => erel (by rw [h])))
    clear erel
    go_enter Tryz.func194, Tryz.ntmps194
    go_wp2
    go_ret
    exact ⟨ret_bool (by rw [Hfin.out]), hb0 _ _⟩
  by_cases eterms : x.terms = y.terms
  case neg =>
    have trel : (x.rel != y.rel) = false := by simp [erel]
    have tterms : decide (x.terms = y.terms) = false := by simp [eterms]
    have Hfin := Lib.hid (show decide (x = y) = false from decide_eq_false (fun h => eterms (by rw [h])))
    clear erel
    clear eterms
    go_enter Tryz.func194, Tryz.ntmps194
    go_wp2_with fail
    refine (eqIntS_any _ _ _ _ _ _ _ (hterms.below' (hb0 _ _)) (kterms.below' (hb0 _ _))).mono ?_
    rintro e w1 ⟨rfl, hb1⟩
    have hB1 := Below.trans (hb0 _ _) (hb1.mono (hb0 _ _).size)
    have hz1 : w.heap.size + 1 < w1.heap.size := by have := hb1.size; simp at this; omega
    obtain ⟨hc1, hzz1⟩ := bcell hb1
    go_wp2
    go_ret
    exact ⟨ret_bool (by rw [Hfin.out]), hB1⟩
  have trel : (x.rel != y.rel) = false := by simp [erel]
  have tterms : decide (x.terms = y.terms) = true := by simp [eterms]
  have Hfin := Lib.hid (show decide (x = y) = true from decide_eq_true (by cases x; cases y; simp_all))
  clear erel
  clear eterms
  go_enter Tryz.func194, Tryz.ntmps194
  go_wp2_with fail
  refine (eqIntS_any _ _ _ _ _ _ _ (hterms.below' (hb0 _ _)) (kterms.below' (hb0 _ _))).mono ?_
  rintro e w1 ⟨rfl, hb1⟩
  have hB1 := Below.trans (hb0 _ _) (hb1.mono (hb0 _ _).size)
  have hz1 : w.heap.size + 1 < w1.heap.size := by have := hb1.size; simp at this; omega
  obtain ⟨hc1, hzz1⟩ := bcell hb1
  go_wp2
  go_ret
  exact ⟨ret_bool (by rw [Hfin.out]), hB1⟩
theorem infoAtomS : (Tryz.prog.info? 73).map (fun i => (i.zero, i.size, i.bytes)) = some (some (.agg #[.int .i64 0, .slice none 0 0]), 2, 32) := by kernel_rfl
theorem slAtomS : SlT Tryz.prog 56 73 (.agg #[.int .i64 0, .slice none 0 0]) 2 32 := slT_of Tryz.underlying56 infoAtomS rfl (by decide)
def bulkAtomS (l : List AtomD) : Nat := l.length + (l.map fun x => bulkAtom x).sum
set_option maxRecDepth 100000 in
set_option maxHeartbeats 800000 in
theorem eqAtomS_any (va vb : Value) (l m : List AtomD) (fa fb : List Nat) (w : World) (ha : atoms w va l fa) (hb : atoms w vb m fb) :
    Calls Tryz.prog 128 #[va, vb] w fun e w' => e = .returned (.bool (decide (l = m))) ∧ Below w.heap.size w w' := by
  obtain ⟨a, cap, rfl⟩ := slR.form ha
  obtain ⟨b, cap', rfl⟩ := slR.form hb
  have hla := slR.le_max ha
  by_cases hlen : l.length = m.length
  · have Hlen := Lib.hid hlen
    have hle : m.length ≤ l.length := by omega
    have hge : l.length ≤ m.length := by omega
    have hne0 : ((l.length : Int) != (m.length : Int)) = false := by simp [hlen]
    clear hlen
    go_enter Tryz.func128, Tryz.ntmps128
    go_wp2
    go_loopw [5] (fun i wr => ∃ k : Nat, i = .int .i64 k ∧ k ≤ l.length ∧ Hid (l.take k = m.take k) ∧ Below w.heap.size w wr) (fun i _ => l.length - (intOf i).toNat)
    case atStart => exact ⟨0, rfl, Nat.zero_le _, Lib.hid (by simp), Below.refl _ _⟩
    case round =>
      obtain ⟨k, rfl, hk, HT, hbel⟩ := hrel
      by_cases hlt : k < l.length
      · obtain ⟨g, c, fi, rfl, ⟨pxterms, rfl, pirel, phterms⟩, _, hc, _, _, _⟩ := slR.at (ha.below' hbel) k hlt
        obtain ⟨g', c', fi', rfl, ⟨qxterms, rfl, qirel, qhterms⟩, _, hc', _, _, _⟩ := slR.at (hb.below' hbel) k (by omega)
        have hp0 : wr.cell? ⟨g, k * 2, none⟩ = _ := hc 0 _ rfl
        have hq0 : wr.cell? ⟨g', k * 2, none⟩ = _ := hc' 0 _ rfl
        have hp1 : wr.cell? ⟨g, k * 2 + 1, none⟩ = _ := hc 1 _ rfl
        have hq1 : wr.cell? ⟨g', k * 2 + 1, none⟩ = _ := hc' 1 _ rfl
        clear hc hc'
        have hkm : (k : Int) < (m.length : Int) := by omega
        have hkl : (k : Int) < (l.length : Int) := by omega
        by_cases he : l[k] = m[k]
        · have HS := Lib.hid (take_eq_step hlt (by omega) HT.out he)
          have hne : decide (l[k] = m[k]) = true := by simp [he]
          clear he
          go_wp2
          have Hla := Lib.hid hla; clear hla
          refine wp_region_still_tail 8 (by kernel_rfl) (by kernel_rfl) ?_
          change wpStill _ _ (World.drew _) _ _ _
          simp only [List.take_succ_cons, List.take_zero, List.drop_succ_cons, List.drop_zero]
          iterate 8 still_step
          refine wpStill_nil ?_
          have hla := Hla.out
          change wpList _ _ _ _ _ wr.drew
          go_wp2_with fail
          refine (eqAtom_any l[k] m[k] _ _ _ _ _ (phterms.below' (Below.drew (Below.refl _ _))) (qhterms.below' (Below.drew (Below.refl _ _)))).mono ?_
          rintro e w1 ⟨rfl, hb1⟩
          have hb2 : Below w.heap.size w w1 := Below.trans hbel.drew (hb1.mono hbel.size)
          go_wp2
          go_roundw
          case rel => exact ⟨k + 1, by go_num, by omega, HS, hb2⟩
          case measure => simp [intOf]; omega
        · have Hfin := Lib.hid (ne_of_get hlt (by omega) he)
          have hne : decide (l[k] = m[k]) = false := by simp [he]
          clear he
          go_wp2
          have Hla := Lib.hid hla; clear hla
          refine wp_region_still_tail 8 (by kernel_rfl) (by kernel_rfl) ?_
          change wpStill _ _ (World.drew _) _ _ _
          simp only [List.take_succ_cons, List.take_zero, List.drop_succ_cons, List.drop_zero]
          iterate 8 still_step
          refine wpStill_nil ?_
          have hla := Hla.out
          change wpList _ _ _ _ _ wr.drew
          go_wp2_with fail
          refine (eqAtom_any l[k] m[k] _ _ _ _ _ (phterms.below' (Below.drew (Below.refl _ _))) (qhterms.below' (Below.drew (Below.refl _ _)))).mono ?_
          rintro e w1 ⟨rfl, hb1⟩
          have hb2 : Below w.heap.size w w1 := Below.trans hbel.drew (hb1.mono hbel.size)
          go_wp2
          go_ret
          exact ⟨ret_bool (by simp [Hfin.out]), hb2⟩
      · have hkl : k = l.length := by omega
        have Hfin := Lib.hid (eq_of_take Hlen.out (by have := HT.out; rw [hkl] at this; exact this))
        go_wp2
        go_ret
        exact ⟨ret_bool (by simp [Hfin.out]), hbel⟩
  · have hne0 : ((l.length : Int) != (m.length : Int)) = true := by simp; omega
    have Hfin := Lib.hid (show l ≠ m from fun h => hlen (by rw [h]))
    clear hlen
    go_enter Tryz.func128, Tryz.ntmps128
    go_wp2
    go_ret
    exact ⟨ret_bool (by simp [Hfin.out]), Below.refl _ _⟩
def markAtomD (k : Int) (x : AtomD) : AtomD := { rel := k, terms := marks (k + 1) x.terms.length }
def cntAtom (x : AtomD) : Nat := 1 + x.terms.length
set_option maxRecDepth 100000 in
set_option maxHeartbeats 1600000 in
theorem markAtomS_any (v : Value) (l : List AtomD) (f : List Nat) (k0 : Int) (w : World) (h : atoms w v l f) (hnd : f.Nodup) (hk0 : 0 ≤ k0) (hk1 : k0 + ((l.map cntAtom).sum : Nat) ≤ 1000000000) :
    Calls Tryz.prog 129 #[v, .int .i64 k0] w fun e w' => e = .returned (.int .i64 (k0 + ((l.map cntAtom).sum : Nat))) ∧ atoms w' v (markL markAtomD cntAtom k0 l) f ∧ Wrote f w w' := by
  obtain ⟨a, cap, rfl⟩ := slR.form h
  have hla := slR.le_max h
  go_enter Tryz.func129, Tryz.ntmps129
  go_wp2
  go_loopw [1, 5] (fun x i wr => ∃ j m : Nat, i = .int .i64 j ∧ j ≤ l.length ∧ x = .int .i64 (k0 + m) ∧ Hid (((l.map cntAtom).take j).sum = m) ∧ atoms wr (.slice a l.length cap) (markL markAtomD cntAtom k0 (l.take j) ++ l.drop j) f ∧ Wrote f w wr) (fun _ i _ => l.length - (intOf i).toNat)
  case atStart => exact ⟨0, 0, rfl, Nat.zero_le _, by simp, Lib.hid (by simp), by simpa [markL] using h, Wrote.refl _ _⟩
  case round =>
    obtain ⟨j, m, rfl, hj, rfl, HM, hr, hwr⟩ := hrel
    by_cases hlt : j < l.length
    · have hjl : j < (markL markAtomD cntAtom k0 (l.take j) ++ l.drop j).length := by simp [markL_length]; omega
      have hle : m + cntAtom l[j] ≤ (l.map cntAtom).sum := by have := sum_take_le (l.map cntAtom) j (by simpa using hlt) m HM.out; simpa using this
      have hcnt : cntAtom l[j] = 1 + l[j].terms.length := rfl
      have HS := Lib.hid (markL_step (mk := markAtomD) (cnt := cntAtom) k0 l j hlt m HM.out)
      have HN := Lib.hid (sum_take_step (l.map cntAtom) j (by simpa using hlt) m HM.out)
      obtain ⟨g, c, fi, rfl, ho, hR⟩ := slR.open good_atom hr hnd hjl
      rw [markL_at k0 l j hlt hjl] at hR
      obtain ⟨xterms, rfl, irel, hterms⟩ := hR
      have hmem := ho.mem
      clear hr h
      have hc0_0 : wr.cell? ⟨g, j * 2, none⟩ = _ := ho.cell (by omega) 0 _ rfl
      have hz0_0 := ho.frozen (by omega) (j * 2)
      have hc0_1 : wr.cell? ⟨g, j * 2 + 1, none⟩ = _ := ho.cell (by omega) 1 _ rfl
      have hz0_1 := ho.frozen (by omega) (j * 2 + 1)
      have ho0 := ho.store 0 (by decide) (.int .i64 (k0 + (m : Int)))
      have hterms_0 : ints (wr.setCell ⟨g, j * 2, none⟩ (.int .i64 (k0 + (m : Int)))) xterms _ fi := ints.far hterms (p := ⟨g, j * 2, none⟩) (fun hx => hmem.2.1 (by simp [hx])) _
      go_wp2_with fail
      refine (markIntS_any _ l[j].terms fi _ _ hterms_0 ⟨by omega, by omega⟩ (by omega)).mono ?_
      rintro e w1 ⟨rfl, hmterms, hw1⟩
      have ho1 := ho0.wrote hw1 (fun x hx => by simp [hx])
      have hs := ho1.shut (d := markAtomD (k0 + (m : Int)) l[j]) (by exact ⟨_, rfl, (by show I64 (k0 + (m : Int)); unfold I64; omega), hmterms⟩)
      rw [HS.out] at hs
      have hwr0 := Wrote.setCell hwr (p := ⟨g, j * 2, none⟩) hmem.1 (.int .i64 (k0 + (m : Int)))
      have hwr1 := Wrote.trans hwr0 (Wrote.mono hw1 (fun x hx => hmem.2.2.1 x (by simp [hx])))
      clear hmem ho
      go_wp2
      go_roundw
      case rel => exact ⟨j + 1, m + cntAtom l[j], by go_num, by omega, by rw [hcnt]; go_num, Lib.hid (by have := HN.out; simpa using this), hs, hwr1⟩
      case measure => simp [intOf]; omega
    · have hkl : j = l.length := by omega
      have HM2 := Lib.hid (show (l.map cntAtom).sum = m by have := HM.out; rw [hkl, List.take_of_length_le (by simp)] at this; exact this)
      have hr' : atoms wr (.slice a l.length cap) (markL markAtomD cntAtom k0 l) f := by rw [hkl] at hr; simpa using hr
      subst hkl
      clear hr
      go_wp2
      go_ret
      exact ⟨ret_int (by rw [HM2.out]), hr', hwr⟩
set_option maxRecDepth 100000 in
set_option maxHeartbeats 1600000 in
theorem heldAtomS_any (v : Value) (l : List AtomD) (f : List Nat) (k0 : Int) (w : World) (h : atoms w v (markL markAtomD cntAtom k0 l) f) (hk0 : 0 ≤ k0) (hk1 : k0 + ((l.map cntAtom).sum : Nat) ≤ 1000000000) :
    Calls Tryz.prog 131 #[v, .int .i64 k0] w fun e w' => e = .returned (.int .i64 (k0 + ((l.map cntAtom).sum : Nat))) ∧ Below w.heap.size w w' := by
  obtain ⟨a, cap, hv⟩ := slR.form h
  have hla := slR.le_max h
  rw [markL_length] at hv hla
  subst hv
  go_enter Tryz.func131, Tryz.ntmps131
  go_wp2
  go_loopw [1, 5] (fun x i wr => ∃ j m : Nat, i = .int .i64 j ∧ j ≤ l.length ∧ x = .int .i64 (k0 + m) ∧ Hid (((l.map cntAtom).take j).sum = m) ∧ Below w.heap.size w wr) (fun _ i _ => l.length - (intOf i).toNat)
  case atStart => exact ⟨0, 0, rfl, Nat.zero_le _, by simp, Lib.hid (by simp), Below.refl _ _⟩
  case round =>
    obtain ⟨j, m, rfl, hj, rfl, HM, hbel⟩ := hrel
    by_cases hlt : j < l.length
    · have hjl : j < (markL markAtomD cntAtom k0 l).length := by rw [markL_length]; exact hlt
      have hle : m + cntAtom l[j] ≤ (l.map cntAtom).sum := by have := sum_take_le (l.map cntAtom) j (by simpa using hlt) m HM.out; simpa using this
      have hcnt : cntAtom l[j] = 1 + l[j].terms.length := rfl
      have HN := Lib.hid (sum_take_step (l.map cntAtom) j (by simpa using hlt) m HM.out)
      obtain ⟨g, c, fi, rfl, hR, _, hc, _, _, _⟩ := slR.at (h.below' hbel) j hjl
      rw [markL_get k0 l j hlt m HM.out hjl] at hR
      obtain ⟨xterms, rfl, irel, hterms⟩ := hR
      have hc0 : wr.cell? ⟨g, j * 2, none⟩ = some (.int .i64 (k0 + (m : Int))) := hc 0 _ rfl
      have hc1 : wr.cell? ⟨g, j * 2 + 1, none⟩ = some xterms := hc 1 _ rfl
      have hne0 : ((k0 + (m : Int)) != (k0 + (m : Int))) = false := by simp
      have hhterms : ints wr xterms (marks (k0 + (m : Int) + 1) l[j].terms.length) fi := hterms
      clear hc
      go_wp2_with fail
      refine (heldIntS_any _ l[j].terms.length _ _ _ hhterms ⟨by omega, by omega⟩ (by omega)).mono ?_
      rintro e w1 ⟨rfl, hb1⟩
      have hB1 := Below.trans hbel (hb1.mono (Below.size hbel))
      have hb1_ : Below wr.heap.size wr w1 := hb1
      have hc0_1 : w1.cell? ⟨g, j * 2, none⟩ = _ := cell_below hc0 hb1_
      have hc1_1 : w1.cell? ⟨g, j * 2 + 1, none⟩ = _ := cell_below hc1 hb1_
      go_wp2
      go_roundw
      case rel => exact ⟨j + 1, m + cntAtom l[j], by go_num, by omega, by rw [hcnt]; go_num, Lib.hid (by have := HN.out; simpa using this), hB1⟩
      case measure => simp [intOf]; omega
    · have hkl : j = l.length := by omega
      have HM2 := Lib.hid (show (l.map cntAtom).sum = m by have := HM.out; rw [hkl, List.take_of_length_le (by simp)] at this; exact this)
      subst hkl
      go_wp2
      go_ret
      exact ⟨ret_int (by rw [HM2.out]), hbel⟩
end Go.Proofs.YtojjojcmemifhaaGreatDoor
