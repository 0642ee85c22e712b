/- VarsOf and ConstantsOf of the program, and termsOf. Condition: not more than 2^20 terms. -/
import Derived.Test.YtpdmdfkcaabnaaaGreatDoorSortRow
import Derived.Test.YtpdmdfkcaabnaaaGreatDoorVarsL
import Derived.Test.YtpdmdfkcaabnaaaGreatDoorMB
import Derived.Test.YtpdmdfkcaabnaaaGreatDoorMA
import Derived.Test.YtpdmdfkcaabnaaaGreatDoorHQuery
import Derived.Test.YtpdmdfkcaabnaaaGreatDoorShelf
namespace Go.Proofs.YtpdmdfkcaabnaaaGreatDoor
open Go.RowKit Go.Sort
set_option linter.unusedVariables false
set_option linter.unusedSimpArgs false
theorem filter_yes {p : Int → Bool} {l : List Int} {x : Int} (h : p x = true) : (l ++ [x]).filter p = l.filter p ++ [x] := by rw [List.filter_append]; simp [h]
theorem filter_no {p : Int → Bool} {l : List Int} {x : Int} (h : p x = false) : (l ++ [x]).filter p = l.filter p := by rw [List.filter_append]; simp [h]
theorem gr_row {E : TypeId} {B : Nat} {w : World} {g cap n : Nat} {l : List Int} {f : List Nat} (h : grR E 1 intR B w (.slice (some ⟨g, 0, none⟩) n cap) l f) (hn : n = l.length) :
    Row w E 1 (.slice (some ⟨g, 0, none⟩) n cap) n (icells l) (some g) ∧ f = [g] ∧ B ≤ g ∧ g < w.heap.size ∧ (∀ x ∈ l, I64 x) ∧ n ≤ cap := by
  subst hn
  obtain ⟨rows, fs, ha, hl, ho, rfl, hfr⟩ := h
  obtain ⟨h1, h2, h3⟩ := all_ints_inv ha
  rw [h1] at ho
  have hr := own_row ho
  have hlt := own_lt ho g rfl
  refine ⟨hr, by rw [h2]; simp [Value.ownBlock], hlt.1, hlt.2, h3, ?_⟩
  rcases hr.2 with ⟨_, hv, _, ho'⟩ | ⟨g', cap', cur, hv, _, _, h1, _⟩
  · cases ho'
  · cases hv; exact h1
theorem i64_perm {l m : List Int} (h : ∀ x ∈ l, I64 x) (hm : ∀ x ∈ m, x ∈ l) : ∀ x ∈ m, I64 x := fun x hx => h x (hm x hx)
theorem grow_none (w : World) : grow w #[] = w := by simp [grow]
theorem compact_length (zs : List Int) : (Lib.compact zs).length ≤ zs.length := by
  unfold Lib.compact Lib.compactUpTo
  rw [List.length_map]
  exact Nat.le_trans (List.length_filter_le _ _) (by simp)
/-- Sorted and compacted. -/
theorem setOf_sort (p : Int → Bool) (l : List Int) : Lib.compact ((l.filter p).mergeSort fun x y => decide (x ≤ y)) = setOf p l := compact_sort p l
set_option maxRecDepth 100000 in
set_option maxHeartbeats 3200000 in
theorem termsOf_any (p : Int → Bool) (K : Nat) (hK : Plain Tryz.prog K) (A : Int → Array Value) (hA : ∀ x, #[.int .i64 x] = A x) (hcall : ∀ (x : Int) (w' : World), Calls Tryz.prog K (A x) w' fun e w'' => e = .returned (.bool (p x)) ∧ w' = w'')
    (va : Value) (l : List AtomD) (fa : List Nat) (w : World) (ha : atoms w va l fa) (hn : (termsL l).length ≤ 1048576) :
    Calls Tryz.prog 125 #[va, .func (.func K) #[] #[]] w fun e w' => ∃ v' f', e = .returned v' ∧ ints w' v' (setOf p (termsL l)) f' ∧ Fresh w.heap.size f' ∧ Below w.heap.size w w' := by
  obtain ⟨b, cap', rfl⟩ := slR.form ha
  have hla := slR.le_max ha
  have Hn := Lib.hid hn
  have HA := Lib.hid hA
  have HC := Lib.hid hcall
  clear hn hA hcall
  unfold Plain at hK
  go_enter Tryz.func125, Tryz.ntmps125
  go_wp2
  go_loopw [5, 13] (fun u i wr => ∃ (k gu cu : Nat) (lo : List Int) (fo : List Nat), i = .int .i64 k ∧ k ≤ l.length ∧ u = .slice (some ⟨gu, 0, none⟩) lo.length cu ∧ Hid (lo = (termsL (l.take k)).filter p) ∧ grR 3 1 intR w.heap.size wr u lo fo ∧ Below w.heap.size w wr) (fun _ i _ => l.length - (intOf i).toNat)
  case atStart => exact ⟨0, _, _, [], _, rfl, Nat.zero_le _, rfl, Lib.hid rfl, grR.lit intR (Nat.le_refl _) (Nat.le_refl _), ba (Below.refl _ _)⟩
  case round =>
    obtain ⟨k, gu, cu, lo, fo, rfl, hk, rfl, Hlo, hgr, hbel⟩ := hrel
    by_cases hlt : k < l.length
    · obtain ⟨g, c, fi, hg, ⟨vv, rfl, vi, hv⟩, _, hc, _, _, _⟩ := slR.at ha k hlt
      obtain ⟨a', c', rfl⟩ := slR.form hv
      have hc0 : wr.cell? ⟨g, k * 2, none⟩ = _ := cell_below (hc 0 _ rfl) hbel
      have hc1 : wr.cell? ⟨g, k * 2 + 1, none⟩ = _ := cell_below (hc 1 _ rfl) hbel
      have hkl : (k : Int) < (l.length : Int) := by omega
      have hk0 : (0 : Int) ≤ (k : Int) := Int.natCast_nonneg _
      have hlb := slR.le_max hv
      have hb1 : (wr.alloc (.cells #[.int .i64 l[k].rel, .slice a' l[k].terms.length c'] 69)).cell? ⟨wr.heap.size, 1, none⟩ = some (.slice a' l[k].terms.length c') := cell_new wr _ _ 1 _ rfl
      have hgr1 := hgr.below' good_int (ba (Below.refl _ _) : Below wr.heap.size wr (wr.alloc (.cells #[.int .i64 l[k].rel, .slice a' l[k].terms.length c'] 69)))
      have hbel1 := ba (o := .cells #[.int .i64 l[k].rel, .slice a' l[k].terms.length c'] 69) hbel
      clear hc
      subst hg
      go_wp2
      obtain ⟨wo, rfl⟩ : ∃ wo : World, wo = wr := ⟨_, rfl⟩
      go_loopw [5, 20] (fun u i wr => ∃ (j gu cu : Nat) (lo : List Int) (fo : List Nat), i = .int .i64 j ∧ j ≤ l[k].terms.length ∧ u = .slice (some ⟨gu, 0, none⟩) lo.length cu ∧ Hid (lo = (metL l k j l[k].terms).filter p) ∧ grR 3 1 intR w.heap.size wr u lo fo ∧ Below w.heap.size w wr) (fun _ i _ => l[k].terms.length - (intOf i).toNat)
      case atStart => exact ⟨0, _, _, lo, fo, rfl, Nat.zero_le _, rfl, Lib.hid (by rw [met_zero]; exact Hlo.out), hgr1, hbel1⟩
      case round =>
        obtain ⟨j, gu2, cu2, lo2, fo2, rfl, hj, rfl, Hlo2, hgr2, hbel2⟩ := hrel
        have hll : lo2.length ≤ 1048576 := by
          have h0 := congrArg List.length Hlo2.out
          have h1 := List.length_filter_le p (metL l k j l[k].terms)
          have h2 := met_length hlt j
          have h3 := Hn.out
          exact h0 ▸ Nat.le_trans h1 (Nat.le_trans h2 h3)
        by_cases hlt2 : j < l[k].terms.length
        · obtain ⟨g2, rfl, hc2, _, hI, _⟩ := (hv.below' hbel2).get j hlt2
          have hjl : (j : Int) < (l[k].terms.length : Int) := by omega
          cases hp : p l[k].terms[j] with
          | true =>
            have HS := Lib.hid (show lo2 ++ [l[k].terms[j]] = (metL l k (j + 1) l[k].terms).filter p by rw [met_succ hlt2, filter_yes hp, ← Hlo2.out])
            have Hp := Lib.hid hp
            clear hp
            go_wp2_with fail
            have hAk := HA.out l[k].terms[j]
            rw [hAk]
            clear hAk
            refine (HC.out _ _).mono ?_
            rintro e w1 ⟨rfl, rfl⟩
            rw [Hp.out]
            go_wp2_with (at_builtin; refine wpList_gr slInt good_int rfl _ _ rfl hgr2 hbel2 rfl #[.int .i64 l[k].terms[j]] l[k].terms[j] [] ⟨rfl, rfl, hI⟩ rfl (Fresh.nil _) (by simp) rfl (by simp [Value.oneCell']) (by omega) (by unfold maxLen; omega) ?_; intro g3 cap3 w2 f2 hgr3 hb3 hg3)
            go_roundw
            case rel => exact ⟨j + 1, g3, cap3, lo2 ++ [l[k].terms[j]], f2, by go_num, by omega, by simp, HS, by simpa using hgr3, hb3⟩
            case measure => simp [intOf]; omega
          | false =>
            have HS := Lib.hid (show lo2 = (metL l k (j + 1) l[k].terms).filter p by rw [met_succ hlt2, filter_no hp, ← Hlo2.out])
            have Hp := Lib.hid hp
            clear hp
            go_wp2_with fail
            have hAk := HA.out l[k].terms[j]
            rw [hAk]
            clear hAk
            refine (HC.out _ _).mono ?_
            rintro e w1 ⟨rfl, rfl⟩
            rw [Hp.out]
            go_wp2
            go_roundw
            case rel => exact ⟨j + 1, gu2, cu2, lo2, fo2, by go_num, by omega, rfl, HS, hgr2, hbel2⟩
            case measure => simp [intOf]; omega
        · have hjl : j = l[k].terms.length := by omega
          have HS := Lib.hid (met_end hlt hjl)
          clear hjl
          go_wp2
          go_roundw
          case rel => exact ⟨k + 1, gu2, cu2, lo2, fo2, by go_num, by omega, rfl, Lib.hid (by rw [← HS.out]; exact Hlo2.out), hgr2, hbel2⟩
          case measure => simp [intOf]; omega
    · have hkl : k = l.length := by omega
      have HS := Lib.hid (Hlo.out.trans (by rw [termsL_all hkl]))
      clear hkl
      obtain ⟨hrow, rfl, hgB, hgl, hI, hcap⟩ := gr_row hgr rfl
      have hll : lo.length ≤ 1048576 := by
        have h0 := congrArg List.length HS.out
        have h1 := List.length_filter_le p (termsL l)
        have h3 := Hn.out
        exact h0 ▸ Nat.le_trans h1 h3
      have hH := holds_of_row hrow rfl
      have Hms := Lib.hid (List.length_mergeSort (le := fun x y : Int => decide (x ≤ y)) lo)
      have Hrow := Lib.hid hrow
      clear hrow
      go_wp2_with fail
      refine (Tryz.slices_Sort_int gu 0 cu lo wr hH hgl (by omega)).mono ?_
      rintro e w1 ⟨rfl, n1, os1, hw1⟩
      have hr1 := row_put (d := lo.mergeSort fun x y => decide (x ≤ y)) (k := lo.length) (q := n1) (os := os1) Hrow.out Hms.out (Nat.le_refl _)
      have hb1 : Below w.heap.size wr w1 := by rw [hw1]; exact below_put hgB hbel.size
      rw [← hw1] at hr1
      rw [List.take_of_length_le (Nat.le_of_eq Hms.out)] at hr1
      have Hw1 := Lib.hid hw1
      clear hw1
      go_wp2_with fail
      have hH1 := holds_of_row hr1 Hms.out.symm
      have hcc : (Lib.compact (lo.mergeSort fun x y => decide (x ≤ y))) = setOf p (termsL l) := by rw [HS.out]; exact setOf_sort p _
      have HC2 := Lib.hid hcc
      clear hcc
      have hc2 := Tryz.slices_Compact_int gu 0 cu (lo.mergeSort fun x y => decide (x ≤ y)) w1 hH1 (by rw [Hms.out]; omega) (by rw [Hms.out]; exact hcap)
      rw [Hms.out, HC2.out] at hc2
      refine hc2.mono ?_
      rintro e w2 ⟨rfl, q2, hw2⟩
      clear hc2
      have hle : (setOf p (termsL l)).length ≤ lo.length := by
        have h := compact_length (lo.mergeSort fun x y => decide (x ≤ y))
        rw [HC2.out, Hms.out] at h
        exact h
      have hr2 := row_put (d := setOf p (termsL l) ++ List.replicate (lo.length - (setOf p (termsL l)).length) 0) (k := (setOf p (termsL l)).length) (q := q2) (os := #[]) hr1 (by simp; omega) hle
      rw [List.take_left, grow_none, ← hw2] at hr2
      have hb2 : Below w.heap.size w1 w2 := by
        have h := below_put (n := q2) (d := (setOf p (termsL l) ++ List.replicate (lo.length - (setOf p (termsL l)).length) 0).toArray) (os := #[]) hgB (Nat.le_trans hbel.size hb1.size)
        rw [grow_none, ← hw2] at h
        exact h
      have Hw2 := Lib.hid hw2
      clear hw2
      have hbf := (hbel.trans hb1).trans hb2
      have hIs : ∀ x ∈ setOf p (termsL l), I64 x := by
        intro x hx
        refine hI x ?_
        rw [HS.out, List.mem_filter]
        exact (setOf_mem p _ x).1 hx
      have hfin := ints_of_row (o := some gu) hr2 hIs
      go_wp2
      go_ret
      exact ⟨_, _, rfl, hfin, ⟨by simp, by simpa using hgB⟩, hbf⟩
set_option maxRecDepth 100000 in
set_option maxHeartbeats 800000 in
theorem implVarsOf_any (q : QueryD) (vh : Value) (fh : List Nat) (va : Value) (fa : List Nat) (w : World) (hh : ints w vh q.head fh) (ha : atoms w va q.atoms fa) (hn : (termsL q.atoms).length ≤ 1048576) :
    Calls Tryz.prog 42 #[.agg #[vh, va]] w fun e w' => ∃ v' f', e = .returned v' ∧ ints w' v' (setOf isVarB (termsL q.atoms)) f' ∧ Fresh w.heap.size f' ∧ Below w.heap.size w w' := by
  obtain ⟨head, l⟩ := q
  obtain ⟨a, cap, rfl⟩ := slR.form hh
  obtain ⟨b, cap', rfl⟩ := slR.form ha
  have hP := plain_of Tryz.func49 (by kernel_rfl) (by kernel_rfl)
  have ha0 := ha.below' (ba (Below.refl _ _) : Below w.heap.size w (w.alloc (.cells #[.slice a head.length cap, .slice b l.length cap'] 58)))
  go_enter Tryz.func42, Tryz.ntmps42
  go_wp2_with fail
  refine (termsOf_any isVarB _ hP (fun x => #[.int .i64 x]) (fun _ => rfl) (fun x w' => f49_any x w') _ l fa _ ha0 hn).mono ?_
  rintro e w1 ⟨v1, f1, rfl, h1, h2, h3⟩
  have hsz : w.heap.size ≤ (w.alloc (.cells #[.slice a head.length cap, .slice b l.length cap'] 58)).heap.size := (ba (Below.refl w.heap.size w)).size
  have h4 := h2.mono hsz
  have h5 := bt (ba (Below.refl w.heap.size w)) h3
  clear h2 h3
  go_wp2
  go_ret
  exact ⟨_, _, rfl, h1, h4, h5⟩
set_option maxRecDepth 100000 in
set_option maxHeartbeats 800000 in
theorem implConstantsOf_any (q : QueryD) (vh : Value) (fh : List Nat) (va : Value) (fa : List Nat) (w : World) (hh : ints w vh q.head fh) (ha : atoms w va q.atoms fa) (hn : (termsL q.atoms).length ≤ 1048576) :
    Calls Tryz.prog 43 #[.agg #[vh, va]] w fun e w' => ∃ v' f', e = .returned v' ∧ ints w' v' (setOf isVal (termsL q.atoms)) f' ∧ Fresh w.heap.size f' ∧ Below w.heap.size w w' := by
  obtain ⟨head, l⟩ := q
  obtain ⟨a, cap, rfl⟩ := slR.form hh
  obtain ⟨b, cap', rfl⟩ := slR.form ha
  have hP := plain_of Tryz.func126 (by kernel_rfl) (by kernel_rfl)
  have ha0 := ha.below' (ba (Below.refl _ _) : Below w.heap.size w (w.alloc (.cells #[.slice a head.length cap, .slice b l.length cap'] 58)))
  go_enter Tryz.func43, Tryz.ntmps43
  go_wp2_with fail
  refine (termsOf_any isVal _ hP (fun x => #[.int .i64 x]) (fun _ => rfl) (fun x w' => f126_any x w') _ l fa _ ha0 hn).mono ?_
  rintro e w1 ⟨v1, f1, rfl, h1, h2, h3⟩
  have hsz : w.heap.size ≤ (w.alloc (.cells #[.slice a head.length cap, .slice b l.length cap'] 58)).heap.size := (ba (Below.refl w.heap.size w)).size
  have h4 := h2.mono hsz
  have h5 := bt (ba (Below.refl w.heap.size w)) h3
  clear h2 h3
  go_wp2
  go_ret
  exact ⟨_, _, rfl, h1, h4, h5⟩
end Go.Proofs.YtpdmdfkcaabnaaaGreatDoor
