/- l6First of the reference. No condition. -/
import Derived.Test.YtjjkfhjkfoikbaaGreatAsked
import Derived.Test.YtjjkfhjkfoikbaaGreatGreedL
import Derived.Test.YtjjkfhjkfoikbaaGreatGrow2
import Derived.Test.YtjjkfhjkfoikbaaGreatHStep
import Derived.Deep.RegionHeld3
import Derived.IntWalk
namespace Go.Proofs.YtjjkfhjkfoikbaaGreat
open Go.RowKit
set_option linter.unusedVariables false
set_option linter.unusedSimpArgs false
theorem firstM_at {l : List MethD} {a : AtomD} {b : List Int} {k : Nat} (hk : k < l.length) (h : canCallB l[k] a b = true) (hn : ∀ j (hj : j < l.length), j < k → canCallB l[j] a b = false) : firstM l a b = (k : Int) :=
  idxI_at _ _ k hk h hn
theorem firstM_none {l : List MethD} {a : AtomD} {b : List Int} {k : Nat} (hk : k = l.length) (hn : ∀ j (hj : j < l.length), j < k → canCallB l[j] a b = false) : firstM l a b = -1 :=
  idxI_none _ _ fun j hj => hn j hj (by omega)
theorem all_step {p : Nat → Bool} {k : Nat} (h : ∀ j, j < k → p j = false) (hk : p k = false) : ∀ j, j < k + 1 → p j = false := by
  intro j hj
  by_cases e : j = k
  · rw [e]; exact hk
  · exact h j (by omega)
theorem all_step' {α : Type} {p : α → Bool} {l : List α} {k : Nat} (hlt : k < l.length) (h : ∀ j (hj : j < l.length), j < k → p l[j] = false) (hk : p l[k] = false) : ∀ j (hj : j < l.length), j < k + 1 → p l[j] = false := by
  intro j hl hj
  by_cases e : j = k
  · subst e; exact hk
  · exact h j hl (by omega)
set_option maxRecDepth 100000 in
set_option maxHeartbeats 1600000 in
theorem l6First_any (vl : Value) (l : List MethD) (fl : List Nat) (a : AtomD) (vt : Value) (ft : List Nat) (vb : Value) (bound : List Int) (fb : List Nat) (w : World) (hl : meths w vl l fl) (ht : ints w vt a.terms ft) (hb : ints w vb bound fb) :
    Calls Tryz.prog 46 #[vl, .agg #[.int .i64 a.rel, vt], vb] w fun e w' => e = .returned (.int .i64 (firstM l a bound)) ∧ Below w.heap.size w w' := by
  obtain ⟨pl, cl, rfl⟩ := slR.form hl
  obtain ⟨pt, ct, rfl⟩ := slR.form ht
  obtain ⟨pb, cb, rfl⟩ := slR.form hb
  have hla := slR.le_max hl
  have hb0 : Below w.heap.size w (w.alloc (.cells #[.int .i64 a.rel, .slice pt a.terms.length ct] 81)) := ba (Below.refl _ _)
  have c0 : (w.alloc (.cells #[.int .i64 a.rel, .slice pt a.terms.length ct] 81)).cell? ⟨w.heap.size, 0, none⟩ = some (.int .i64 a.rel) := cell_new w _ _ 0 _ rfl
  have c1 : (w.alloc (.cells #[.int .i64 a.rel, .slice pt a.terms.length ct] 81)).cell? ⟨w.heap.size, 1, none⟩ = some (.slice pt a.terms.length ct) := cell_new w _ _ 1 _ rfl
  have hl0 := hl.below' hb0
  have ht0 := ht.below' hb0
  have hbo0 := hb.below' hb0
  obtain ⟨w1, hw1⟩ : ∃ w1, w1 = (w.alloc (.cells #[.int .i64 a.rel, .slice pt a.terms.length ct] 81)) := ⟨_, rfl⟩
  rw [← hw1] at hb0 c0 c1 hl0 ht0 hbo0
  have HW1 := Lib.hid hw1
  clear hw1
  go_enter Tryz.func46, Tryz.ntmps46
  go_wp2
  rw [← HW1.out]
  go_loopw [7] (fun i wr => ∃ k : Nat, i = .int .i64 k ∧ k ≤ l.length ∧ Hid (∀ j (hj : j < l.length), j < k → canCallB l[j] a bound = false) ∧ Below w1.heap.size w1 wr) (fun i _ => l.length - (intOf i).toNat)
  case atStart => exact ⟨0, rfl, Nat.zero_le _, Lib.hid (fun j hj h0 => by omega), Below.refl _ _⟩
  case round =>
    obtain ⟨k, rfl, hk, HN, hbel⟩ := hrel
    by_cases hlt : k < l.length
    · obtain ⟨gm, vi, fi2, rfl, m0, m1, m2, m3, m4, hvi⟩ := (hl0.below' hbel).get k hlt
      obtain ⟨pi, ci, rfl⟩ := slR.form hvi
      have hkl : (k : Int) < (l.length : Int) := by omega
      have hk0 : (0 : Int) ≤ (k : Int) := Int.natCast_nonneg _
      have hiL : ∀ x : Lat wr, ints x.wd (.slice pi l[k].inputs.length ci) l[k].inputs fi2 := fun x => hvi.below' x.ok
      have htL : ∀ x : Lat wr, ints x.wd (.slice pt a.terms.length ct) a.terms ft := fun x => (ht0.below' hbel).below' x.ok
      have hbL : ∀ x : Lat wr, ints x.wd (.slice pb bound.length cb) bound fb := fun x => (hbo0.below' hbel).below' x.ok
      cases h1 : canCallB l[k] a bound with
      | true =>
        have Hf := Lib.hid (firstM_at hlt h1 HN.out)
        go_wp2_with fail
        have L0 : ∀ x : Lat wr, x.wd.cell? ⟨w.heap.size, 0, none⟩ = some (.int .i64 a.rel) := fun x => x.cell (cell_below c0 hbel)
        have L1 : ∀ x : Lat wr, x.wd.cell? ⟨w.heap.size, 1, none⟩ = some (.slice pt a.terms.length ct) := fun x => x.cell (cell_below c1 hbel)
        have L2 : ∀ x : Lat wr, x.wd.cell? ⟨gm, k * 5, none⟩ = some (.int .i64 l[k].rel) := fun x => x.cell m0
        have L3 : ∀ x : Lat wr, x.wd.cell? ⟨gm, k * 5 + 1, none⟩ = some (.slice pi l[k].inputs.length ci) := fun x => x.cell m1
        have L4 : ∀ x : Lat wr, x.wd.cell? ⟨gm, k * 5 + 2, none⟩ = some (.int .i64 l[k].limit) := fun x => x.cell m2
        have L5 : ∀ x : Lat wr, x.wd.cell? ⟨gm, k * 5 + 3, none⟩ = some (.int .i64 l[k].cost) := fun x => x.cell m3
        have L6 : ∀ x : Lat wr, x.wd.cell? ⟨gm, k * 5 + 4, none⟩ = some (.int .i64 l[k].quota) := fun x => x.cell m4
        refine wp_region_lat wr (by kernel_rfl) (by kernel_rfl) ?_
        repeat (go_big_quiet_step ((first | (go_at_call 55; exact Lat.of (retBB (specCanCall_any l[k] a _ _ fi2 ft _ bound fb _ (hiL _) (htL _) (hbL _)) h1)))))
        refine wpQuiet_nil ?_
        intro _ hw'
        obtain ⟨x1, hw''⟩ := hw'
        subst hw''
        clear L0 L1 L2 L3 L4 L5 L6
        have hbf := bt (bt hb0 hbel) x1.ok
        go_wp2
        go_ret
        exact ⟨by rw [Hf.out]; rfl, hbf⟩
      | false =>
        have HN2 := Lib.hid (all_step' (p := fun m => canCallB m a bound) hlt HN.out h1)
        go_wp2_with fail
        have L0 : ∀ x : Lat wr, x.wd.cell? ⟨w.heap.size, 0, none⟩ = some (.int .i64 a.rel) := fun x => x.cell (cell_below c0 hbel)
        have L1 : ∀ x : Lat wr, x.wd.cell? ⟨w.heap.size, 1, none⟩ = some (.slice pt a.terms.length ct) := fun x => x.cell (cell_below c1 hbel)
        have L2 : ∀ x : Lat wr, x.wd.cell? ⟨gm, k * 5, none⟩ = some (.int .i64 l[k].rel) := fun x => x.cell m0
        have L3 : ∀ x : Lat wr, x.wd.cell? ⟨gm, k * 5 + 1, none⟩ = some (.slice pi l[k].inputs.length ci) := fun x => x.cell m1
        have L4 : ∀ x : Lat wr, x.wd.cell? ⟨gm, k * 5 + 2, none⟩ = some (.int .i64 l[k].limit) := fun x => x.cell m2
        have L5 : ∀ x : Lat wr, x.wd.cell? ⟨gm, k * 5 + 3, none⟩ = some (.int .i64 l[k].cost) := fun x => x.cell m3
        have L6 : ∀ x : Lat wr, x.wd.cell? ⟨gm, k * 5 + 4, none⟩ = some (.int .i64 l[k].quota) := fun x => x.cell m4
        refine wp_region_lat wr (by kernel_rfl) (by kernel_rfl) ?_
        repeat (go_big_quiet_step ((first | (go_at_call 55; exact Lat.of (retBB (specCanCall_any l[k] a _ _ fi2 ft _ bound fb _ (hiL _) (htL _) (hbL _)) h1)))))
        refine wpQuiet_nil ?_
        intro _ hw'
        obtain ⟨x1, hw''⟩ := hw'
        subst hw''
        clear L0 L1 L2 L3 L4 L5 L6
        have hbf := bt hbel x1.ok
        go_wp2
        go_roundw
        case rel => exact ⟨k + 1, by go_num, by omega, HN2, hbf⟩
        case measure => simp [intOf]; omega
    · have hkl : k = l.length := by omega
      have Hf := Lib.hid (firstM_none hkl HN.out)
      have hbf := bt hb0 hbel
      clear hkl
      go_wp2
      go_ret
      exact ⟨by rw [Hf.out]; rfl, hbf⟩
end Go.Proofs.YtjjkfhjkfoikbaaGreat
