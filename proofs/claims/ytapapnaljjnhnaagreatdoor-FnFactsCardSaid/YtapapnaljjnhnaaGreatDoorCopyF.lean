/- slices.Clone of ints, copyFact, copyFacts of the program. Condition: sizes up to 2^20. -/
import Derived.Test.YtapapnaljjnhnaaGreatDoorCopy
import Derived.Test.YtapapnaljjnhnaaGreatDoorMC
import Derived.Test.YtapapnaljjnhnaaGreatDoorMB
import Derived.StillTailTactics
import Derived.WalkSpells
namespace Go.Proofs.YtapapnaljjnhnaaGreatDoor
open Go.RowKit
set_option linter.unusedVariables false
set_option linter.unusedSimpArgs false
set_option maxRecDepth 100000 in
set_option maxHeartbeats 800000 in
theorem clone_any (v : Value) (l : List Int) (f : List Nat) (w : World) (h : ints w v l f) (hn : l.length ≤ 1048576) :
    Calls Tryz.prog 215 #[v] w fun e w' => ∃ v' f', e = .returned v' ∧ ints w' v' l f' ∧ Fresh w.heap.size f' ∧ Below w.heap.size w w' := by
  obtain ⟨a, cap, rfl⟩ := slR.form h
  cases a with
  | none =>
    have hl : l = [] := by
      cases l with
      | nil => rfl
      | cons x t => obtain ⟨g, hg, _⟩ := h.get 0 (by simp); cases hg
    subst hl
    have heq := fun (w : World) => Lib.run_eql_slice_nil (P := Tryz.prog) w 24 3 none 0 cap 0 0 Tryz.underlying24
    go_enter Tryz.func215, Tryz.ntmps215
    go_wp2
    go_ret
    exact ⟨_, [], rfl, slR.nilv _ _ _ _, Fresh.nil _, Below.refl _ _⟩
  | some ad =>
    have heq := fun (w : World) => Lib.run_eql_slice_nil (P := Tryz.prog) w 24 3 (some ad) l.length cap 0 0 Tryz.underlying24
    go_enter Tryz.func215, Tryz.ntmps215
    go_wp2_with (at_builtin; refine wpList_copy_ints slInt rfl _ _ rfl rfl _ l f rfl h hn ?_; intro u1 w1 f1 hu1 hfr1 hb1)
    go_ret
    exact ⟨_, f1, rfl, hu1, hfr1, hb1⟩
set_option maxRecDepth 100000 in
set_option maxHeartbeats 1600000 in
theorem copyFact_any (x : FactD) (v : Value) (f : List Nat) (w : World) (h : ints w v x.vals f) (hn : x.vals.length ≤ 1048576) :
    Calls Tryz.prog 194 #[.agg #[.int .i64 x.rel, v]] w fun e w' => ∃ v' f', e = .returned (.agg #[.int .i64 x.rel, v']) ∧ ints w' v' x.vals f' ∧ Fresh w.heap.size f' ∧ Below w.heap.size w w' := by
  obtain ⟨a, cap, rfl⟩ := slR.form h
  have h2 := (h.al (.cells #[.int .i64 x.rel, .slice a x.vals.length cap] 79)).al (.cells #[.int .i64 0, .slice none 0 0] 79)
  have hb0 : Below w.heap.size w ((w.alloc (.cells #[.int .i64 x.rel, .slice a x.vals.length cap] 79)).alloc (.cells #[.int .i64 0, .slice none 0 0] 79)) := ba (ba (Below.refl _ _))
  have hs2 : ((w.alloc (.cells #[.int .i64 x.rel, .slice a x.vals.length cap] 79)).alloc (.cells #[.int .i64 0, .slice none 0 0] 79)).heap.size = w.heap.size + 1 + 1 := by simp only [World.alloc, Array.size_push]
  have c0 : ((w.alloc (.cells #[.int .i64 x.rel, .slice a x.vals.length cap] 79)).alloc (.cells #[.int .i64 0, .slice none 0 0] 79)).cell? ⟨w.heap.size, 0, none⟩ = some (.int .i64 x.rel) := cell_al (cell_new w _ _ 0 _ rfl) _
  have c1 : ((w.alloc (.cells #[.int .i64 x.rel, .slice a x.vals.length cap] 79)).alloc (.cells #[.int .i64 0, .slice none 0 0] 79)).cell? ⟨w.heap.size, 1, none⟩ = some (.slice a x.vals.length cap) := cell_al (cell_new w _ _ 1 _ rfl) _
  go_enter Tryz.func194, Tryz.ntmps194
  go_wp2
  go_region_held3 (fun w' => w'.cell? ⟨w.heap.size, 0, none⟩ = some (.int .i64 x.rel) ∧ w'.cell? ⟨w.heap.size, 1, none⟩ = some (.slice a x.vals.length cap)) (first | exact ⟨c0, c1⟩ | exact ⟨d0, d1⟩ | go_keep)
    (first
      | (go_at_call 215
         refine (clone_any _ x.vals f _ (h2.below' ?_) hn).mono ?_
         · (repeat (first | exact Below.refl _ _ | refine bdr ?_))
         rintro e w1 ⟨v1, f1, rfl, hu1, hfr0, hb0'⟩
         have hfr1 : Fresh (w.heap.size + 1 + 1) f1 := hfr0.mono (Nat.le_of_eq hs2.symm)
         have hb1 : Below ((w.alloc (.cells #[.int .i64 x.rel, .slice a x.vals.length cap] 79)).alloc (.cells #[.int .i64 0, .slice none 0 0] 79)).heap.size ((w.alloc (.cells #[.int .i64 x.rel, .slice a x.vals.length cap] 79)).alloc (.cells #[.int .i64 0, .slice none 0 0] 79)) w1 := bt (by (repeat (first | exact Below.refl _ _ | refine bdr ?_))) hb0'
         have d0 : w1.cell? ⟨w.heap.size, 0, none⟩ = some (.int .i64 x.rel) := cell_below c0 hb1
         have d1 : w1.cell? ⟨w.heap.size, 1, none⟩ = some (.slice a x.vals.length cap) := cell_below c1 hb1
         obtain ⟨p1, q1, rfl⟩ := slR.form hu1
         have hz1 : w.heap.size + 1 < w1.heap.size := by have := hb1.size; rw [hs2] at this; omega
         have hz0 : w.heap.size < w1.heap.size := by omega
         have hcz := bcell hb1
         have hc1 := hcz.1
         have hzz1 := hcz.2))
  go_wp2
  refine bodyPost_ret (v := .agg #[.int .i64 x.rel, .slice p1 x.vals.length q1]) (by simp [results, Tryz.results194, go_sem, hc1, hzz1, hz1, hz0]) rfl ⟨_, f1, rfl, ?_, ?_, ?_⟩
  · repeat (refine ints.far ?_ (hfr1.notin (by simp <;> omega)) _)
    exact hu1
  · exact hfr1.mono (by omega)
  · repeat (refine Below.setCell ?_ (by simp <;> omega) _)
    exact bt hb0 hb1
set_option maxRecDepth 100000 in
set_option maxHeartbeats 1600000 in
theorem copyFacts_any (v : Value) (l : List FactD) (f : List Nat) (w : World) (h : facts w v l f) (hn : l.length ≤ 1048576) (hln : ∀ y ∈ l, y.vals.length ≤ 1048576) :
    Calls Tryz.prog 141 #[v] w fun e w' => ∃ v' f', e = .returned v' ∧ grR 79 2 factR w.heap.size w' v' l f' ∧ Below w.heap.size w w' := by
  obtain ⟨b, cap, rfl⟩ := slR.form h
  have hla := slR.le_max h
  have Hln := Lib.hid hln
  clear hln
  go_enter Tryz.func141, Tryz.ntmps141
  go_wp2
  go_loopw [3, 9] (fun u i wr => ∃ (k : Nat) (lo : List FactD) (fo : List Nat), i = .int .i64 k ∧ k ≤ l.length ∧ Hid (lo = l.take k) ∧ grR 79 2 factR w.heap.size wr u lo fo ∧ Below w.heap.size w wr) (fun _ i _ => l.length - (intOf i).toNat)
  case atStart => exact ⟨0, [], _, rfl, Nat.zero_le _, Lib.hid rfl, grR.lit factR (Nat.le_refl _) (Nat.le_refl _), ba (Below.refl _ _)⟩
  case round =>
    obtain ⟨k, lo, fo, rfl, hk, Hlo, hgr, hbel⟩ := hrel
    obtain ⟨ao, co, rfl⟩ := slR.form hgr.sl
    have hll : lo.length ≤ 1048576 := by
      have h0 := congrArg List.length Hlo.out
      rw [List.length_take] at h0
      omega
    by_cases hlt : k < l.length
    · obtain ⟨g, c, fk, hg, ⟨vy, rfl, iy, hy⟩, _, hc, _, _, _⟩ := slR.at h k hlt
      obtain ⟨a', c', rfl⟩ := slR.form hy
      have hc0 : wr.cell? ⟨g, k * 2, none⟩ = some (.int .i64 l[k].rel) := cell_below (hc 0 _ rfl) hbel
      have hc1 : wr.cell? ⟨g, k * 2 + 1, none⟩ = some (.slice a' l[k].vals.length c') := cell_below (hc 1 _ rfl) hbel
      have hkl : (k : Int) < (l.length : Int) := by omega
      have hk0 : (0 : Int) ≤ (k : Int) := Int.natCast_nonneg _
      clear hc
      subst hg
      have Hyn := Hln.out l[k] (List.getElem_mem hlt)
      have HS := Lib.hid (show lo ++ [l[k]] = l.take (k + 1) by rw [List.take_succ_eq_append_getElem hlt, Hlo.out])
      have hy1 := (hy.below' hbel).al (.cells #[.int .i64 l[k].rel, .slice a' l[k].vals.length c'] 79)
      have hba : Below wr.heap.size wr (wr.alloc (.cells #[.int .i64 l[k].rel, .slice a' l[k].vals.length c'] 79)) := ba (Below.refl _ _)
      have hb0 : (wr.alloc (.cells #[.int .i64 l[k].rel, .slice a' l[k].vals.length c'] 79)).cell? ⟨wr.heap.size, 0, none⟩ = some (.int .i64 l[k].rel) := cell_new wr _ _ 0 _ rfl
      have hb1 : (wr.alloc (.cells #[.int .i64 l[k].rel, .slice a' l[k].vals.length c'] 79)).cell? ⟨wr.heap.size, 1, none⟩ = some (.slice a' l[k].vals.length c') := cell_new wr _ _ 1 _ rfl
      go_wp2_with fail
      refine (copyFact_any l[k] _ fk _ hy1 Hyn).mono ?_
      rintro e w1 ⟨v1, f1, rfl, hu1, hfr1, hb2⟩
      have hb3 := bt hba hb2
      have hgr1 := hgr.below' good_fact hb3
      have hbw := bt hbel hb3
      have hfr2 : Fresh wr.heap.size f1 := hfr1.mono hba.size
      have hdis : ∀ g ∈ f1, g ∉ fo := fun g hg hm => by
        have h1 := hfr2.2 g hg
        have h2 := grR.lt good_fact hgr g hm
        omega
      have hfr3 := hfr2.mono hbel.size
      obtain ⟨p1, q1, rfl⟩ := slR.form hu1
      clear hb2 hfr1 hb0 hb1 hba
      go_wp2_with (at_builtin; refine wpList_gr slFactS good_fact rfl _ _ rfl hgr1 hbw rfl #[.int .i64 l[k].rel, .slice p1 l[k].vals.length q1] l[k] f1 ⟨_, rfl, iy, hu1⟩ rfl hfr3 hdis rfl (by simp [Value.oneCell']) (by omega) (by unfold maxLen; omega) ?_; intro g3 cap3 w2 f2 hgr3 hb4 hg3)
      go_roundw
      case rel => exact ⟨k + 1, lo ++ [l[k]], f2, by go_num, by omega, HS, by simpa using hgr3, hb4⟩
      case measure => simp [intOf]; omega
    · have hkl : k = l.length := by omega
      have HS := Lib.hid (show lo = l by rw [Hlo.out, hkl, List.take_length])
      clear hkl
      go_wp2
      go_ret
      exact ⟨_, _, rfl, by rw [← HS.out]; exact hgr, hbel⟩
end Go.Proofs.YtapapnaljjnhnaaGreatDoor
