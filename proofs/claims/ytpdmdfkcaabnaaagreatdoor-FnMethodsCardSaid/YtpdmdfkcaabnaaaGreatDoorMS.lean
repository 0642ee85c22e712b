/- Several of my texts as one: QuL, SmLaw, Same, SameQ. -/
import Derived.Test.YtpdmdfkcaabnaaaGreatDoorParQL
import Derived.Test.YtpdmdfkcaabnaaaGreatDoorCompare
import Derived.Test.YtpdmdfkcaabnaaaGreatDoorMC
import Derived.Test.YtpdmdfkcaabnaaaGreatDoorIdxS
import Derived.Test.YtpdmdfkcaabnaaaGreatDoorHQuery
/- Plain laws: what FnQueries says of the data. No condition, no program in sight. -/
namespace Go.Proofs.YtpdmdfkcaabnaaaGreatDoor
open Go.RowKit
set_option linter.unusedVariables false
set_option linter.unusedSimpArgs false
theorem queryIs_self {s : List Int} {q x : QueryD} {k : Bool} (h : QueryIs s (queryFS q) x k) : k = queryB s q ∧ (k = true → x = q) := by
  rcases h with ⟨h1, h2, rfl⟩ | ⟨h1, rfl, rfl⟩
  · have e1 := queryV_query (query_fmt h1)
    have hb : queryFB q = true := by
      cases hg : queryFB q with
      | true => rfl
      | false =>
        rw [queryFS_no hg, queryFS_yes (query_fmt h1)] at h2
        have := congrArg List.length h2
        simp [ifS] at this
    have e2 := queryV_query hb
    rw [h2] at e1
    have e : x = q := e1.symm.trans e2
    exact ⟨by rw [← e, h1], fun _ => e⟩
  · refine ⟨?_, fun h => by cases h⟩
    cases hg : queryB s q with
    | false => rfl
    | true => exact absurd rfl (h1 q hg)
theorem setOf_has {p : Int → Bool} {l : List Int} {y : Int} (h : y ∈ l) : memB (setOf p l) y = p y := by
  cases hp : p y with
  | true => exact memB_iff.2 ((setOf_mem p l y).2 ⟨h, hp⟩)
  | false =>
    cases hm : memB (setOf p l) y with
    | false => rfl
    | true =>
      have := ((setOf_mem p l y).1 (memB_iff.1 hm)).2
      rw [hp] at this; cases this
end Go.Proofs.YtpdmdfkcaabnaaaGreatDoor
/- The laws' own helpers over ints. No condition. -/
namespace Go.Proofs.YtpdmdfkcaabnaaaGreatDoor
open Go.RowKit
set_option linter.unusedVariables false
set_option linter.unusedSimpArgs false
set_option maxRecDepth 100000 in
theorem lawHas_any (v : Value) (l : List Int) (f : List Nat) (x : Int) (w : World) (h : ints w v l f) :
    Calls Tryz.prog 48 #[v, .int .i64 x] w fun e w' => e = .returned (.bool (memB l x)) ∧ w = w' := by
  obtain ⟨a, cap, rfl⟩ := slR.form h
  have hla := slR.le_max h
  go_enter Tryz.func48, Tryz.ntmps48
  go_wp2
  go_loop [5] (fun i => ∃ k : Nat, i = .int .i64 k ∧ k ≤ l.length ∧ Hid (∀ j (hj : j < l.length), j < k → (l[j] == x) = false)) (fun i => l.length - (intOf i).toNat)
  case atStart => exact ⟨0, rfl, Nat.zero_le _, Lib.hid (fun j hj h0 => by omega)⟩
  case round =>
    obtain ⟨k, rfl, hk, HN⟩ := hrel
    by_cases hlt : k < l.length
    · obtain ⟨g, rfl, hc, _, _, _⟩ := h.get k hlt
      cases hp : (l[k] == x) with
      | true =>
        have Hf := Lib.hid (contains_at hlt (by simpa using hp))
        go_wp2
        go_ret
        exact ⟨ret_bool (by rw [Hf.out]), rfl⟩
      | false =>
        have HN2 := Lib.hid (none_step (p := fun y => y == x) HN.out hlt hp)
        go_wp2
        go_round
        case rel => exact ⟨k + 1, by go_num, by omega, HN2⟩
        case measure => simp [intOf]; omega
    · have hkl : k = l.length := by omega
      have Hf := Lib.hid (contains_no (l := l) (x := x) (fun j hj h0 => HN.out j hj (by omega)))
      go_wp2
      go_ret
      exact ⟨ret_bool (by rw [Hf.out]), rfl⟩
set_option maxRecDepth 100000 in
set_option maxHeartbeats 800000 in
theorem lawSame_any (va vb : Value) (l m : List Int) (fa fb : List Nat) (w : World) (ha : ints w va l fa) (hb : ints w vb m fb) :
    Calls Tryz.prog 44 #[va, vb] w fun e w' => e = .returned (.bool (decide (l = m))) ∧ Qt w w' := by
  obtain ⟨a, cap, rfl⟩ := slR.form ha
  obtain ⟨b, cap', rfl⟩ := slR.form hb
  have hla := slR.le_max ha
  by_cases hlen : l.length = m.length
  · have Hlen := Lib.hid hlen
    have hle : m.length ≤ l.length := by omega
    have hge : l.length ≤ m.length := by omega
    have hne0 : ((l.length : Int) != (m.length : Int)) = false := by simp [hlen]
    clear hlen
    go_enter Tryz.func44, Tryz.ntmps44
    go_wp2
    go_loopw [5] (fun i wr => ∃ k n : Nat, i = .int .i64 k ∧ k ≤ l.length ∧ Hid (l.take k = m.take k) ∧ wr = w.drewN n) (fun i _ => l.length - (intOf i).toNat)
    case atStart => exact ⟨0, 0, rfl, Nat.zero_le _, Lib.hid (by simp), rfl⟩
    case round =>
      obtain ⟨k, n, rfl, hk, HT, rfl⟩ := hrel
      by_cases hlt : k < l.length
      · obtain ⟨g, rfl, hc, _, _, _⟩ := ha.get k hlt
        obtain ⟨g', rfl, hc', _, _, _⟩ := hb.get k (by omega)
        have hkm : (k : Int) < (m.length : Int) := by omega
        by_cases he : l[k] = m[k]
        · have HS := Lib.hid (take_eq_step hlt (by omega) HT.out he)
          have hne : (l[k] != m[k]) = false := by simp [he]
          clear he
          go_wp2
          go_quiet (fail)
          go_wp2
          go_roundw
          case rel => exact ⟨k + 1, _, by go_num, by omega, HS, rfl⟩
          case measure => simp [intOf]; omega
        · have Hfin := Lib.hid (ne_of_get hlt (by omega) he)
          have hne : (l[k] != m[k]) = true := by simpa using he
          clear he
          go_wp2
          go_quiet (fail)
          go_wp2
          go_ret
          exact ⟨ret_bool (by simp [Hfin.out]), by first | exact Qt.dn _ _ | exact (Qt.dn _ _).trans (Qt.dn _ _)⟩
      · have hkl : k = l.length := by omega
        have Hfin := Lib.hid (eq_of_take Hlen.out (by have := HT.out; rw [hkl] at this; exact this))
        go_wp2
        go_ret
        exact ⟨ret_bool (by simp [Hfin.out]), by first | exact Qt.dn _ _ | exact (Qt.dn _ _).trans (Qt.dn _ _)⟩
  · have hne0 : ((l.length : Int) != (m.length : Int)) = true := by simp; omega
    have Hfin := Lib.hid (show l ≠ m from fun h => hlen (by rw [h]))
    clear hlen
    go_enter Tryz.func44, Tryz.ntmps44
    go_wp2
    go_ret
    exact ⟨ret_bool (by simp [Hfin.out]), Qt.refl _⟩
end Go.Proofs.YtpdmdfkcaabnaaaGreatDoor
/- SameAccesses, SameTuples, SameSteps, of the program and of the reference. No condition. -/
namespace Go.Proofs.YtpdmdfkcaabnaaaGreatDoor
open Go.RowKit
set_option linter.unusedVariables false
set_option linter.unusedSimpArgs false
set_option maxRecDepth 100000 in
set_option maxHeartbeats 800000 in
theorem l5Same_any (x y : AccD) (vx vy : Value) (fx fy : List Nat) (w : World) (hx : ints w vx x.vals fx) (hy : ints w vy y.vals fy) :
    Calls Tryz.prog 111 #[.agg #[.int .i64 x.meth, vx], .agg #[.int .i64 y.meth, vy]] w fun e w' => e = .returned (.bool (decide (x = y))) ∧ Below w.heap.size w w' := by
  obtain ⟨rx, s⟩ := x
  obtain ⟨ry, t⟩ := y
  obtain ⟨a, cap, rfl⟩ := slR.form hx
  obtain ⟨b, cap', rfl⟩ := slR.form hy
  by_cases h1 : rx = ry
  · have Hf := Lib.hid (show decide ((⟨rx, s⟩ : AccD) = ⟨ry, t⟩) = decide (s = t) by simp [h1])
    have Hf2 := Lib.hid (show (decide (rx = ry) && decide (s = t)) = decide (s = t) by simp [h1])
    have hd : (rx == ry) = true := by simp [h1]
    clear h1
    go_enter Tryz.func111, Tryz.ntmps111
    go_wp2_with fail
    refine (l2Ints_any _ _ s t fx fy _ ((hx.al _).al _) ((hy.al _).al _)).mono ?_
    rintro e w1 ⟨rfl, hq⟩
    go_wp2
    go_ret
    exact ⟨ret_bool (by first | rw [Hf.out] | rw [Hf2.out]), bqt (ba (ba (Below.refl _ _))) hq⟩
  · have Hf := Lib.hid (show decide ((⟨rx, s⟩ : AccD) = ⟨ry, t⟩) = false by simp [h1])
    have Hf2 := Lib.hid (show (decide (rx = ry) && decide (s = t)) = false by simp [h1])
    have hd : (rx == ry) = false := by simp [h1]
    clear h1
    go_enter Tryz.func111, Tryz.ntmps111
    go_wp2
    go_ret
    exact ⟨ret_bool (by first | rw [Hf.out] | rw [Hf2.out]), ba (ba (Below.refl _ _))⟩
set_option maxRecDepth 100000 in
set_option maxHeartbeats 800000 in
theorem sameAccess_any (x y : AccD) (vx vy : Value) (fx fy : List Nat) (w : World) (hx : ints w vx x.vals fx) (hy : ints w vy y.vals fy) :
    Calls Tryz.prog 110 #[.agg #[.int .i64 x.meth, vx], .agg #[.int .i64 y.meth, vy]] w fun e w' => e = .returned (.bool (decide (x = y))) ∧ Below w.heap.size w w' := by
  obtain ⟨rx, s⟩ := x
  obtain ⟨ry, t⟩ := y
  obtain ⟨a, cap, rfl⟩ := slR.form hx
  obtain ⟨b, cap', rfl⟩ := slR.form hy
  by_cases h1 : rx = ry
  · have Hf := Lib.hid (show decide ((⟨rx, s⟩ : AccD) = ⟨ry, t⟩) = decide (s = t) by simp [h1])
    have Hf2 := Lib.hid (show (decide (rx = ry) && decide (s = t)) = decide (s = t) by simp [h1])
    have hd : (rx == ry) = true := by simp [h1]
    clear h1
    go_enter Tryz.func110, Tryz.ntmps110
    go_wp2_with fail
    refine (slicesEqual_any _ _ s t fx fy _ ((hx.al _).al _) ((hy.al _).al _)).mono ?_
    rintro e w1 ⟨rfl, hq⟩
    go_wp2
    go_ret
    exact ⟨ret_bool (by first | rw [Hf.out] | rw [Hf2.out]), bqt (ba (ba (Below.refl _ _))) hq⟩
  · have Hf := Lib.hid (show decide ((⟨rx, s⟩ : AccD) = ⟨ry, t⟩) = false by simp [h1])
    have Hf2 := Lib.hid (show (decide (rx = ry) && decide (s = t)) = false by simp [h1])
    have hd : (rx == ry) = false := by simp [h1]
    clear h1
    go_enter Tryz.func110, Tryz.ntmps110
    go_wp2
    go_ret
    exact ⟨ret_bool (by first | rw [Hf.out] | rw [Hf2.out]), ba (ba (Below.refl _ _))⟩
set_option maxRecDepth 100000 in
set_option maxHeartbeats 800000 in
theorem sameAtom_any (x y : AtomD) (vx vy : Value) (fx fy : List Nat) (w : World) (hx : ints w vx x.terms fx) (hy : ints w vy y.terms fy) :
    Calls Tryz.prog 122 #[.agg #[.int .i64 x.rel, vx], .agg #[.int .i64 y.rel, vy]] w fun e w' => e = .returned (.bool (decide (x = y))) ∧ Below w.heap.size w w' := by
  obtain ⟨rx, s⟩ := x
  obtain ⟨ry, t⟩ := y
  obtain ⟨a, cap, rfl⟩ := slR.form hx
  obtain ⟨b, cap', rfl⟩ := slR.form hy
  by_cases h1 : rx = ry
  · have Hf := Lib.hid (show decide ((⟨rx, s⟩ : AtomD) = ⟨ry, t⟩) = decide (s = t) by simp [h1])
    have Hf2 := Lib.hid (show (decide (rx = ry) && decide (s = t)) = decide (s = t) by simp [h1])
    have hd : (rx == ry) = true := by simp [h1]
    clear h1
    go_enter Tryz.func122, Tryz.ntmps122
    go_wp2_with fail
    refine (slicesEqual_any _ _ s t fx fy _ ((hx.al _).al _) ((hy.al _).al _)).mono ?_
    rintro e w1 ⟨rfl, hq⟩
    go_wp2
    go_ret
    exact ⟨ret_bool (by first | rw [Hf.out] | rw [Hf2.out]), bqt (ba (ba (Below.refl _ _))) hq⟩
  · have Hf := Lib.hid (show decide ((⟨rx, s⟩ : AtomD) = ⟨ry, t⟩) = false by simp [h1])
    have Hf2 := Lib.hid (show (decide (rx = ry) && decide (s = t)) = false by simp [h1])
    have hd : (rx == ry) = false := by simp [h1]
    clear h1
    go_enter Tryz.func122, Tryz.ntmps122
    go_wp2
    go_ret
    exact ⟨ret_bool (by first | rw [Hf.out] | rw [Hf2.out]), ba (ba (Below.refl _ _))⟩
set_option maxRecDepth 100000 in
set_option maxHeartbeats 800000 in
theorem specSameAccesses_any (va vb : Value) (l m : List AccD) (fa fb : List Nat) (w : World) (ha : accs w va l fa) (hb : accs w vb m fb) :
    Calls Tryz.prog 33 #[va, vb] w fun e w' => e = .returned (.bool (decide (l = m))) ∧ Below w.heap.size w w' := by
  obtain ⟨a, cap, rfl⟩ := slR.form ha
  obtain ⟨b, cap', rfl⟩ := slR.form hb
  have hla := slR.le_max ha
  by_cases hlen : l.length = m.length
  · have Hlen := Lib.hid hlen
    have hle : m.length ≤ l.length := by omega
    have hge : l.length ≤ m.length := by omega
    have hne0 : ((l.length : Int) != (m.length : Int)) = false := by simp [hlen]
    clear hlen
    go_enter Tryz.func33, Tryz.ntmps33
    go_wp2
    go_loopw [5] (fun i wr => ∃ k : Nat, i = .int .i64 k ∧ k ≤ l.length ∧ Hid (l.take k = m.take k) ∧ Below w.heap.size w wr) (fun i _ => l.length - (intOf i).toNat)
    case atStart => exact ⟨0, rfl, Nat.zero_le _, Lib.hid (by simp), Below.refl _ _⟩
    case round =>
      obtain ⟨k, rfl, hk, HT, hbel⟩ := hrel
      by_cases hlt : k < l.length
      · obtain ⟨g, c, fi, rfl, ⟨pvvals, rfl, pimeth, hpvals⟩, _, hc, _, _, _⟩ := slR.at (ha.below' hbel) k hlt
        obtain ⟨g', c', fi', rfl, ⟨qvvals, rfl, qimeth, hqvals⟩, _, hc', _, _, _⟩ := slR.at (hb.below' hbel) k (by omega)
        have hpc0 : wr.cell? ⟨g, k * 2, none⟩ = _ := hc 0 _ rfl
        have hqc0 : wr.cell? ⟨g', k * 2, none⟩ = _ := hc' 0 _ rfl
        have hpc1 : wr.cell? ⟨g, k * 2 + 1, none⟩ = _ := hc 1 _ rfl
        have hqc1 : wr.cell? ⟨g', k * 2 + 1, none⟩ = _ := hc' 1 _ rfl
        clear hc hc'
        have hkm : (k : Int) < (m.length : Int) := by omega
        have hkl : (k : Int) < (l.length : Int) := by omega
        by_cases he : l[k] = m[k]
        · have HS := Lib.hid (take_eq_step hlt (by omega) HT.out he)
          have hne : decide (l[k] = m[k]) = true := by simp [he]
          clear he
          go_wp2
          have Hla := Lib.hid hla; clear hla
          refine wp_region_still_tail 8 (by kernel_rfl) (by kernel_rfl) ?_
          change wpStill _ _ (World.drew _) _ _ _
          simp only [List.take_succ_cons, List.take_zero, List.drop_succ_cons, List.drop_zero]
          iterate 8 still_step
          refine wpStill_nil ?_
          have hla := Hla.out
          change wpList _ _ _ _ _ wr.drew
          go_wp2_with fail
          refine (l5Same_any l[k] m[k] _ _ _ _ _ (hpvals.below' (Below.drew (Below.refl _ _))) (hqvals.below' (Below.drew (Below.refl _ _)))).mono ?_
          rintro e w1 ⟨rfl, hb1⟩
          have hb2 : Below w.heap.size w w1 := Below.trans hbel.drew (hb1.mono hbel.size)
          go_wp2
          go_roundw
          case rel => exact ⟨k + 1, by go_num, by omega, HS, hb2⟩
          case measure => simp [intOf]; omega
        · have Hfin := Lib.hid (ne_of_get hlt (by omega) he)
          have hne : decide (l[k] = m[k]) = false := by simp [he]
          clear he
          go_wp2
          have Hla := Lib.hid hla; clear hla
          refine wp_region_still_tail 8 (by kernel_rfl) (by kernel_rfl) ?_
          change wpStill _ _ (World.drew _) _ _ _
          simp only [List.take_succ_cons, List.take_zero, List.drop_succ_cons, List.drop_zero]
          iterate 8 still_step
          refine wpStill_nil ?_
          have hla := Hla.out
          change wpList _ _ _ _ _ wr.drew
          go_wp2_with fail
          refine (l5Same_any l[k] m[k] _ _ _ _ _ (hpvals.below' (Below.drew (Below.refl _ _))) (hqvals.below' (Below.drew (Below.refl _ _)))).mono ?_
          rintro e w1 ⟨rfl, hb1⟩
          have hb2 : Below w.heap.size w w1 := Below.trans hbel.drew (hb1.mono hbel.size)
          go_wp2
          go_ret
          exact ⟨ret_bool (by simp [Hfin.out]), hb2⟩
      · have hkl : k = l.length := by omega
        have Hfin := Lib.hid (eq_of_take Hlen.out (by have := HT.out; rw [hkl] at this; exact this))
        go_wp2
        go_ret
        exact ⟨ret_bool (by simp [Hfin.out]), hbel⟩
  · have hne0 : ((l.length : Int) != (m.length : Int)) = true := by simp; omega
    have Hfin := Lib.hid (show l ≠ m from fun h => hlen (by rw [h]))
    clear hlen
    go_enter Tryz.func33, Tryz.ntmps33
    go_wp2
    go_ret
    exact ⟨ret_bool (by simp [Hfin.out]), Below.refl _ _⟩
theorem implSameAccesses_any (va vb : Value) (l m : List AccD) (fa fb : List Nat) (w : World) (ha : accs w va l fa) (hb : accs w vb m fb) :
    Calls Tryz.prog 32 #[va, vb] w fun e w' => e = .returned (.bool (decide (l = m))) ∧ Below w.heap.size w w' := by
  obtain ⟨a, cap, rfl⟩ := slR.form ha
  obtain ⟨b, cap', rfl⟩ := slR.form hb
  have hP := plain_of Tryz.func110 (by kernel_rfl) (by kernel_rfl)
  have Hf := Lib.hid (allEq_eq (p := fun x y : AccD => decide (x = y)) (fun _ _ => rfl) l m)
  go_enter Tryz.func32, Tryz.ntmps32
  go_wp2_with fail
  refine (equalFuncAccess_any _ hP #[] (fun x y vx vy => #[.agg #[.int .i64 x.meth, vx], .agg #[.int .i64 y.meth, vy]]) (fun _ _ _ _ => rfl) (fun x y => decide (x = y)) _ _ l m fa fb _ ha hb (fun i hi hj w' vx vy fx fy hb hx hy => sameAccess_any _ _ _ _ _ _ _ hx hy)).mono ?_
  rintro e w1 ⟨rfl, hb1⟩
  go_wp2
  go_ret
  exact ⟨ret_bool (by first | rw [Hf.out] | rw [Hf2.out]), hb1⟩
theorem below_of_qt {P : Program} {f : FuncId} {args : Array Value} {w : World} {v : Value} (h : Calls P f args w fun e w' => e = .returned v ∧ Qt w w') : Calls P f args w fun e w' => e = .returned v ∧ Below w.heap.size w w' := h.mono fun _ _ ⟨h1, h2⟩ => ⟨h1, h2.below⟩
end Go.Proofs.YtpdmdfkcaabnaaaGreatDoor
/- SameQueries, of the program and of the reference. No condition. -/
namespace Go.Proofs.YtpdmdfkcaabnaaaGreatDoor
open Go.RowKit
set_option linter.unusedVariables false
set_option linter.unusedSimpArgs false
theorem qOf2 {P : Program} {f : FuncId} {args : Array Value} {w : World} {n x : Nat} {v : Value} (h : Calls P f args (w.drewN (n + x)) fun e w' => e = .returned v ∧ Qt (w.drewN (n + x)) w') :
    Calls P f args (w.drewN (n + x)) fun e w'' => e = .returned v ∧ ∃ m, w'' = w.drewN (n + m) := h.mono fun _ _ ⟨he, m, hm⟩ => ⟨he, x + m, by rw [hm, World.drewN_drewN, Nat.add_assoc]⟩
set_option maxRecDepth 100000 in
set_option maxHeartbeats 800000 in
theorem implSameQueries_any (x y : QueryD) (vh va uh ua : Value) (fh fa gh ga : List Nat) (w : World) (hh : ints w vh x.head fh) (ha : atoms w va x.atoms fa) (kh : ints w uh y.head gh) (ka : atoms w ua y.atoms ga) :
    Calls Tryz.prog 40 #[.agg #[vh, va], .agg #[uh, ua]] w fun e w' => e = .returned (.bool (decide (x = y))) ∧ Below w.heap.size w w' := by
  obtain ⟨xh, xa⟩ := x
  obtain ⟨yh, ya⟩ := y
  obtain ⟨a, cap, rfl⟩ := slR.form hh
  obtain ⟨b, cap', rfl⟩ := slR.form kh
  obtain ⟨a2, cap2, rfl⟩ := slR.form ha
  obtain ⟨b2, cap2', rfl⟩ := slR.form ka
  have hP := plain_of Tryz.func122 (by kernel_rfl) (by kernel_rfl)
  have He := Lib.hid (allEq_eq (p := fun x y : AtomD => decide (x = y)) (fun _ _ => rfl) xa ya)
  by_cases h1 : xh = yh
  · have Hf := Lib.hid (show decide ((⟨xh, xa⟩ : QueryD) = ⟨yh, ya⟩) = decide (xa = ya) by simp [h1])
    have hd : decide (xh = yh) = true := by simp [h1]
    replace h1 := Lib.hid h1
    go_enter Tryz.func40, Tryz.ntmps40
    go_wp2_with fail
    refine (slicesEqual_any _ _ xh yh fh gh _ ((hh.al _).al _) ((kh.al _).al _)).mono ?_
    rintro e w1 ⟨rfl, hq⟩
    obtain ⟨n1, rfl⟩ := hq
    go_wp2_with fail
    refine (equalFuncAtom_any _ hP #[] (fun x y vx vy => #[.agg #[.int .i64 x.rel, vx], .agg #[.int .i64 y.rel, vy]]) (fun _ _ _ _ => rfl) (fun x y => decide (x = y)) _ _ xa ya fa ga _ (((ha.al _).al _).dn _) (((ka.al _).al _).dn _)
      (fun i hi hj w' vx vy fx fy hb hx hy => sameAtom_any _ _ _ _ _ _ _ hx hy)).mono ?_
    rintro e w2 ⟨rfl, hb2⟩
    go_wp2
    go_ret
    exact ⟨ret_bool (by rw [Hf.out, ← He.out]), bt (bdn (ba (ba (Below.refl _ _)))) hb2⟩
  · have Hf := Lib.hid (show decide ((⟨xh, xa⟩ : QueryD) = ⟨yh, ya⟩) = false by simp [h1])
    have hd : decide (xh = yh) = false := by simp [h1]
    clear h1
    go_enter Tryz.func40, Tryz.ntmps40
    go_wp2_with fail
    refine (slicesEqual_any _ _ xh yh fh gh _ ((hh.al _).al _) ((kh.al _).al _)).mono ?_
    rintro e w1 ⟨rfl, hq⟩
    obtain ⟨n1, rfl⟩ := hq
    go_wp2
    go_ret
    exact ⟨ret_bool (by rw [Hf.out]), bdn (ba (ba (Below.refl _ _)))⟩
end Go.Proofs.YtpdmdfkcaabnaaaGreatDoor
