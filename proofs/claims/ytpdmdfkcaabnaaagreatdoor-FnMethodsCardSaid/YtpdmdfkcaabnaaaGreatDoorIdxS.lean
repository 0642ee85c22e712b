/- slices.IndexFunc, ContainsFunc, EqualFunc at slices of structs and of slices. No condition. -/
import Derived.Test.YtpdmdfkcaabnaaaGreatDoorMA
import Derived.Test.YtpdmdfkcaabnaaaGreatDoorMC
namespace Go.Proofs.YtpdmdfkcaabnaaaGreatDoor
open Go.RowKit
set_option linter.unusedVariables false
set_option linter.unusedSimpArgs false
theorem facts.al {w : World} {v : Value} {l : List FactD} {f : List Nat} (h : facts w v l f) (o : Obj) : facts (w.alloc o) v l f := h.below' (ba (Below.refl _ _))
theorem facts.dn {w : World} {v : Value} {l : List FactD} {f : List Nat} (h : facts w v l f) (n : Nat) : facts (w.drewN n) v l f := h.frame fun _ _ => rfl
set_option maxRecDepth 100000 in
set_option maxHeartbeats 800000 in
theorem indexFuncFact_any (K : Nat) (hK : Plain Tryz.prog K) (caps : Array Value) (A : FactD → Value → Array Value) (hA : ∀ (x : FactD) (vvals : Value) , #[.agg #[.int .i64 x.rel, vvals]] ++ caps = A x vvals) (p : FactD → Bool) (v : Value) (l : List FactD) (f : List Nat) (w : World) (h : facts w v l f)
    (hcall : ∀ (i : Nat) (hi : i < l.length) (w' : World) (vvals : Value) (fvals : List Nat) , Below w.heap.size w w' → ints w' vvals l[i].vals fvals → Calls Tryz.prog K (A l[i] vvals) w' fun e w'' => e = .returned (.bool (p l[i])) ∧ Below w'.heap.size w' w'') :
    Calls Tryz.prog 160 #[v, .func (.func K) #[] caps] w fun e w' => e = .returned (.int .i64 (idxI p l)) ∧ Below w.heap.size w w' := by
  obtain ⟨a, cap, rfl⟩ := slR.form h
  have hla := slR.le_max h
  have HC := Lib.hid hcall
  have HA := Lib.hid hA
  clear hcall hA
  unfold Plain at hK
  go_enter Tryz.func160, Tryz.ntmps160
  go_wp2
  go_loopw [8] (fun i wr => ∃ k : Nat, i = .int .i64 k ∧ k ≤ l.length ∧ Hid (∀ j (hj : j < l.length), j < k → p l[j] = false) ∧ Below w.heap.size w wr) (fun i _ => l.length - (intOf i).toNat)
  case atStart => exact ⟨0, rfl, Nat.zero_le _, Lib.hid (fun j hj h0 => by omega), Below.refl _ _⟩
  case round =>
    obtain ⟨k, rfl, hk, HN, hbel⟩ := hrel
    by_cases hlt : k < l.length
    · obtain ⟨g, c, fi, rfl, ⟨vvals, rfl, irel, hvals⟩, _, hc, _, _, _⟩ := slR.at (h.below' hbel) k hlt
      have hc0 : wr.cell? ⟨g, k * 2, none⟩ = _ := hc 0 _ rfl
      have hc1 : wr.cell? ⟨g, k * 2 + 1, none⟩ = _ := hc 1 _ rfl
      clear hc
      go_wp2_with fail
      have hAk := HA.out l[k] vvals
      rw [hAk]
      clear hAk
      refine (HC.out k hlt _ _ _ hbel hvals).mono ?_
      rintro e w1 ⟨rfl, hb1⟩
      have hb2 := hbel.trans (hb1.mono hbel.size)
      cases hp : p l[k] with
      | true =>
        have Hf := Lib.hid (idxI_at p l k hlt hp HN.out)
        clear hp
        go_wp2
        go_ret
        exact ⟨ret_int (by rw [Hf.out]), hb2⟩
      | false =>
        have HN2 := Lib.hid (show ∀ j (hj : j < l.length), j < k + 1 → p l[j] = false from fun j hj h1 => by
          by_cases e : j = k
          · subst e; exact hp
          · exact HN.out j hj (by omega))
        clear hp
        go_wp2
        go_roundw
        case rel => exact ⟨k + 1, by go_num, by omega, HN2, hb2⟩
        case measure => simp [intOf]; omega
    · have hkl : k = l.length := by omega
      have Hf := Lib.hid (idxI_none p l (fun j hj => HN.out j hj (by omega)))
      go_wp2
      go_ret
      exact ⟨ret_int (by rw [Hf.out]), hbel⟩
theorem containsFuncFact_any (K : Nat) (hK : Plain Tryz.prog K) (caps : Array Value) (A : FactD → Value → Array Value) (hA : ∀ (x : FactD) (vvals : Value) , #[.agg #[.int .i64 x.rel, vvals]] ++ caps = A x vvals) (p : FactD → Bool) (v : Value) (l : List FactD) (f : List Nat) (w : World) (h : facts w v l f)
    (hcall : ∀ (i : Nat) (hi : i < l.length) (w' : World) (vvals : Value) (fvals : List Nat) , Below w.heap.size w w' → ints w' vvals l[i].vals fvals → Calls Tryz.prog K (A l[i] vvals) w' fun e w'' => e = .returned (.bool (p l[i])) ∧ Below w'.heap.size w' w'') :
    Calls Tryz.prog 87 #[v, .func (.func K) #[] caps] w fun e w' => e = .returned (.bool (l.any p)) ∧ Below w.heap.size w w' := by
  obtain ⟨a, cap, rfl⟩ := slR.form h
  have HC := Lib.hid hcall
  have HA := Lib.hid hA
  have Ha := Lib.hid (idxI_any p l)
  clear hcall hA
  go_enter Tryz.func87, Tryz.ntmps87
  go_wp2_with fail
  refine (indexFuncFact_any K hK caps A HA.out p _ l f _ h HC.out).mono ?_
  rintro e w1 ⟨rfl, hb1⟩
  go_wp2
  go_ret
  exact ⟨ret_bool (by rw [← Ha.out]), hb1⟩
set_option maxRecDepth 100000 in
set_option maxHeartbeats 800000 in
theorem equalFuncFact_any (K : Nat) (hK : Plain Tryz.prog K) (caps : Array Value) (A : FactD → FactD → Value → Value → Array Value) (hA : ∀ (x y : FactD) (vvals uvvals : Value) , #[.agg #[.int .i64 x.rel, vvals], .agg #[.int .i64 y.rel, uvvals]] ++ caps = A x y vvals uvvals) (p : FactD → FactD → Bool) (va vb : Value) (l m : List FactD) (fa fb : List Nat) (w : World) (ha : facts w va l fa) (hb : facts w vb m fb)
    (hcall : ∀ (i : Nat) (hi : i < l.length) (hj : i < m.length) (w' : World) (vvals uvvals : Value) (fvals ufvals : List Nat) , Below w.heap.size w w' → ints w' vvals l[i].vals fvals → ints w' uvvals m[i].vals ufvals → Calls Tryz.prog K (A l[i] m[i] vvals uvvals) w' fun e w'' => e = .returned (.bool (p l[i] m[i])) ∧ Below w'.heap.size w' w'') :
    Calls Tryz.prog 149 #[va, vb, .func (.func K) #[] caps] w fun e w' => e = .returned (.bool (allEq p l m)) ∧ Below w.heap.size w w' := by
  obtain ⟨a, cap, rfl⟩ := slR.form ha
  obtain ⟨b, cap', rfl⟩ := slR.form hb
  have hla := slR.le_max ha
  have HC := Lib.hid hcall
  have HA := Lib.hid hA
  clear hcall hA
  unfold Plain at hK
  by_cases hlen : l.length = m.length
  · have Hlen := Lib.hid hlen
    have hle : m.length ≤ l.length := by omega
    have hge : l.length ≤ m.length := by omega
    have hne0 : ((l.length : Int) != (m.length : Int)) = false := by simp [hlen]
    clear hlen
    go_enter Tryz.func149, Tryz.ntmps149
    go_wp2
    go_loopw [17] (fun i wr => ∃ k : Nat, i = .int .i64 k ∧ k ≤ l.length ∧ Hid (allEq p l m = allEq p (l.drop k) (m.drop k)) ∧ Below w.heap.size w wr) (fun i _ => l.length - (intOf i).toNat)
    case atStart => exact ⟨0, rfl, Nat.zero_le _, Lib.hid (by simp), Below.refl _ _⟩
    case round =>
      obtain ⟨k, rfl, hk, HN, hbel⟩ := hrel
      by_cases hlt : k < l.length
      · obtain ⟨g, c, fi, rfl, ⟨vvals, rfl, irel, hvals⟩, _, hc, _, _, _⟩ := slR.at (ha.below' hbel) k hlt
        obtain ⟨g', c', fi', rfl, ⟨uvvals, rfl, uirel, huvals⟩, _, hc', _, _, _⟩ := slR.at (hb.below' hbel) k (by omega)
        have hp0 : wr.cell? ⟨g, k * 2, none⟩ = _ := hc 0 _ rfl
        have hq0 : wr.cell? ⟨g', k * 2, none⟩ = _ := hc' 0 _ rfl
        have hp1 : wr.cell? ⟨g, k * 2 + 1, none⟩ = _ := hc 1 _ rfl
        have hq1 : wr.cell? ⟨g', k * 2 + 1, none⟩ = _ := hc' 1 _ rfl
        have hqa0 := fun o => cell_al hq0 o
        have hqa1 := fun o => cell_al hq1 o
        obtain ⟨avvals, cvvals, rfl⟩ := slR.form hvals
        obtain ⟨uavvals, ucvvals, rfl⟩ := slR.form huvals
        clear hc hc'
        have hkm : (k : Int) < (m.length : Int) := by omega
        cases hp : p l[k] m[k] with
        | true =>
          have HN2 := Lib.hid (HN.out.trans (allEq_step hlt (by omega) hp))
          go_wp2_with fail
          have hAk := HA.out l[k] m[k] (.slice avvals l[k].vals.length cvvals) (.slice uavvals m[k].vals.length ucvvals)
          rw [hAk]
          clear hAk
          refine (HC.out k hlt (by omega) _ (.slice avvals l[k].vals.length cvvals) (.slice uavvals m[k].vals.length ucvvals) fi fi' ?_ ?_ ?_).mono ?_
          · repeat (first | exact hbel | refine ba ?_)
          · refine ints.below' hvals ?_
            repeat (first | exact Below.refl _ _ | refine ba ?_)
          · refine ints.below' huvals ?_
            repeat (first | exact Below.refl _ _ | refine ba ?_)
          rintro e w1 ⟨rfl, hb1⟩
          have hb2 : Below w.heap.size w w1 := by
            refine bt ?_ hb1
            repeat (first | exact hbel | refine ba ?_)
          go_wp2
          go_roundw
          case rel => exact ⟨k + 1, by go_num, by omega, HN2, hb2⟩
          case measure => simp [intOf]; omega
        | false =>
          have Hf := Lib.hid (HN.out.trans (allEq_no hlt (by omega) hp))
          go_wp2_with fail
          have hAk := HA.out l[k] m[k] (.slice avvals l[k].vals.length cvvals) (.slice uavvals m[k].vals.length ucvvals)
          rw [hAk]
          clear hAk
          refine (HC.out k hlt (by omega) _ (.slice avvals l[k].vals.length cvvals) (.slice uavvals m[k].vals.length ucvvals) fi fi' ?_ ?_ ?_).mono ?_
          · repeat (first | exact hbel | refine ba ?_)
          · refine ints.below' hvals ?_
            repeat (first | exact Below.refl _ _ | refine ba ?_)
          · refine ints.below' huvals ?_
            repeat (first | exact Below.refl _ _ | refine ba ?_)
          rintro e w1 ⟨rfl, hb1⟩
          have hb2 : Below w.heap.size w w1 := by
            refine bt ?_ hb1
            repeat (first | exact hbel | refine ba ?_)
          go_wp2
          go_ret
          exact ⟨ret_bool (by rw [Hf.out]), hb2⟩
      · have hkl : k = l.length := by omega
        have Hf := Lib.hid (HN.out.trans (allEq_end hkl Hlen.out))
        go_wp2
        go_ret
        exact ⟨ret_bool (by rw [Hf.out]), hbel⟩
  · have hne0 : ((l.length : Int) != (m.length : Int)) = true := by simp; omega
    have Hfin := Lib.hid (allEq_len (p := p) hlen)
    clear hlen
    go_enter Tryz.func149, Tryz.ntmps149
    go_wp2
    go_ret
    exact ⟨ret_bool (by simp [Hfin.out]), Below.refl _ _⟩
theorem atoms.al {w : World} {v : Value} {l : List AtomD} {f : List Nat} (h : atoms w v l f) (o : Obj) : atoms (w.alloc o) v l f := h.below' (ba (Below.refl _ _))
theorem atoms.dn {w : World} {v : Value} {l : List AtomD} {f : List Nat} (h : atoms w v l f) (n : Nat) : atoms (w.drewN n) v l f := h.frame fun _ _ => rfl
set_option maxRecDepth 100000 in
set_option maxHeartbeats 800000 in
theorem indexFuncAtom_any (K : Nat) (hK : Plain Tryz.prog K) (caps : Array Value) (A : AtomD → Value → Array Value) (hA : ∀ (x : AtomD) (vterms : Value) , #[.agg #[.int .i64 x.rel, vterms]] ++ caps = A x vterms) (p : AtomD → Bool) (v : Value) (l : List AtomD) (f : List Nat) (w : World) (h : atoms w v l f)
    (hcall : ∀ (i : Nat) (hi : i < l.length) (w' : World) (vterms : Value) (fterms : List Nat) , Below w.heap.size w w' → ints w' vterms l[i].terms fterms → Calls Tryz.prog K (A l[i] vterms) w' fun e w'' => e = .returned (.bool (p l[i])) ∧ Below w'.heap.size w' w'') :
    Calls Tryz.prog 184 #[v, .func (.func K) #[] caps] w fun e w' => e = .returned (.int .i64 (idxI p l)) ∧ Below w.heap.size w w' := by
  obtain ⟨a, cap, rfl⟩ := slR.form h
  have hla := slR.le_max h
  have HC := Lib.hid hcall
  have HA := Lib.hid hA
  clear hcall hA
  unfold Plain at hK
  go_enter Tryz.func184, Tryz.ntmps184
  go_wp2
  go_loopw [8] (fun i wr => ∃ k : Nat, i = .int .i64 k ∧ k ≤ l.length ∧ Hid (∀ j (hj : j < l.length), j < k → p l[j] = false) ∧ Below w.heap.size w wr) (fun i _ => l.length - (intOf i).toNat)
  case atStart => exact ⟨0, rfl, Nat.zero_le _, Lib.hid (fun j hj h0 => by omega), Below.refl _ _⟩
  case round =>
    obtain ⟨k, rfl, hk, HN, hbel⟩ := hrel
    by_cases hlt : k < l.length
    · obtain ⟨g, c, fi, rfl, ⟨vterms, rfl, irel, hterms⟩, _, hc, _, _, _⟩ := slR.at (h.below' hbel) k hlt
      have hc0 : wr.cell? ⟨g, k * 2, none⟩ = _ := hc 0 _ rfl
      have hc1 : wr.cell? ⟨g, k * 2 + 1, none⟩ = _ := hc 1 _ rfl
      clear hc
      go_wp2_with fail
      have hAk := HA.out l[k] vterms
      rw [hAk]
      clear hAk
      refine (HC.out k hlt _ _ _ hbel hterms).mono ?_
      rintro e w1 ⟨rfl, hb1⟩
      have hb2 := hbel.trans (hb1.mono hbel.size)
      cases hp : p l[k] with
      | true =>
        have Hf := Lib.hid (idxI_at p l k hlt hp HN.out)
        clear hp
        go_wp2
        go_ret
        exact ⟨ret_int (by rw [Hf.out]), hb2⟩
      | false =>
        have HN2 := Lib.hid (show ∀ j (hj : j < l.length), j < k + 1 → p l[j] = false from fun j hj h1 => by
          by_cases e : j = k
          · subst e; exact hp
          · exact HN.out j hj (by omega))
        clear hp
        go_wp2
        go_roundw
        case rel => exact ⟨k + 1, by go_num, by omega, HN2, hb2⟩
        case measure => simp [intOf]; omega
    · have hkl : k = l.length := by omega
      have Hf := Lib.hid (idxI_none p l (fun j hj => HN.out j hj (by omega)))
      go_wp2
      go_ret
      exact ⟨ret_int (by rw [Hf.out]), hbel⟩
theorem containsFuncAtom_any (K : Nat) (hK : Plain Tryz.prog K) (caps : Array Value) (A : AtomD → Value → Array Value) (hA : ∀ (x : AtomD) (vterms : Value) , #[.agg #[.int .i64 x.rel, vterms]] ++ caps = A x vterms) (p : AtomD → Bool) (v : Value) (l : List AtomD) (f : List Nat) (w : World) (h : atoms w v l f)
    (hcall : ∀ (i : Nat) (hi : i < l.length) (w' : World) (vterms : Value) (fterms : List Nat) , Below w.heap.size w w' → ints w' vterms l[i].terms fterms → Calls Tryz.prog K (A l[i] vterms) w' fun e w'' => e = .returned (.bool (p l[i])) ∧ Below w'.heap.size w' w'') :
    Calls Tryz.prog 123 #[v, .func (.func K) #[] caps] w fun e w' => e = .returned (.bool (l.any p)) ∧ Below w.heap.size w w' := by
  obtain ⟨a, cap, rfl⟩ := slR.form h
  have HC := Lib.hid hcall
  have HA := Lib.hid hA
  have Ha := Lib.hid (idxI_any p l)
  clear hcall hA
  go_enter Tryz.func123, Tryz.ntmps123
  go_wp2_with fail
  refine (indexFuncAtom_any K hK caps A HA.out p _ l f _ h HC.out).mono ?_
  rintro e w1 ⟨rfl, hb1⟩
  go_wp2
  go_ret
  exact ⟨ret_bool (by rw [← Ha.out]), hb1⟩
set_option maxRecDepth 100000 in
set_option maxHeartbeats 800000 in
theorem equalFuncAtom_any (K : Nat) (hK : Plain Tryz.prog K) (caps : Array Value) (A : AtomD → AtomD → Value → Value → Array Value) (hA : ∀ (x y : AtomD) (vterms uvterms : Value) , #[.agg #[.int .i64 x.rel, vterms], .agg #[.int .i64 y.rel, uvterms]] ++ caps = A x y vterms uvterms) (p : AtomD → AtomD → Bool) (va vb : Value) (l m : List AtomD) (fa fb : List Nat) (w : World) (ha : atoms w va l fa) (hb : atoms w vb m fb)
    (hcall : ∀ (i : Nat) (hi : i < l.length) (hj : i < m.length) (w' : World) (vterms uvterms : Value) (fterms ufterms : List Nat) , Below w.heap.size w w' → ints w' vterms l[i].terms fterms → ints w' uvterms m[i].terms ufterms → Calls Tryz.prog K (A l[i] m[i] vterms uvterms) w' fun e w'' => e = .returned (.bool (p l[i] m[i])) ∧ Below w'.heap.size w' w'') :
    Calls Tryz.prog 121 #[va, vb, .func (.func K) #[] caps] w fun e w' => e = .returned (.bool (allEq p l m)) ∧ Below w.heap.size w w' := by
  obtain ⟨a, cap, rfl⟩ := slR.form ha
  obtain ⟨b, cap', rfl⟩ := slR.form hb
  have hla := slR.le_max ha
  have HC := Lib.hid hcall
  have HA := Lib.hid hA
  clear hcall hA
  unfold Plain at hK
  by_cases hlen : l.length = m.length
  · have Hlen := Lib.hid hlen
    have hle : m.length ≤ l.length := by omega
    have hge : l.length ≤ m.length := by omega
    have hne0 : ((l.length : Int) != (m.length : Int)) = false := by simp [hlen]
    clear hlen
    go_enter Tryz.func121, Tryz.ntmps121
    go_wp2
    go_loopw [17] (fun i wr => ∃ k : Nat, i = .int .i64 k ∧ k ≤ l.length ∧ Hid (allEq p l m = allEq p (l.drop k) (m.drop k)) ∧ Below w.heap.size w wr) (fun i _ => l.length - (intOf i).toNat)
    case atStart => exact ⟨0, rfl, Nat.zero_le _, Lib.hid (by simp), Below.refl _ _⟩
    case round =>
      obtain ⟨k, rfl, hk, HN, hbel⟩ := hrel
      by_cases hlt : k < l.length
      · obtain ⟨g, c, fi, rfl, ⟨vterms, rfl, irel, hterms⟩, _, hc, _, _, _⟩ := slR.at (ha.below' hbel) k hlt
        obtain ⟨g', c', fi', rfl, ⟨uvterms, rfl, uirel, huterms⟩, _, hc', _, _, _⟩ := slR.at (hb.below' hbel) k (by omega)
        have hp0 : wr.cell? ⟨g, k * 2, none⟩ = _ := hc 0 _ rfl
        have hq0 : wr.cell? ⟨g', k * 2, none⟩ = _ := hc' 0 _ rfl
        have hp1 : wr.cell? ⟨g, k * 2 + 1, none⟩ = _ := hc 1 _ rfl
        have hq1 : wr.cell? ⟨g', k * 2 + 1, none⟩ = _ := hc' 1 _ rfl
        have hqa0 := fun o => cell_al hq0 o
        have hqa1 := fun o => cell_al hq1 o
        obtain ⟨avterms, cvterms, rfl⟩ := slR.form hterms
        obtain ⟨uavterms, ucvterms, rfl⟩ := slR.form huterms
        clear hc hc'
        have hkm : (k : Int) < (m.length : Int) := by omega
        cases hp : p l[k] m[k] with
        | true =>
          have HN2 := Lib.hid (HN.out.trans (allEq_step hlt (by omega) hp))
          go_wp2_with fail
          have hAk := HA.out l[k] m[k] (.slice avterms l[k].terms.length cvterms) (.slice uavterms m[k].terms.length ucvterms)
          rw [hAk]
          clear hAk
          refine (HC.out k hlt (by omega) _ (.slice avterms l[k].terms.length cvterms) (.slice uavterms m[k].terms.length ucvterms) fi fi' ?_ ?_ ?_).mono ?_
          · repeat (first | exact hbel | refine ba ?_)
          · refine ints.below' hterms ?_
            repeat (first | exact Below.refl _ _ | refine ba ?_)
          · refine ints.below' huterms ?_
            repeat (first | exact Below.refl _ _ | refine ba ?_)
          rintro e w1 ⟨rfl, hb1⟩
          have hb2 : Below w.heap.size w w1 := by
            refine bt ?_ hb1
            repeat (first | exact hbel | refine ba ?_)
          go_wp2
          go_roundw
          case rel => exact ⟨k + 1, by go_num, by omega, HN2, hb2⟩
          case measure => simp [intOf]; omega
        | false =>
          have Hf := Lib.hid (HN.out.trans (allEq_no hlt (by omega) hp))
          go_wp2_with fail
          have hAk := HA.out l[k] m[k] (.slice avterms l[k].terms.length cvterms) (.slice uavterms m[k].terms.length ucvterms)
          rw [hAk]
          clear hAk
          refine (HC.out k hlt (by omega) _ (.slice avterms l[k].terms.length cvterms) (.slice uavterms m[k].terms.length ucvterms) fi fi' ?_ ?_ ?_).mono ?_
          · repeat (first | exact hbel | refine ba ?_)
          · refine ints.below' hterms ?_
            repeat (first | exact Below.refl _ _ | refine ba ?_)
          · refine ints.below' huterms ?_
            repeat (first | exact Below.refl _ _ | refine ba ?_)
          rintro e w1 ⟨rfl, hb1⟩
          have hb2 : Below w.heap.size w w1 := by
            refine bt ?_ hb1
            repeat (first | exact hbel | refine ba ?_)
          go_wp2
          go_ret
          exact ⟨ret_bool (by rw [Hf.out]), hb2⟩
      · have hkl : k = l.length := by omega
        have Hf := Lib.hid (HN.out.trans (allEq_end hkl Hlen.out))
        go_wp2
        go_ret
        exact ⟨ret_bool (by rw [Hf.out]), hbel⟩
  · have hne0 : ((l.length : Int) != (m.length : Int)) = true := by simp; omega
    have Hfin := Lib.hid (allEq_len (p := p) hlen)
    clear hlen
    go_enter Tryz.func121, Tryz.ntmps121
    go_wp2
    go_ret
    exact ⟨ret_bool (by simp [Hfin.out]), Below.refl _ _⟩
theorem meths.al {w : World} {v : Value} {l : List MethD} {f : List Nat} (h : meths w v l f) (o : Obj) : meths (w.alloc o) v l f := h.below' (ba (Below.refl _ _))
theorem meths.dn {w : World} {v : Value} {l : List MethD} {f : List Nat} (h : meths w v l f) (n : Nat) : meths (w.drewN n) v l f := h.frame fun _ _ => rfl
set_option maxRecDepth 100000 in
set_option maxHeartbeats 800000 in
theorem indexFuncMethod_any (K : Nat) (hK : Plain Tryz.prog K) (caps : Array Value) (A : MethD → Value → Array Value) (hA : ∀ (x : MethD) (vinputs : Value) , #[.agg #[.int .i64 x.rel, vinputs, .int .i64 x.limit, .int .i64 x.cost, .int .i64 x.quota]] ++ caps = A x vinputs) (p : MethD → Bool) (v : Value) (l : List MethD) (f : List Nat) (w : World) (h : meths w v l f)
    (hcall : ∀ (i : Nat) (hi : i < l.length) (w' : World) (vinputs : Value) (finputs : List Nat) , Below w.heap.size w w' → ints w' vinputs l[i].inputs finputs → Calls Tryz.prog K (A l[i] vinputs) w' fun e w'' => e = .returned (.bool (p l[i])) ∧ Below w'.heap.size w' w'') :
    Calls Tryz.prog 169 #[v, .func (.func K) #[] caps] w fun e w' => e = .returned (.int .i64 (idxI p l)) ∧ Below w.heap.size w w' := by
  obtain ⟨a, cap, rfl⟩ := slR.form h
  have hla := slR.le_max h
  have HC := Lib.hid hcall
  have HA := Lib.hid hA
  clear hcall hA
  unfold Plain at hK
  go_enter Tryz.func169, Tryz.ntmps169
  go_wp2
  go_loopw [8] (fun i wr => ∃ k : Nat, i = .int .i64 k ∧ k ≤ l.length ∧ Hid (∀ j (hj : j < l.length), j < k → p l[j] = false) ∧ Below w.heap.size w wr) (fun i _ => l.length - (intOf i).toNat)
  case atStart => exact ⟨0, rfl, Nat.zero_le _, Lib.hid (fun j hj h0 => by omega), Below.refl _ _⟩
  case round =>
    obtain ⟨k, rfl, hk, HN, hbel⟩ := hrel
    by_cases hlt : k < l.length
    · obtain ⟨g, c, fi, rfl, ⟨vinputs, rfl, irel, ilimit, icost, iquota, hinputs⟩, _, hc, _, _, _⟩ := slR.at (h.below' hbel) k hlt
      have hc0 : wr.cell? ⟨g, k * 5, none⟩ = _ := hc 0 _ rfl
      have hc1 : wr.cell? ⟨g, k * 5 + 1, none⟩ = _ := hc 1 _ rfl
      have hc2 : wr.cell? ⟨g, k * 5 + 2, none⟩ = _ := hc 2 _ rfl
      have hc3 : wr.cell? ⟨g, k * 5 + 3, none⟩ = _ := hc 3 _ rfl
      have hc4 : wr.cell? ⟨g, k * 5 + 4, none⟩ = _ := hc 4 _ rfl
      clear hc
      go_wp2_with fail
      have hAk := HA.out l[k] vinputs
      rw [hAk]
      clear hAk
      refine (HC.out k hlt _ _ _ hbel hinputs).mono ?_
      rintro e w1 ⟨rfl, hb1⟩
      have hb2 := hbel.trans (hb1.mono hbel.size)
      cases hp : p l[k] with
      | true =>
        have Hf := Lib.hid (idxI_at p l k hlt hp HN.out)
        clear hp
        go_wp2
        go_ret
        exact ⟨ret_int (by rw [Hf.out]), hb2⟩
      | false =>
        have HN2 := Lib.hid (show ∀ j (hj : j < l.length), j < k + 1 → p l[j] = false from fun j hj h1 => by
          by_cases e : j = k
          · subst e; exact hp
          · exact HN.out j hj (by omega))
        clear hp
        go_wp2
        go_roundw
        case rel => exact ⟨k + 1, by go_num, by omega, HN2, hb2⟩
        case measure => simp [intOf]; omega
    · have hkl : k = l.length := by omega
      have Hf := Lib.hid (idxI_none p l (fun j hj => HN.out j hj (by omega)))
      go_wp2
      go_ret
      exact ⟨ret_int (by rw [Hf.out]), hbel⟩
theorem containsFuncMethod_any (K : Nat) (hK : Plain Tryz.prog K) (caps : Array Value) (A : MethD → Value → Array Value) (hA : ∀ (x : MethD) (vinputs : Value) , #[.agg #[.int .i64 x.rel, vinputs, .int .i64 x.limit, .int .i64 x.cost, .int .i64 x.quota]] ++ caps = A x vinputs) (p : MethD → Bool) (v : Value) (l : List MethD) (f : List Nat) (w : World) (h : meths w v l f)
    (hcall : ∀ (i : Nat) (hi : i < l.length) (w' : World) (vinputs : Value) (finputs : List Nat) , Below w.heap.size w w' → ints w' vinputs l[i].inputs finputs → Calls Tryz.prog K (A l[i] vinputs) w' fun e w'' => e = .returned (.bool (p l[i])) ∧ Below w'.heap.size w' w'') :
    Calls Tryz.prog 105 #[v, .func (.func K) #[] caps] w fun e w' => e = .returned (.bool (l.any p)) ∧ Below w.heap.size w w' := by
  obtain ⟨a, cap, rfl⟩ := slR.form h
  have HC := Lib.hid hcall
  have HA := Lib.hid hA
  have Ha := Lib.hid (idxI_any p l)
  clear hcall hA
  go_enter Tryz.func105, Tryz.ntmps105
  go_wp2_with fail
  refine (indexFuncMethod_any K hK caps A HA.out p _ l f _ h HC.out).mono ?_
  rintro e w1 ⟨rfl, hb1⟩
  go_wp2
  go_ret
  exact ⟨ret_bool (by rw [← Ha.out]), hb1⟩
theorem accs.al {w : World} {v : Value} {l : List AccD} {f : List Nat} (h : accs w v l f) (o : Obj) : accs (w.alloc o) v l f := h.below' (ba (Below.refl _ _))
theorem accs.dn {w : World} {v : Value} {l : List AccD} {f : List Nat} (h : accs w v l f) (n : Nat) : accs (w.drewN n) v l f := h.frame fun _ _ => rfl
set_option maxRecDepth 100000 in
set_option maxHeartbeats 800000 in
theorem equalFuncAccess_any (K : Nat) (hK : Plain Tryz.prog K) (caps : Array Value) (A : AccD → AccD → Value → Value → Array Value) (hA : ∀ (x y : AccD) (vvals uvvals : Value) , #[.agg #[.int .i64 x.meth, vvals], .agg #[.int .i64 y.meth, uvvals]] ++ caps = A x y vvals uvvals) (p : AccD → AccD → Bool) (va vb : Value) (l m : List AccD) (fa fb : List Nat) (w : World) (ha : accs w va l fa) (hb : accs w vb m fb)
    (hcall : ∀ (i : Nat) (hi : i < l.length) (hj : i < m.length) (w' : World) (vvals uvvals : Value) (fvals ufvals : List Nat) , Below w.heap.size w w' → ints w' vvals l[i].vals fvals → ints w' uvvals m[i].vals ufvals → Calls Tryz.prog K (A l[i] m[i] vvals uvvals) w' fun e w'' => e = .returned (.bool (p l[i] m[i])) ∧ Below w'.heap.size w' w'') :
    Calls Tryz.prog 109 #[va, vb, .func (.func K) #[] caps] w fun e w' => e = .returned (.bool (allEq p l m)) ∧ Below w.heap.size w w' := by
  obtain ⟨a, cap, rfl⟩ := slR.form ha
  obtain ⟨b, cap', rfl⟩ := slR.form hb
  have hla := slR.le_max ha
  have HC := Lib.hid hcall
  have HA := Lib.hid hA
  clear hcall hA
  unfold Plain at hK
  by_cases hlen : l.length = m.length
  · have Hlen := Lib.hid hlen
    have hle : m.length ≤ l.length := by omega
    have hge : l.length ≤ m.length := by omega
    have hne0 : ((l.length : Int) != (m.length : Int)) = false := by simp [hlen]
    clear hlen
    go_enter Tryz.func109, Tryz.ntmps109
    go_wp2
    go_loopw [17] (fun i wr => ∃ k : Nat, i = .int .i64 k ∧ k ≤ l.length ∧ Hid (allEq p l m = allEq p (l.drop k) (m.drop k)) ∧ Below w.heap.size w wr) (fun i _ => l.length - (intOf i).toNat)
    case atStart => exact ⟨0, rfl, Nat.zero_le _, Lib.hid (by simp), Below.refl _ _⟩
    case round =>
      obtain ⟨k, rfl, hk, HN, hbel⟩ := hrel
      by_cases hlt : k < l.length
      · obtain ⟨g, c, fi, rfl, ⟨vvals, rfl, imeth, hvals⟩, _, hc, _, _, _⟩ := slR.at (ha.below' hbel) k hlt
        obtain ⟨g', c', fi', rfl, ⟨uvvals, rfl, uimeth, huvals⟩, _, hc', _, _, _⟩ := slR.at (hb.below' hbel) k (by omega)
        have hp0 : wr.cell? ⟨g, k * 2, none⟩ = _ := hc 0 _ rfl
        have hq0 : wr.cell? ⟨g', k * 2, none⟩ = _ := hc' 0 _ rfl
        have hp1 : wr.cell? ⟨g, k * 2 + 1, none⟩ = _ := hc 1 _ rfl
        have hq1 : wr.cell? ⟨g', k * 2 + 1, none⟩ = _ := hc' 1 _ rfl
        have hqa0 := fun o => cell_al hq0 o
        have hqa1 := fun o => cell_al hq1 o
        obtain ⟨avvals, cvvals, rfl⟩ := slR.form hvals
        obtain ⟨uavvals, ucvvals, rfl⟩ := slR.form huvals
        clear hc hc'
        have hkm : (k : Int) < (m.length : Int) := by omega
        cases hp : p l[k] m[k] with
        | true =>
          have HN2 := Lib.hid (HN.out.trans (allEq_step hlt (by omega) hp))
          go_wp2_with fail
          have hAk := HA.out l[k] m[k] (.slice avvals l[k].vals.length cvvals) (.slice uavvals m[k].vals.length ucvvals)
          rw [hAk]
          clear hAk
          refine (HC.out k hlt (by omega) _ (.slice avvals l[k].vals.length cvvals) (.slice uavvals m[k].vals.length ucvvals) fi fi' ?_ ?_ ?_).mono ?_
          · repeat (first | exact hbel | refine ba ?_)
          · refine ints.below' hvals ?_
            repeat (first | exact Below.refl _ _ | refine ba ?_)
          · refine ints.below' huvals ?_
            repeat (first | exact Below.refl _ _ | refine ba ?_)
          rintro e w1 ⟨rfl, hb1⟩
          have hb2 : Below w.heap.size w w1 := by
            refine bt ?_ hb1
            repeat (first | exact hbel | refine ba ?_)
          go_wp2
          go_roundw
          case rel => exact ⟨k + 1, by go_num, by omega, HN2, hb2⟩
          case measure => simp [intOf]; omega
        | false =>
          have Hf := Lib.hid (HN.out.trans (allEq_no hlt (by omega) hp))
          go_wp2_with fail
          have hAk := HA.out l[k] m[k] (.slice avvals l[k].vals.length cvvals) (.slice uavvals m[k].vals.length ucvvals)
          rw [hAk]
          clear hAk
          refine (HC.out k hlt (by omega) _ (.slice avvals l[k].vals.length cvvals) (.slice uavvals m[k].vals.length ucvvals) fi fi' ?_ ?_ ?_).mono ?_
          · repeat (first | exact hbel | refine ba ?_)
          · refine ints.below' hvals ?_
            repeat (first | exact Below.refl _ _ | refine ba ?_)
          · refine ints.below' huvals ?_
            repeat (first | exact Below.refl _ _ | refine ba ?_)
          rintro e w1 ⟨rfl, hb1⟩
          have hb2 : Below w.heap.size w w1 := by
            refine bt ?_ hb1
            repeat (first | exact hbel | refine ba ?_)
          go_wp2
          go_ret
          exact ⟨ret_bool (by rw [Hf.out]), hb2⟩
      · have hkl : k = l.length := by omega
        have Hf := Lib.hid (HN.out.trans (allEq_end hkl Hlen.out))
        go_wp2
        go_ret
        exact ⟨ret_bool (by rw [Hf.out]), hbel⟩
  · have hne0 : ((l.length : Int) != (m.length : Int)) = true := by simp; omega
    have Hfin := Lib.hid (allEq_len (p := p) hlen)
    clear hlen
    go_enter Tryz.func109, Tryz.ntmps109
    go_wp2
    go_ret
    exact ⟨ret_bool (by simp [Hfin.out]), Below.refl _ _⟩
end Go.Proofs.YtpdmdfkcaabnaaaGreatDoor
