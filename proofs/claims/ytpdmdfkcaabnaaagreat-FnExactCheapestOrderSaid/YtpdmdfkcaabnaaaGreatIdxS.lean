/- slices.IndexFunc, ContainsFunc, EqualFunc at slices of structs and of slices. No condition. -/
import Derived.Test.YtpdmdfkcaabnaaaGreatIdxInt
import Derived.Test.YtpdmdfkcaabnaaaGreatCalc
import Derived.Test.YtpdmdfkcaabnaaaGreatHFact
import Derived.Test.YtpdmdfkcaabnaaaGreatHMeth
import Derived.Test.YtpdmdfkcaabnaaaGreatHAcc
import Derived.Test.YtpdmdfkcaabnaaaGreatHAtom
import Derived.Test.YtpdmdfkcaabnaaaGreatHStep
import Derived.Test.YtpdmdfkcaabnaaaGreatHIntSS
namespace Go.Proofs.YtpdmdfkcaabnaaaGreat
open Go.RowKit
set_option linter.unusedVariables false
set_option linter.unusedSimpArgs false
theorem atoms.al {w : World} {v : Value} {l : List AtomD} {f : List Nat} (h : atoms w v l f) (o : Obj) : atoms (w.alloc o) v l f := h.below' (ba (Below.refl _ _))
theorem atoms.dn {w : World} {v : Value} {l : List AtomD} {f : List Nat} (h : atoms w v l f) (n : Nat) : atoms (w.drewN n) v l f := h.frame fun _ _ => rfl
set_option maxRecDepth 100000 in
set_option maxHeartbeats 800000 in
theorem indexFuncAtom_any (K : Nat) (hK : Plain Tryz.prog K) (caps : Array Value) (A : AtomD → Value → Array Value) (hA : ∀ (x : AtomD) (vterms : Value) , #[.agg #[.int .i64 x.rel, vterms]] ++ caps = A x vterms) (p : AtomD → Bool) (v : Value) (l : List AtomD) (f : List Nat) (w : World) (h : atoms w v l f)
    (hcall : ∀ (i : Nat) (hi : i < l.length) (w' : World) (vterms : Value) (fterms : List Nat) , Below w.heap.size w w' → ints w' vterms l[i].terms fterms → Calls Tryz.prog K (A l[i] vterms) w' fun e w'' => e = .returned (.bool (p l[i])) ∧ Below w'.heap.size w' w'') :
    Calls Tryz.prog 73 #[v, .func (.func K) #[] caps] w fun e w' => e = .returned (.int .i64 (idxI p l)) ∧ Below w.heap.size w w' := by
  obtain ⟨a, cap, rfl⟩ := slR.form h
  have hla := slR.le_max h
  have HC := Lib.hid hcall
  have HA := Lib.hid hA
  clear hcall hA
  unfold Plain at hK
  go_enter Tryz.func73, Tryz.ntmps73
  go_wp2
  go_loopw [8] (fun i wr => ∃ k : Nat, i = .int .i64 k ∧ k ≤ l.length ∧ Hid (∀ j (hj : j < l.length), j < k → p l[j] = false) ∧ Below w.heap.size w wr) (fun i _ => l.length - (intOf i).toNat)
  case atStart => exact ⟨0, rfl, Nat.zero_le _, Lib.hid (fun j hj h0 => by omega), Below.refl _ _⟩
  case round =>
    obtain ⟨k, rfl, hk, HN, hbel⟩ := hrel
    by_cases hlt : k < l.length
    · obtain ⟨g, c, fi, rfl, ⟨vterms, rfl, irel, hterms⟩, _, hc, _, _, _⟩ := slR.at (h.below' hbel) k hlt
      have hc0 : wr.cell? ⟨g, k * 2, none⟩ = _ := hc 0 _ rfl
      have hc1 : wr.cell? ⟨g, k * 2 + 1, none⟩ = _ := hc 1 _ rfl
      clear hc
      go_wp2_with fail
      have hAk := HA.out l[k] vterms
      rw [hAk]
      clear hAk
      refine (HC.out k hlt _ _ _ hbel hterms).mono ?_
      rintro e w1 ⟨rfl, hb1⟩
      have hb2 := hbel.trans (hb1.mono hbel.size)
      cases hp : p l[k] with
      | true =>
        have Hf := Lib.hid (idxI_at p l k hlt hp HN.out)
        clear hp
        go_wp2
        go_ret
        exact ⟨ret_int (by rw [Hf.out]), hb2⟩
      | false =>
        have HN2 := Lib.hid (show ∀ j (hj : j < l.length), j < k + 1 → p l[j] = false from fun j hj h1 => by
          by_cases e : j = k
          · subst e; exact hp
          · exact HN.out j hj (by omega))
        clear hp
        go_wp2
        go_roundw
        case rel => exact ⟨k + 1, by go_num, by omega, HN2, hb2⟩
        case measure => simp [intOf]; omega
    · have hkl : k = l.length := by omega
      have Hf := Lib.hid (idxI_none p l (fun j hj => HN.out j hj (by omega)))
      go_wp2
      go_ret
      exact ⟨ret_int (by rw [Hf.out]), hbel⟩
theorem containsFuncAtom_any (K : Nat) (hK : Plain Tryz.prog K) (caps : Array Value) (A : AtomD → Value → Array Value) (hA : ∀ (x : AtomD) (vterms : Value) , #[.agg #[.int .i64 x.rel, vterms]] ++ caps = A x vterms) (p : AtomD → Bool) (v : Value) (l : List AtomD) (f : List Nat) (w : World) (h : atoms w v l f)
    (hcall : ∀ (i : Nat) (hi : i < l.length) (w' : World) (vterms : Value) (fterms : List Nat) , Below w.heap.size w w' → ints w' vterms l[i].terms fterms → Calls Tryz.prog K (A l[i] vterms) w' fun e w'' => e = .returned (.bool (p l[i])) ∧ Below w'.heap.size w' w'') :
    Calls Tryz.prog 59 #[v, .func (.func K) #[] caps] w fun e w' => e = .returned (.bool (l.any p)) ∧ Below w.heap.size w w' := by
  obtain ⟨a, cap, rfl⟩ := slR.form h
  have HC := Lib.hid hcall
  have HA := Lib.hid hA
  have Ha := Lib.hid (idxI_any p l)
  clear hcall hA
  go_enter Tryz.func59, Tryz.ntmps59
  go_wp2_with fail
  refine (indexFuncAtom_any K hK caps A HA.out p _ l f _ h HC.out).mono ?_
  rintro e w1 ⟨rfl, hb1⟩
  go_wp2
  go_ret
  exact ⟨ret_bool (by rw [← Ha.out]), hb1⟩
theorem meths.al {w : World} {v : Value} {l : List MethD} {f : List Nat} (h : meths w v l f) (o : Obj) : meths (w.alloc o) v l f := h.below' (ba (Below.refl _ _))
theorem meths.dn {w : World} {v : Value} {l : List MethD} {f : List Nat} (h : meths w v l f) (n : Nat) : meths (w.drewN n) v l f := h.frame fun _ _ => rfl
set_option maxRecDepth 100000 in
set_option maxHeartbeats 800000 in
theorem indexFuncMethod_any (K : Nat) (hK : Plain Tryz.prog K) (caps : Array Value) (A : MethD → Value → Array Value) (hA : ∀ (x : MethD) (vinputs : Value) , #[.agg #[.int .i64 x.rel, vinputs, .int .i64 x.limit, .int .i64 x.cost, .int .i64 x.quota]] ++ caps = A x vinputs) (p : MethD → Bool) (v : Value) (l : List MethD) (f : List Nat) (w : World) (h : meths w v l f)
    (hcall : ∀ (i : Nat) (hi : i < l.length) (w' : World) (vinputs : Value) (finputs : List Nat) , Below w.heap.size w w' → ints w' vinputs l[i].inputs finputs → Calls Tryz.prog K (A l[i] vinputs) w' fun e w'' => e = .returned (.bool (p l[i])) ∧ Below w'.heap.size w' w'') :
    Calls Tryz.prog 70 #[v, .func (.func K) #[] caps] w fun e w' => e = .returned (.int .i64 (idxI p l)) ∧ Below w.heap.size w w' := by
  obtain ⟨a, cap, rfl⟩ := slR.form h
  have hla := slR.le_max h
  have HC := Lib.hid hcall
  have HA := Lib.hid hA
  clear hcall hA
  unfold Plain at hK
  go_enter Tryz.func70, Tryz.ntmps70
  go_wp2
  go_loopw [8] (fun i wr => ∃ k : Nat, i = .int .i64 k ∧ k ≤ l.length ∧ Hid (∀ j (hj : j < l.length), j < k → p l[j] = false) ∧ Below w.heap.size w wr) (fun i _ => l.length - (intOf i).toNat)
  case atStart => exact ⟨0, rfl, Nat.zero_le _, Lib.hid (fun j hj h0 => by omega), Below.refl _ _⟩
  case round =>
    obtain ⟨k, rfl, hk, HN, hbel⟩ := hrel
    by_cases hlt : k < l.length
    · obtain ⟨g, c, fi, rfl, ⟨vinputs, rfl, irel, ilimit, icost, iquota, hinputs⟩, _, hc, _, _, _⟩ := slR.at (h.below' hbel) k hlt
      have hc0 : wr.cell? ⟨g, k * 5, none⟩ = _ := hc 0 _ rfl
      have hc1 : wr.cell? ⟨g, k * 5 + 1, none⟩ = _ := hc 1 _ rfl
      have hc2 : wr.cell? ⟨g, k * 5 + 2, none⟩ = _ := hc 2 _ rfl
      have hc3 : wr.cell? ⟨g, k * 5 + 3, none⟩ = _ := hc 3 _ rfl
      have hc4 : wr.cell? ⟨g, k * 5 + 4, none⟩ = _ := hc 4 _ rfl
      clear hc
      go_wp2_with fail
      have hAk := HA.out l[k] vinputs
      rw [hAk]
      clear hAk
      refine (HC.out k hlt _ _ _ hbel hinputs).mono ?_
      rintro e w1 ⟨rfl, hb1⟩
      have hb2 := hbel.trans (hb1.mono hbel.size)
      cases hp : p l[k] with
      | true =>
        have Hf := Lib.hid (idxI_at p l k hlt hp HN.out)
        clear hp
        go_wp2
        go_ret
        exact ⟨ret_int (by rw [Hf.out]), hb2⟩
      | false =>
        have HN2 := Lib.hid (show ∀ j (hj : j < l.length), j < k + 1 → p l[j] = false from fun j hj h1 => by
          by_cases e : j = k
          · subst e; exact hp
          · exact HN.out j hj (by omega))
        clear hp
        go_wp2
        go_roundw
        case rel => exact ⟨k + 1, by go_num, by omega, HN2, hb2⟩
        case measure => simp [intOf]; omega
    · have hkl : k = l.length := by omega
      have Hf := Lib.hid (idxI_none p l (fun j hj => HN.out j hj (by omega)))
      go_wp2
      go_ret
      exact ⟨ret_int (by rw [Hf.out]), hbel⟩
theorem containsFuncMethod_any (K : Nat) (hK : Plain Tryz.prog K) (caps : Array Value) (A : MethD → Value → Array Value) (hA : ∀ (x : MethD) (vinputs : Value) , #[.agg #[.int .i64 x.rel, vinputs, .int .i64 x.limit, .int .i64 x.cost, .int .i64 x.quota]] ++ caps = A x vinputs) (p : MethD → Bool) (v : Value) (l : List MethD) (f : List Nat) (w : World) (h : meths w v l f)
    (hcall : ∀ (i : Nat) (hi : i < l.length) (w' : World) (vinputs : Value) (finputs : List Nat) , Below w.heap.size w w' → ints w' vinputs l[i].inputs finputs → Calls Tryz.prog K (A l[i] vinputs) w' fun e w'' => e = .returned (.bool (p l[i])) ∧ Below w'.heap.size w' w'') :
    Calls Tryz.prog 55 #[v, .func (.func K) #[] caps] w fun e w' => e = .returned (.bool (l.any p)) ∧ Below w.heap.size w w' := by
  obtain ⟨a, cap, rfl⟩ := slR.form h
  have HC := Lib.hid hcall
  have HA := Lib.hid hA
  have Ha := Lib.hid (idxI_any p l)
  clear hcall hA
  go_enter Tryz.func55, Tryz.ntmps55
  go_wp2_with fail
  refine (indexFuncMethod_any K hK caps A HA.out p _ l f _ h HC.out).mono ?_
  rintro e w1 ⟨rfl, hb1⟩
  go_wp2
  go_ret
  exact ⟨ret_bool (by rw [← Ha.out]), hb1⟩
theorem steps.al {w : World} {v : Value} {l : List StepD} {f : List Nat} (h : steps w v l f) (o : Obj) : steps (w.alloc o) v l f := h.below' (ba (Below.refl _ _))
theorem steps.dn {w : World} {v : Value} {l : List StepD} {f : List Nat} (h : steps w v l f) (n : Nat) : steps (w.drewN n) v l f := h.frame fun _ _ => rfl
theorem intss.al {w : World} {v : Value} {l : List (List Int)} {f : List Nat} (h : intss w v l f) (o : Obj) : intss (w.alloc o) v l f := h.below' (ba (Below.refl _ _))
theorem intss.dn {w : World} {v : Value} {l : List (List Int)} {f : List Nat} (h : intss w v l f) (n : Nat) : intss (w.drewN n) v l f := h.frame fun _ _ => rfl
end Go.Proofs.YtpdmdfkcaabnaaaGreat
