/- VarsOf and ConstantsOf of the reference. Condition: not more than 2^20 terms. -/
import Derived.Test.YtpdmdfkcaabnaaaGreatDoorVarsSpec
import Derived.Test.YtpdmdfkcaabnaaaGreatDoorVarsL
import Derived.Test.YtpdmdfkcaabnaaaGreatDoorMB
namespace Go.Proofs.YtpdmdfkcaabnaaaGreatDoor
open Go.RowKit
set_option linter.unusedVariables false
set_option linter.unusedSimpArgs false
set_option maxRecDepth 100000 in
set_option maxHeartbeats 3200000 in
theorem specVarsOf_any (q : QueryD) (vh : Value) (fh : List Nat) (va : Value) (fa : List Nat) (w : World) (hh : ints w vh q.head fh) (ha : atoms w va q.atoms fa) (hn : (termsL q.atoms).length ≤ 1048576) :
    Calls Tryz.prog 45 #[.agg #[vh, va]] w fun e w' => ∃ v' f', e = .returned v' ∧ ints w' v' (setOf isVarB (termsL q.atoms)) f' ∧ Below w.heap.size w w' := by
  obtain ⟨head, l⟩ := q
  obtain ⟨a, cap, rfl⟩ := slR.form hh
  obtain ⟨b, cap', rfl⟩ := slR.form ha
  have hla := slR.le_max ha
  have ha0 := ha.below' (ba (Below.refl _ _) : Below w.heap.size w (w.alloc (.cells #[.slice a head.length cap, .slice b l.length cap'] 58)))
  have hb1 : (w.alloc (.cells #[.slice a head.length cap, .slice b l.length cap'] 58)).cell? ⟨w.heap.size, 1, none⟩ = some (.slice b l.length cap') := cell_new w _ _ 1 _ rfl
  have hsz : (w.alloc (.cells #[.slice a head.length cap, .slice b l.length cap'] 58)).heap.size = w.heap.size + 1 := by simp only [World.alloc, Array.size_push]
  have h0 := (grR.lit (w := (w.alloc (.cells #[.slice a head.length cap, .slice b l.length cap'] 58))) (E := 3) (sz := 1) intR (Nat.le_refl _) (Nat.le_refl _)).sl
  rw [hsz] at h0
  clear hsz
  have Hn := Lib.hid hn
  clear hn
  go_enter Tryz.func45, Tryz.ntmps45
  go_wp2
  go_loopw [3, 4] (fun u i wr => ∃ (k : Nat) (fo : List Nat), i = .int .i64 k ∧ k ≤ l.length ∧ ints wr u (setOf isVarB (termsL (l.take k))) fo ∧ Below (w.alloc (.cells #[.slice a head.length cap, .slice b l.length cap'] 58)).heap.size (w.alloc (.cells #[.slice a head.length cap, .slice b l.length cap'] 58)) wr) (fun _ i _ => l.length - (intOf i).toNat)
  case atStart => exact ⟨0, _, rfl, Nat.zero_le _, h0, ba (Below.refl _ _)⟩
  case round =>
    obtain ⟨k, fo, rfl, hk, hu, hbel⟩ := hrel
    have hbx := cell_below hb1 hbel
    by_cases hlt : k < l.length
    · obtain ⟨g, c, fi, hg, ⟨vv, rfl, vi, hv⟩, _, hc, _, _, _⟩ := slR.at (ha0.below' hbel) k hlt
      obtain ⟨a', c', rfl⟩ := slR.form hv
      have hc1 : wr.cell? ⟨g, k * 2 + 1, none⟩ = _ := hc 1 _ rfl
      have hlt' := hv.lt
      have hkl : (k : Int) < (l.length : Int) := by omega
      have hk0 : (0 : Int) ≤ (k : Int) := Int.natCast_nonneg _
      have hlb := slR.le_max hv
      clear hc hlt'
      subst hg
      go_wp2
      obtain ⟨wo, rfl⟩ : ∃ wo : World, wo = wr := ⟨_, rfl⟩
      go_loopw [3, 5] (fun u i wr => ∃ (j : Nat) (fo : List Nat), i = .int .i64 j ∧ j ≤ l[k].terms.length ∧ ints wr u (setOf isVarB (metL l k j l[k].terms)) fo ∧ Below wo.heap.size wo wr) (fun _ i _ => l[k].terms.length - (intOf i).toNat)
      case atStart => exact ⟨0, _, rfl, Nat.zero_le _, by rw [met_zero]; exact hu, Below.refl _ _⟩
      case round =>
        obtain ⟨j, fo2, rfl, hj, hu2, hbel2⟩ := hrel
        have hby := cell_below hbx hbel2
        have hcy := cell_below hc1 hbel2
        have hbw := bt hbel hbel2
        by_cases hlt2 : j < l[k].terms.length
        · obtain ⟨g2, rfl, hc2, _, hI, _⟩ := (hv.below' hbel2).get j hlt2
          have hjl : (j : Int) < (l[k].terms.length : Int) := by omega
          cases hp : isVarB l[k].terms[j] with
          | true =>
            have hq := hp
            have HS := Lib.hid (show setOf isVarB (metL l k (j + 1) l[k].terms) = putL (setOf isVarB (metL l k j l[k].terms)) l[k].terms[j] by rw [met_succ hlt2, setOf_yes hp])
            have hlen : (setOf isVarB (metL l k j l[k].terms)).length ≤ 2097152 := by
              have h1 := setOf_length isVarB (metL l k j l[k].terms)
              have h2 := met_length hlt j
              have h3 := Hn.out
              exact Nat.le_trans (Nat.le_trans h1 (Nat.le_trans h2 h3)) (by omega)
            go_wp2_with (go_at_call 127; refine (f127_any _ _).mono ?_; rintro e w' ⟨rfl, rfl⟩)
            refine (l3Put_any _ _ fo2 _ _ hu2 hI hlen).mono ?_
            rintro e w1 ⟨v1, f1, rfl, hu3, hb3⟩
            rw [← HS.out] at hu3
            have hb4 := bt hbel2 hb3
            go_wp2
            go_roundw
            case rel => exact ⟨j + 1, f1, by go_num, by omega, hu3, hb4⟩
            case measure => simp [intOf]; omega
          | false =>
            have hq := hp
            have HS := Lib.hid (show setOf isVarB (metL l k (j + 1) l[k].terms) = setOf isVarB (metL l k j l[k].terms) by rw [met_succ hlt2, setOf_no hp])
            go_wp2_with (go_at_call 127; refine (f127_any _ _).mono ?_; rintro e w' ⟨rfl, rfl⟩)
            go_roundw
            case rel => exact ⟨j + 1, fo2, by go_num, by omega, by rw [HS.out]; exact hu2, hbel2⟩
            case measure => simp [intOf]; omega
        · have hjl : j = l[k].terms.length := by omega
          have HS := Lib.hid (met_end hlt hjl)
          clear hjl
          go_wp2
          go_roundw
          case rel => exact ⟨k + 1, fo2, by go_num, by omega, by rw [← HS.out]; exact hu2, hbw⟩
          case measure => simp [intOf]; omega
    · have hkl : k = l.length := by omega
      have HS := Lib.hid (termsL_all hkl)
      clear hkl
      rw [HS.out] at hu
      have hbw := bt (ba (Below.refl w.heap.size w)) hbel
      go_wp2
      go_ret
      exact ⟨_, _, rfl, hu, hbw⟩
set_option maxRecDepth 100000 in
set_option maxHeartbeats 3200000 in
theorem specConstantsOf_any (q : QueryD) (vh : Value) (fh : List Nat) (va : Value) (fa : List Nat) (w : World) (hh : ints w vh q.head fh) (ha : atoms w va q.atoms fa) (hn : (termsL q.atoms).length ≤ 1048576) :
    Calls Tryz.prog 46 #[.agg #[vh, va]] w fun e w' => ∃ v' f', e = .returned v' ∧ ints w' v' (setOf isVal (termsL q.atoms)) f' ∧ Below w.heap.size w w' := by
  obtain ⟨head, l⟩ := q
  obtain ⟨a, cap, rfl⟩ := slR.form hh
  obtain ⟨b, cap', rfl⟩ := slR.form ha
  have hla := slR.le_max ha
  have ha0 := ha.below' (ba (Below.refl _ _) : Below w.heap.size w (w.alloc (.cells #[.slice a head.length cap, .slice b l.length cap'] 58)))
  have hb1 : (w.alloc (.cells #[.slice a head.length cap, .slice b l.length cap'] 58)).cell? ⟨w.heap.size, 1, none⟩ = some (.slice b l.length cap') := cell_new w _ _ 1 _ rfl
  have hsz : (w.alloc (.cells #[.slice a head.length cap, .slice b l.length cap'] 58)).heap.size = w.heap.size + 1 := by simp only [World.alloc, Array.size_push]
  have h0 := (grR.lit (w := (w.alloc (.cells #[.slice a head.length cap, .slice b l.length cap'] 58))) (E := 3) (sz := 1) intR (Nat.le_refl _) (Nat.le_refl _)).sl
  rw [hsz] at h0
  clear hsz
  have Hn := Lib.hid hn
  clear hn
  go_enter Tryz.func46, Tryz.ntmps46
  go_wp2
  go_loopw [3, 4] (fun u i wr => ∃ (k : Nat) (fo : List Nat), i = .int .i64 k ∧ k ≤ l.length ∧ ints wr u (setOf isVal (termsL (l.take k))) fo ∧ Below (w.alloc (.cells #[.slice a head.length cap, .slice b l.length cap'] 58)).heap.size (w.alloc (.cells #[.slice a head.length cap, .slice b l.length cap'] 58)) wr) (fun _ i _ => l.length - (intOf i).toNat)
  case atStart => exact ⟨0, _, rfl, Nat.zero_le _, h0, ba (Below.refl _ _)⟩
  case round =>
    obtain ⟨k, fo, rfl, hk, hu, hbel⟩ := hrel
    have hbx := cell_below hb1 hbel
    by_cases hlt : k < l.length
    · obtain ⟨g, c, fi, hg, ⟨vv, rfl, vi, hv⟩, _, hc, _, _, _⟩ := slR.at (ha0.below' hbel) k hlt
      obtain ⟨a', c', rfl⟩ := slR.form hv
      have hc1 : wr.cell? ⟨g, k * 2 + 1, none⟩ = _ := hc 1 _ rfl
      have hlt' := hv.lt
      have hkl : (k : Int) < (l.length : Int) := by omega
      have hk0 : (0 : Int) ≤ (k : Int) := Int.natCast_nonneg _
      have hlb := slR.le_max hv
      clear hc hlt'
      subst hg
      go_wp2
      obtain ⟨wo, rfl⟩ : ∃ wo : World, wo = wr := ⟨_, rfl⟩
      go_loopw [3, 5] (fun u i wr => ∃ (j : Nat) (fo : List Nat), i = .int .i64 j ∧ j ≤ l[k].terms.length ∧ ints wr u (setOf isVal (metL l k j l[k].terms)) fo ∧ Below wo.heap.size wo wr) (fun _ i _ => l[k].terms.length - (intOf i).toNat)
      case atStart => exact ⟨0, _, rfl, Nat.zero_le _, by rw [met_zero]; exact hu, Below.refl _ _⟩
      case round =>
        obtain ⟨j, fo2, rfl, hj, hu2, hbel2⟩ := hrel
        have hby := cell_below hbx hbel2
        have hcy := cell_below hc1 hbel2
        have hbw := bt hbel hbel2
        by_cases hlt2 : j < l[k].terms.length
        · obtain ⟨g2, rfl, hc2, _, hI, _⟩ := (hv.below' hbel2).get j hlt2
          have hjl : (j : Int) < (l[k].terms.length : Int) := by omega
          cases hp : isVal l[k].terms[j] with
          | true =>
            have hq : inR l[k].terms[j] 0 9 = true := hp
            have HS := Lib.hid (show setOf isVal (metL l k (j + 1) l[k].terms) = putL (setOf isVal (metL l k j l[k].terms)) l[k].terms[j] by rw [met_succ hlt2, setOf_yes hp])
            have hlen : (setOf isVal (metL l k j l[k].terms)).length ≤ 2097152 := by
              have h1 := setOf_length isVal (metL l k j l[k].terms)
              have h2 := met_length hlt j
              have h3 := Hn.out
              exact Nat.le_trans (Nat.le_trans h1 (Nat.le_trans h2 h3)) (by omega)
            go_wp2_with (go_at_call 86; refine (f86_any _ _ _ _).mono ?_; rintro e w' ⟨rfl, rfl⟩)
            refine (l3Put_any _ _ fo2 _ _ hu2 hI hlen).mono ?_
            rintro e w1 ⟨v1, f1, rfl, hu3, hb3⟩
            rw [← HS.out] at hu3
            have hb4 := bt hbel2 hb3
            go_wp2
            go_roundw
            case rel => exact ⟨j + 1, f1, by go_num, by omega, hu3, hb4⟩
            case measure => simp [intOf]; omega
          | false =>
            have hq : inR l[k].terms[j] 0 9 = false := hp
            have HS := Lib.hid (show setOf isVal (metL l k (j + 1) l[k].terms) = setOf isVal (metL l k j l[k].terms) by rw [met_succ hlt2, setOf_no hp])
            go_wp2_with (go_at_call 86; refine (f86_any _ _ _ _).mono ?_; rintro e w' ⟨rfl, rfl⟩)
            go_roundw
            case rel => exact ⟨j + 1, fo2, by go_num, by omega, by rw [HS.out]; exact hu2, hbel2⟩
            case measure => simp [intOf]; omega
        · have hjl : j = l[k].terms.length := by omega
          have HS := Lib.hid (met_end hlt hjl)
          clear hjl
          go_wp2
          go_roundw
          case rel => exact ⟨k + 1, fo2, by go_num, by omega, by rw [← HS.out]; exact hu2, hbw⟩
          case measure => simp [intOf]; omega
    · have hkl : k = l.length := by omega
      have HS := Lib.hid (termsL_all hkl)
      clear hkl
      rw [HS.out] at hu
      have hbw := bt (ba (Below.refl w.heap.size w)) hbel
      go_wp2
      go_ret
      exact ⟨_, _, rfl, hu, hbw⟩
end Go.Proofs.YtpdmdfkcaabnaaaGreatDoor
