/- ValueOf, of the program and of the reference. No condition. -/
import Derived.Test.YtapapnaljjnhnaaCompare
import Derived.Test.YtapapnaljjnhnaaMatchL
import Derived.Test.YtapapnaljjnhnaaFacts0
namespace Go.Proofs.Ytapapnaljjnhnaa
open Go.RowKit
set_option linter.unusedVariables false
set_option linter.unusedSimpArgs false
theorem Row.first {w : World} {E : TypeId} {a : Option Addr} {cap N n : Nat} {xs : List Value} {o : Option Nat} (h : Row w E 1 (.slice a N cap) N xs o) (hn : n ≤ N) : Row w E 1 (.slice a n cap) n (xs.take n) o := by
  obtain ⟨h1, h2⟩ := h
  refine ⟨by simp [h1]; omega, ?_⟩
  rcases h2 with ⟨a', hv, hN, ho⟩ | ⟨g, cap', cur, hv, ho, hg, hle, hcm, hcs, ht⟩
  · cases hv
    obtain rfl : n = 0 := by omega
    exact .inl ⟨_, rfl, rfl, ho⟩
  · cases hv
    refine .inr ⟨g, cap, cur, rfl, ho, hg, by omega, hcm, hcs, ?_⟩
    rw [← ht, List.take_take]; congr 1; omega
theorem Row.capB {w : World} {E : TypeId} {a : Option Addr} {cap N sz : Nat} {xs : List Value} {o : Option Nat} (h : Row w E sz (.slice a N cap) N xs o) : N ≤ cap ∧ cap ≤ 9223372036854775807 := by
  rcases h.2 with ⟨a', hv, hN, ho⟩ | ⟨g, cap', cur, hv, ho, hg, hle, hcm, hcs, ht⟩
  · injection hv with _ h1 h2; exact ⟨by omega, by omega⟩
  · injection hv with _ h1 h2; exact ⟨by omega, by unfold maxLen at hcm; omega⟩
theorem ints.first {w : World} {a : Option Addr} {cap n : Nat} {l : List Int} {f : List Nat} (h : ints w (.slice a l.length cap) l f) (hn : n ≤ l.length) : ints w (.slice a n cap) (l.take n) f := by
  obtain ⟨o, hr, rfl, hw⟩ := row_of_ints h
  have h2 := hr.first hn
  have e : (icells l).take n = icells (l.take n) := by simp [icells, List.map_take]
  rw [e] at h2
  refine ints_of_row ?_ fun x hx => hw x (List.mem_of_mem_take hx)
  have : (l.take n).length = n := by simp; omega
  rw [this]; exact h2
set_option maxRecDepth 100000 in
set_option maxHeartbeats 800000 in
theorem specValueOf_any (b : BindD) (vv vx : Value) (fv fx : List Nat) (t : Int) (w : World) (hv : ints w vv b.vars fv) (hx : ints w vx b.vals fx) :
    Calls Try.prog 21 #[.agg #[vv, vx], .int .i64 t] w fun e w' => e = .returned (.int .i64 (valB b t)) ∧ Below w.heap.size w w' := by
  obtain ⟨s, l⟩ := b
  obtain ⟨a, cap, rfl⟩ := slR.form hv
  obtain ⟨b, cap', rfl⟩ := slR.form hx
  have hla := slR.le_max hv
  have hlb := slR.le_max hx
  have hv' := hv.al (.cells #[.slice a s.length cap, .slice b l.length cap'] 32)
  have hx' := hx.al (.cells #[.slice a s.length cap, .slice b l.length cap'] 32)
  cases hvar : isVarB t with
  | false =>
    have Hf := Lib.hid (show valB ⟨s, l⟩ t = t by unfold valB; rw [hvar]; rfl)
    go_enter Try.func21, Try.ntmps21
    go_wp2_with (go_at_call 22; refine (f22_any _ _).mono ?_; rintro e w' ⟨rfl, rfl⟩)
    go_ret
    exact ⟨ret_int (by rw [Hf.out]), ba (Below.refl _ _)⟩
  | true =>
    have Hf := Lib.hid (show valB ⟨s, l⟩ t = lookL s l t by unfold valB; rw [hvar]; rfl)
    go_enter Try.func21, Try.ntmps21
    go_wp2_with (go_at_call 22; refine (f22_any _ _).mono ?_; rintro e w' ⟨rfl, rfl⟩)
    go_loop [5] (fun i => ∃ k : Nat, i = .int .i64 k ∧ k ≤ s.length ∧ k ≤ l.length ∧ Hid (lookL s l t = lookL (s.drop k) (l.drop k) t)) (fun i => s.length - (intOf i).toNat)
    case atStart => exact ⟨0, rfl, Nat.zero_le _, Nat.zero_le _, Lib.hid (by simp)⟩
    case round =>
      obtain ⟨k, rfl, hk, hk2, HN⟩ := hrel
      by_cases h1 : k < s.length
      · by_cases h2 : k < l.length
        · obtain ⟨g, hga, hc, _, _, _⟩ := hv'.get k h1
          obtain ⟨g', hgb, hc', _, _, _⟩ := hx'.get k h2
          subst hga hgb
          by_cases he : s[k] = t
          · have Hg := Lib.hid (Hf.out.trans (HN.out.trans ((lookL_at h1 h2).trans (if_pos he))))
            have hd : (s[k] == t) = true := by simp [he]
            clear he
            go_wp2
            go_ret
            exact ⟨ret_int (by rw [Hg.out]), ba (Below.refl _ _)⟩
          · have HN2 := Lib.hid (HN.out.trans ((lookL_at h1 h2).trans (if_neg he)))
            have hd : (s[k] == t) = false := by simp [he]
            clear he
            go_wp2
            go_round
            case rel => exact ⟨k + 1, by go_num, by omega, by omega, HN2⟩
            case measure => simp [intOf]; omega
        · have Hg := Lib.hid (Hf.out.trans (HN.out.trans (lookL_end (.inr (by omega)))))
          go_wp2
          go_ret
          exact ⟨ret_int (by rw [Hg.out]), ba (Below.refl _ _)⟩
      · have Hg := Lib.hid (Hf.out.trans (HN.out.trans (lookL_end (.inl (by omega)))))
        go_wp2
        go_ret
        exact ⟨ret_int (by rw [Hg.out]), ba (Below.refl _ _)⟩
set_option maxRecDepth 100000 in
set_option maxHeartbeats 800000 in
theorem entry_any (b : BindD) (vv vx : Value) (fv fx : List Nat) (t : Int) (w : World) (hv : ints w vv b.vars fv) (hx : ints w vx b.vals fx) :
    Calls Try.prog 28 #[.agg #[vv, vx], .int .i64 t] w fun e w' => e = .returned (.int .i64 (entryL b.vars b.vals t)) ∧ Below w.heap.size w w' := by
  obtain ⟨s, l⟩ := b
  obtain ⟨a, cap, rfl⟩ := slR.form hv
  obtain ⟨b, cap', rfl⟩ := slR.form hx
  have hla := slR.le_max hv
  have hlb := slR.le_max hx
  have hcap : s.length ≤ cap ∧ cap ≤ 9223372036854775807 := by
    obtain ⟨o, hr, _, _⟩ := row_of_ints hv
    exact hr.capB
  obtain ⟨hcap1, hcap2⟩ := hcap
  have hv' := fun n hn => (hv.al (.cells #[.slice a s.length cap, .slice b l.length cap'] 32)).first (n := n) hn
  have He := Lib.hid (show entryL s l t = idxI (fun y => t == y) (s.take (min s.length l.length)) from rfl)
  by_cases hle : s.length ≤ l.length
  · have Hm := Lib.hid (show min s.length l.length = s.length by omega)
    go_enter Try.func28, Try.ntmps28
    go_wp2_with fail
    refine (indexIntQ_any _ t (s.take s.length) _ _ (hv' s.length (Nat.le_refl _))).mono ?_
    rintro e w1 ⟨rfl, rfl⟩
    go_wp2
    go_ret
    exact ⟨ret_int (by rw [He.out, Hm.out]; try rw [List.take_length]), ba (Below.refl _ _)⟩
  · have Hm := Lib.hid (show min s.length l.length = l.length by omega)
    go_enter Try.func28, Try.ntmps28
    go_wp2_with fail
    refine (indexIntQ_any _ t (s.take l.length) _ _ (hv' l.length (by omega))).mono ?_
    rintro e w1 ⟨rfl, rfl⟩
    go_wp2
    go_ret
    exact ⟨ret_int (by rw [He.out, Hm.out]; try rw [List.take_length]), ba (Below.refl _ _)⟩
set_option maxRecDepth 100000 in
set_option maxHeartbeats 800000 in
theorem implValueOf_any (b : BindD) (vv vx : Value) (fv fx : List Nat) (t : Int) (w : World) (hv : ints w vv b.vars fv) (hx : ints w vx b.vals fx) :
    Calls Try.prog 29 #[.agg #[vv, vx], .int .i64 t] w fun e w' => e = .returned (.int .i64 (valB b t)) ∧ Below w.heap.size w w' := by
  obtain ⟨s, l⟩ := b
  obtain ⟨a, cap, rfl⟩ := slR.form hv
  obtain ⟨b, cap', rfl⟩ := slR.form hx
  have hlb := slR.le_max hx
  cases hvar : isVarB t with
  | false =>
    have Hf := Lib.hid (show valB ⟨s, l⟩ t = t by unfold valB; rw [hvar]; rfl)
    go_enter Try.func29, Try.ntmps29
    go_wp2_with (go_at_call 27; refine (f27_any _ _).mono ?_; rintro e w' ⟨rfl, rfl⟩)
    go_ret
    exact ⟨ret_int (by rw [Hf.out]), ba (Below.refl _ _)⟩
  | true =>
    have Hf := Lib.hid (show valB ⟨s, l⟩ t = lookL s l t by unfold valB; rw [hvar]; rfl)
    have hsp := entryL_spec s l t
    have hlo := entryL_lo s l t
    go_enter Try.func29, Try.ntmps29
    go_wp2_with (go_at_call 27; refine (f27_any _ _).mono ?_; rintro e w' ⟨rfl, rfl⟩)
    refine (entry_any ⟨s, l⟩ _ _ fv fx t _ (hv.al _) (hx.al _)).mono ?_
    rintro e w1 ⟨rfl, hb1⟩
    have hbel := bt (ba (Below.refl w.heap.size w)) hb1
    have hc0 : w1.cell? ⟨w.heap.size, 1, none⟩ = some (.slice b l.length cap') := cell_below (cell_new _ _ _ 1 _ rfl) hb1
    have hx1 := hx.below' hbel
    by_cases h0 : entryL s l t < 0
    · have Hg := Lib.hid (Hf.out.trans (hsp.1 h0).2)
      clear hsp
      go_wp2
      go_ret
      exact ⟨ret_int (by rw [Hg.out]), hbel⟩
    · obtain ⟨_, hlt, hlook⟩ := hsp.2 (by omega)
      obtain ⟨k, hk⟩ := Int.eq_ofNat_of_zero_le (show 0 ≤ entryL s l t by omega)
      have hkl : k < l.length := by omega
      have Hg := Lib.hid (show valB ⟨s, l⟩ t = l[k] by rw [Hf.out, hlook]; simp only [hk]; rfl)
      obtain ⟨g, hga, hc, _, _, _⟩ := hx1.get k hkl
      subst hga
      clear hsp hlook hlt h0
      dsimp only
      rw [hk]
      clear hk hlo
      go_wp2
      go_ret
      exact ⟨ret_int (by rw [Hg.out]), hbel⟩
end Go.Proofs.Ytapapnaljjnhnaa
