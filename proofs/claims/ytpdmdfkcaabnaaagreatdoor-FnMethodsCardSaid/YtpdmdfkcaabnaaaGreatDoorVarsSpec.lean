/- l3Put, VarsOf and ConstantsOf of the reference. Condition: not more than 2^20 numbers. -/
import Derived.Test.YtpdmdfkcaabnaaaGreatDoorMB
import Derived.Test.YtpdmdfkcaabnaaaGreatDoorSorted
import Derived.Test.YtpdmdfkcaabnaaaGreatDoorCompare
import Derived.Test.YtpdmdfkcaabnaaaGreatDoorHQuery
import Derived.Test.YtpdmdfkcaabnaaaGreatDoorIdxS
namespace Go.Proofs.YtpdmdfkcaabnaaaGreatDoor
open Go.RowKit
set_option linter.unusedVariables false
set_option linter.unusedSimpArgs false
set_option maxRecDepth 100000 in
set_option maxHeartbeats 3200000 in
theorem l3PutF_any (v : Value) (l : List Int) (f : List Nat) (x : Int) (w : World) (h : ints w v l f) (hx : I64 x) (hn : l.length ≤ 2097152) :
    Calls Tryz.prog 128 #[v, .int .i64 x] w fun e w' => ∃ v' f', e = .returned v' ∧ (ints w' v' (putL l x) f' ∧ ∀ g ∈ f', g ∈ f ∨ w.heap.size ≤ g) ∧ Below w.heap.size w w' := by
  obtain ⟨a, cap, rfl⟩ := slR.form h
  have hI : ∀ i (hi : i < l.length), I64 l[i] := by
    obtain ⟨o, _, _, hw⟩ := row_of_ints h
    exact fun i hi => hw _ (List.getElem_mem hi)
  generalize hcb : memB l x = r
  have Hcb := Lib.hid hcb
  have hcq := fun W hW => (l2Has_any (.slice a l.length cap) l f x W hW).mono fun _ _ h => (⟨h.1.trans (by rw [Hcb.out]), h.2⟩ : _ = Ending.returned (.bool r) ∧ _)
  clear hcb
  cases r with
  | true =>
    have Hf := Lib.hid (show putL l x = l by unfold putL; exact if_pos Hcb.out)
    go_enter Tryz.func128, Tryz.ntmps128
    go_wp2_with (go_at_call 119; refine (hcq _ h).mono ?_; rintro e w' ⟨rfl, rfl⟩)
    go_ret
    exact ⟨_, f, rfl, ⟨by rw [Hf.out]; exact h, fun g hg => .inl hg⟩, Below.refl _ _⟩
  | false =>
    have Hf := Lib.hid (show putL l x = insF (fun y => decide (x < y)) x l by unfold putL; exact if_neg (by have := Hcb.out; unfold memB at this; simp only [this]; simp))
    have hlen := insF_length (fun y => decide (x < y)) x l
    go_enter Tryz.func128, Tryz.ntmps128
    go_wp2_with (go_at_call 119; refine (hcq _ h).mono ?_; rintro e w' ⟨rfl, rfl⟩)
    go_loopw [5, 6, 7] (fun u p i wr => ∃ (k : Nat) (pl : Bool) (lo : List Int) (fo : List Nat), i = .int .i64 k ∧ k ≤ l.length ∧ p = .bool pl ∧ grR 3 1 intR w.heap.size wr u lo fo ∧
      Hid (insF (fun y => decide (x < y)) x l = lo ++ (if pl then l.drop k else insF (fun y => decide (x < y)) x (l.drop k))) ∧ Below w.heap.size w wr) (fun _ _ i _ => l.length - (intOf i).toNat)
    case atStart => exact ⟨0, false, [], _, rfl, Nat.zero_le _, rfl, grR.lit intR (Nat.le_refl _) (Nat.le_refl _), Lib.hid (by simp), ba (Below.refl _ _)⟩
    case round =>
      obtain ⟨k, pl, lo, fo, rfl, hk, rfl, hgr, HN, hbel⟩ := hrel
      have hlo : lo.length ≤ 2097153 := by
        have := congrArg List.length HN.out
        rw [hlen, List.length_append] at this
        omega
      obtain ⟨ao, co, rfl⟩ := slR.form hgr.sl
      by_cases hlt : k < l.length
      · obtain ⟨g, rfl, hc, _, _, _⟩ := (h.below' hbel).get k hlt
        have hkl : (k : Int) < (l.length : Int) := by omega
        have hIk := hI k hlt
        have Hd := Lib.hid (insF_drop (p := fun y => decide (x < y)) (x := x) hlt)
        cases pl with
        | true =>
          have HN2 := Lib.hid (show insF (fun y => decide (x < y)) x l = (lo ++ [l[k]]) ++ (if true then l.drop (k + 1) else insF (fun y => decide (x < y)) x (l.drop (k + 1))) by
            rw [HN.out]; simp only [if_true]; rw [List.drop_eq_getElem_cons hlt]; simp)
          go_wp2_with (at_builtin; refine wpList_gr slInt good_int rfl _ _ rfl hgr hbel rfl #[.int .i64 l[k]] l[k] [] ⟨rfl, rfl, hIk⟩ rfl (Fresh.nil _) (by simp) rfl (by simp [Value.oneCell']) (by omega) (by unfold maxLen; omega) ?_; intro g2 cap2 w1 f1 hgr1 hb1 hg1)
          go_roundw
          case rel => exact ⟨k + 1, true, lo ++ [l[k]], f1, by go_num, by omega, rfl, by simpa using hgr1, HN2, hb1⟩
          case measure => simp [intOf]; omega
        | false =>
          cases hp : decide (x < l[k]) with
          | true =>
            have hp' : x < l[k] := by simpa using hp
            have HN2 := Lib.hid (show insF (fun y => decide (x < y)) x l = ((lo ++ [x]) ++ [l[k]]) ++ (if true then l.drop (k + 1) else insF (fun y => decide (x < y)) x (l.drop (k + 1))) by
              rw [HN.out]; simp only [Bool.false_eq_true, if_false, if_true]; rw [Hd.out, hp]; simp)
            clear hp
            go_wp2_with (first
              | (at_builtin; refine wpList_gr slInt good_int rfl _ _ rfl hgr hbel rfl #[.int .i64 x] x [] ⟨rfl, rfl, hx⟩ rfl (Fresh.nil _) (by simp) rfl (by simp [Value.oneCell']) (by omega) (by unfold maxLen; omega) ?_; intro g2 cap2 w1 f1 hgr1 hb1 hg1; obtain ⟨g3, hg3, hc3, _, _, _⟩ := (h.below' hb1).get k hlt; cases hg3
                 have hl1 : (lo ++ [x]).length ≤ 2097154 := by simp; omega
                 have hgr1' : grR 3 1 intR w.heap.size w1 (.slice (some ⟨g2, 0, none⟩) (lo.length + 1) cap2) (lo ++ [x]) f1 := hgr1)
              | (at_builtin; refine wpList_gr slInt good_int rfl _ _ rfl hgr1' hb1 rfl #[.int .i64 l[k]] l[k] [] ⟨rfl, rfl, hIk⟩ rfl (Fresh.nil _) (by simp) rfl (by simp [Value.oneCell']) (by omega) (by unfold maxLen; omega) ?_; intro g4 cap4 w2 f2 hgr2 hb2 hg2))
            go_roundw
            case rel => exact ⟨k + 1, true, (lo ++ [x]) ++ [l[k]], f2, by go_num, by omega, rfl, by simpa using hgr2, HN2, hb2⟩
            case measure => simp [intOf]; omega
          | false =>
            have hp' : ¬ x < l[k] := by simpa using hp
            have HN2 := Lib.hid (show insF (fun y => decide (x < y)) x l = (lo ++ [l[k]]) ++ (if false then l.drop (k + 1) else insF (fun y => decide (x < y)) x (l.drop (k + 1))) by
              rw [HN.out]; simp only [Bool.false_eq_true, if_false]; rw [Hd.out, hp]; simp)
            clear hp
            go_wp2_with (at_builtin; refine wpList_gr slInt good_int rfl _ _ rfl hgr hbel rfl #[.int .i64 l[k]] l[k] [] ⟨rfl, rfl, hIk⟩ rfl (Fresh.nil _) (by simp) rfl (by simp [Value.oneCell']) (by omega) (by unfold maxLen; omega) ?_; intro g2 cap2 w1 f1 hgr1 hb1 hg1)
            go_roundw
            case rel => exact ⟨k + 1, false, lo ++ [l[k]], f1, by go_num, by omega, rfl, by simpa using hgr1, HN2, hb1⟩
            case measure => simp [intOf]; omega
      · have hkl : k = l.length := by omega
        cases pl with
        | true =>
          have Hg := Lib.hid (show putL l x = lo by rw [Hf.out, HN.out, hkl]; simp)
          have hfin : ints wr (.slice ao lo.length co) (putL l x) fo := by rw [Hg.out]; exact hgr.sl
          have hfr := fun g hg => (Or.inr (hgr.fresh.2 g hg) : g ∈ f ∨ w.heap.size ≤ g)
          go_wp2
          go_ret
          first | exact ⟨.slice ao lo.length co, fo, rfl, ⟨hfin, hfr⟩, hbel⟩ | exact ⟨.slice ao lo.length co, rfl, ⟨fo, hfin, hfr⟩, hbel⟩ | exact ⟨.slice ao lo.length co, rfl, fo, ⟨hfin, hfr⟩, hbel⟩
        | false =>
          have Hg := Lib.hid (show putL l x = lo ++ [x] by rw [Hf.out, HN.out, hkl]; simp [insF])
          go_wp2_with (at_builtin; refine wpList_gr slInt good_int rfl _ _ rfl hgr hbel rfl #[.int .i64 x] x [] ⟨rfl, rfl, hx⟩ rfl (Fresh.nil _) (by simp) rfl (by simp [Value.oneCell']) (by omega) (by unfold maxLen; omega) ?_; intro g2 cap2 w1 f1 hgr1 hb1 hg1)
          have hfin : ints w1 (.slice (some ⟨g2, 0, none⟩) (lo.length + 1) cap2) (putL l x) f1 := by rw [Hg.out]; exact hgr1.sl
          have hfr := fun g hg => (Or.inr (hgr1.fresh.2 g hg) : g ∈ f ∨ w.heap.size ≤ g)
          go_ret
          first | exact ⟨_, f1, rfl, ⟨hfin, hfr⟩, hb1⟩ | exact ⟨_, rfl, ⟨f1, hfin, hfr⟩, hb1⟩ | exact ⟨_, rfl, f1, ⟨hfin, hfr⟩, hb1⟩
theorem l3Put_any (v : Value) (l : List Int) (f : List Nat) (x : Int) (w : World) (h : ints w v l f) (hx : I64 x) (hn : l.length ≤ 2097152) :
    Calls Tryz.prog 128 #[v, .int .i64 x] w fun e w' => ∃ v' f', e = .returned v' ∧ ints w' v' (putL l x) f' ∧ Below w.heap.size w w' :=
  (l3PutF_any v l f x w h hx hn).mono fun _ _ ⟨v', f', he, hi, hb⟩ => ⟨v', f', he, hi.1, hb⟩
end Go.Proofs.YtpdmdfkcaabnaaaGreatDoor
