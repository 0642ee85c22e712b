/- l4Less and AddTuple of the reference. Condition: not more than 2^20 tuples, none longer than 2^20. -/
import Derived.Test.YtjjkfhjkfoikbaaCopy
import Derived.Test.YtjjkfhjkfoikbaaOrder
import Derived.Test.YtjjkfhjkfoikbaaSorted
import Derived.Test.YtjjkfhjkfoikbaaCompare
import Derived.Test.YtjjkfhjkfoikbaaIdxS
import Derived.Test.YtjjkfhjkfoikbaaHIntSS
namespace Go.Proofs.Ytjjkfhjkfoikbaa
open Go.RowKit
set_option linter.unusedVariables false
set_option linter.unusedSimpArgs false
set_option maxRecDepth 100000 in
set_option maxHeartbeats 1600000 in
theorem l4Less_any (va vb : Value) (s t : List Int) (fa fb : List Nat) (w : World) (ha : ints w va s fa) (hb : ints w vb t fb) :
    Calls Try.prog 83 #[va, vb] w fun e w' => e = .returned (.bool (decide (cmpL s t < 0))) ∧ Qt w w' := by
  obtain ⟨a, cap, rfl⟩ := slR.form ha
  obtain ⟨b, cap', rfl⟩ := slR.form hb
  have hla := slR.le_max ha
  have hlb := slR.le_max hb
  go_enter Try.func83, Try.ntmps83
  go_wp2
  go_loopw [5] (fun i wr => ∃ k n : Nat, i = .int .i64 k ∧ k ≤ s.length ∧ k ≤ t.length ∧ Hid (cmpL s t = cmpL (s.drop k) (t.drop k)) ∧ wr = w.drewN n) (fun i _ => s.length - (intOf i).toNat)
  case atStart => exact ⟨0, 0, rfl, Nat.zero_le _, Nat.zero_le _, Lib.hid (by simp), rfl⟩
  case round =>
    obtain ⟨k, n, rfl, hk, hk2, HN, rfl⟩ := hrel
    by_cases hlt : k < s.length
    · obtain ⟨g, rfl, hc, _, _, _⟩ := ha.get k hlt
      by_cases hlt2 : k < t.length
      · obtain ⟨g', rfl, hc', _, _, _⟩ := hb.get k hlt2
        have hk1 : (k : Int) < (s.length : Int) := by omega
        have hk3 : (k : Int) < (t.length : Int) := by omega
        rcases cmpI_vals s[k] t[k] with ⟨h, h2⟩ | ⟨h, h2⟩ | ⟨h, h2⟩
        · have Hg := Lib.hid (show decide (cmpL s t < 0) = true by rw [HN.out.trans (cmpL_lt hlt hlt2 h2)]; rfl)
          have hne : (s[k] != t[k]) = true := by simp; omega
          have hd : decide (s[k] < t[k]) = true := by simp [h2]
          clear h
          go_wp2
          go_quiet (fail)
          go_wp2
          go_quiet (fail)
          go_wp2
          go_ret
          exact ⟨ret_bool (by rw [Hg.out]), by first | exact Qt.dn _ _ | exact (Qt.dn _ _).trans (Qt.dn _ _) | exact ((Qt.dn _ _).trans (Qt.dn _ _)).trans (Qt.dn _ _)⟩
        · have Hg := Lib.hid (show decide (cmpL s t < 0) = false by rw [HN.out.trans (cmpL_gt hlt hlt2 h2)]; rfl)
          have hne : (s[k] != t[k]) = true := by simp; omega
          have hno : ¬ s[k] < t[k] := by omega
          have hd : decide (s[k] < t[k]) = false := by simp [hno]
          clear h
          go_wp2
          go_quiet (fail)
          go_wp2
          go_quiet (fail)
          go_wp2
          go_ret
          exact ⟨ret_bool (by rw [Hg.out]), by first | exact Qt.dn _ _ | exact (Qt.dn _ _).trans (Qt.dn _ _) | exact ((Qt.dn _ _).trans (Qt.dn _ _)).trans (Qt.dn _ _)⟩
        · have hno : ¬ s[k] < t[k] := by omega
          have hno2 : ¬ t[k] < s[k] := by omega
          have Hg := Lib.hid (HN.out.trans (cmpL_same hlt hlt2 hno hno2))
          have hne : (s[k] != t[k]) = false := by simp; omega
          clear h h2
          go_wp2
          go_quiet (fail)
          go_wp2
          go_roundw
          case rel => exact ⟨k + 1, _, by go_num, by omega, by omega, Hg, rfl⟩
          case measure => simp [intOf]; omega
      · have Hg := Lib.hid (show decide (cmpL s t < 0) = false by rw [HN.out.trans (cmpL_end2 (by omega) (by omega))]; rfl)
        have h3 : ¬ s.length < t.length := by omega
        go_wp2
        go_ret
        exact ⟨ret_bool (by rw [Hg.out] <;> simp <;> omega), by first | exact Qt.refl _ | exact Qt.dn _ _⟩
    · by_cases hlt2 : s.length < t.length
      · have Hg := Lib.hid (show decide (cmpL s t < 0) = true by rw [HN.out.trans (cmpL_end1 (by omega) hlt2)]; rfl)
        go_wp2
        go_ret
        exact ⟨ret_bool (by rw [Hg.out] <;> simp <;> omega), by first | exact Qt.refl _ | exact Qt.dn _ _⟩
      · have Hg := Lib.hid (show decide (cmpL s t < 0) = false by rw [HN.out.trans (cmpL_end3 (by omega) (by omega))]; rfl)
        go_wp2
        go_ret
        exact ⟨ret_bool (by rw [Hg.out] <;> simp <;> omega), by first | exact Qt.refl _ | exact Qt.dn _ _⟩
theorem any_take_succ {α : Type} (p : α → Bool) {l : List α} {k : Nat} (hk : k < l.length) : (l.take (k + 1)).any p = ((l.take k).any p || p l[k]) := by
  rw [List.take_succ_eq_append_getElem hk, List.any_append]; simp
theorem insF_drop' {α : Type} {p : α → Bool} {x : α} {l : List α} {k : Nat} (hk : k < l.length) : insF p x (l.drop k) = if p l[k] then x :: l[k] :: l.drop (k + 1) else l[k] :: insF p x (l.drop (k + 1)) := by
  rw [List.drop_eq_getElem_cons hk]; rfl
theorem addTuple_eq (l : List (List Int)) (x : List Int) : addTupleL l x = if l.any (fun y => decide (y = x)) then l else insF (fun y => decide (cmpL x y < 0)) x l := by
  unfold addTupleL addC
  have e : (l.any fun y => decide (cmpL y x = 0)) = l.any fun y => decide (y = x) := by
    congr 1; funext y; rw [Bool.eq_iff_iff]; simp [cmpL_zero]
  rw [e, insF_turned cmp_ints]
set_option maxRecDepth 100000 in
set_option maxHeartbeats 6400000 in
theorem specAddTuple_any (v : Value) (l : List (List Int)) (f : List Nat) (y : Value) (x : List Int) (fx : List Nat) (w : World) (h : intss w v l f) (hx : ints w y x fx) (hn : l.length ≤ 1048576) (hxn : x.length ≤ 1048576) (hln : ∀ z ∈ l, z.length ≤ 1048576) :
    Calls Try.prog 27 #[v, y] w fun e w' => ∃ v' f', e = .returned v' ∧ intss w' v' (addTupleL l x) f' ∧ Below w.heap.size w w' := by
  obtain ⟨a, cap, rfl⟩ := slR.form h
  obtain ⟨b, cap', rfl⟩ := slR.form hx
  have Hadd := Lib.hid (addTuple_eq l x)
  have Hln := Lib.hid hln
  clear hln
  go_enter Try.func27, Try.ntmps27
  go_wp2
  go_loopw [6, 7] (fun p i wr => ∃ k n : Nat, i = .int .i64 k ∧ k ≤ l.length ∧ p = .bool ((l.take k).any fun y => decide (y = x)) ∧ wr = (w.alloc (.cells #[] 22)).drewN n) (fun _ i _ => l.length - (intOf i).toNat)
  case atStart => exact ⟨0, 0, rfl, Nat.zero_le _, by simp, rfl⟩
  case round =>
    obtain ⟨k, n, rfl, hk, rfl, rfl⟩ := hrel
    by_cases hlt : k < l.length
    · obtain ⟨g, c, fi, rfl, ⟨vv, rfl, hv⟩, _, hc, _, _, _⟩ := slR.at ((intss.below' h (ba (Below.refl _ _) : Below w.heap.size w (w.alloc (.cells #[] 22)))).below' (bdn (Below.refl _ _) : Below _ _ ((w.alloc (.cells #[] 22)).drewN n))) k hlt
      obtain ⟨a2, c2, rfl⟩ := slR.form hv
      have hc0 : ((w.alloc (.cells #[] 22)).drewN n).cell? ⟨g, k, none⟩ = some (.slice a2 l[k].length c2) := by have := hc 0 _ rfl; simpa using this
      have hkl : (k : Int) < (l.length : Int) := by omega
      clear hc
      have HA := Lib.hid (any_take_succ (fun y => decide (y = x)) hlt)
      have hx1 := (hx.al (.cells #[] 22)).dn n
      generalize hb : (l.take k).any (fun y => decide (y = x)) = r
      rw [hb] at HA
      clear hb
      cases r with
      | true =>
        go_wp2
        go_roundw
        case rel => exact ⟨k + 1, n, by go_num, by omega, by rw [HA.out]; rfl, rfl⟩
        case measure => simp [intOf]; omega
      | false =>
        go_wp2_with (go_at_call 82; refine (l2Ints_any _ _ l[k] x fi fx _ hv hx1).mono ?_; rintro e w1 ⟨rfl, m, rfl⟩)
        go_roundw
        case rel => exact ⟨k + 1, n + m, by go_num, by omega, by rw [HA.out]; rfl, by first | rfl | exact World.drewN_drewN _ _ _⟩
        case measure => simp [intOf]; omega
    · have hkl : k = l.length := by omega
      subst hkl
      have HT := Lib.hid (show (l.take l.length).any (fun y => decide (y = x)) = l.any (fun y => decide (y = x)) by rw [List.take_length])
      rw [HT.out]
      generalize hb : l.any (fun y => decide (y = x)) = r
      have Hb := Lib.hid hb
      clear hb
      go_wp2
      go_loopw [5, 6, 8] (fun u p i wr => ∃ (k : Nat) (pl : Bool) (lo : List (List Int)) (fo : List Nat), i = .int .i64 k ∧ k ≤ l.length ∧ p = .bool pl ∧ grR 22 1 intsR w.heap.size wr u lo fo ∧ lo.length ≤ k + (if pl then 1 else 0) ∧
        Hid (addTupleL l x = lo ++ (if pl then l.drop k else insF (fun y => decide (cmpL x y < 0)) x (l.drop k))) ∧ Below w.heap.size w wr) (fun _ _ i _ => l.length - (intOf i).toNat)
      case atStart =>
        refine ⟨0, r, [], _, rfl, Nat.zero_le _, rfl, grR.below' good_ints (grR.lit intsR (Nat.le_refl _) (Nat.le_refl _)) (bdn (Below.refl _ _)), by simp, Lib.hid ?_, by repeat (first | exact Below.refl _ _ | refine bdn ?_ | refine ba ?_)⟩
        rw [Hadd.out, Hb.out]; cases r <;> simp
      case round =>
        obtain ⟨k, pl, lo, fo, rfl, hk, rfl, hgr, hlo, HN, hbel⟩ := hrel
        obtain ⟨ao, co, rfl⟩ := slR.form hgr.sl
        have hlo1 : lo.length ≤ k + 1 := by cases pl <;> simp at hlo <;> omega
        have Hlo := Lib.hid hlo
        clear hlo
        by_cases hlt : k < l.length
        · obtain ⟨g, c, fi, hgg, ⟨vv, rfl, hv⟩, _, hc, _, _, _⟩ := slR.at (intss.below' h hbel) k hlt
          obtain ⟨a2, c2, rfl⟩ := slR.form hv
          subst hgg
          have hc0 : wr.cell? ⟨g, k, none⟩ = some (.slice a2 l[k].length c2) := by have := hc 0 _ rfl; simpa using this
          have hc1 := fun o => cell_al hc0 o
          have hkl : (k : Int) < (l.length : Int) := by omega
          clear hc
          have Hd := Lib.hid (insF_drop' (p := fun y => decide (cmpL x y < 0)) (x := x) hlt)
          cases pl with
          | true =>
            have HN2 := Lib.hid (show addTupleL l x = (lo ++ [l[k]]) ++ (if true then l.drop (k + 1) else insF (fun y => decide (cmpL x y < 0)) x (l.drop (k + 1))) by
              rw [HN.out]; simp only [if_true]; rw [List.drop_eq_getElem_cons hlt]; simp)
            go_wp2_with (first
              | (at_builtin; refine wpList_copy_ints slInt rfl _ _ rfl rfl _ l[k] fi rfl hv (by have := Hln.out; first | exact hxn | exact this _ (List.getElem_mem hlt)) ?_; intro u1 w1 f1 hu1 hfr1 hb1; obtain ⟨p1, q1, rfl⟩ := slR.form hu1)
              | (at_builtin; have hd1 : ∀ g ∈ f1, g ∉ fo := fun g hg hm => (by have h1 := hfr1.2 g hg; have h2 := grR.lt good_ints hgr g hm; omega); refine wpList_gr slIntSS good_ints rfl _ _ rfl (grR.below' good_ints hgr hb1) (bt hbel hb1) rfl #[.slice p1 (l[k]).length q1] (l[k]) f1 ⟨_, rfl, hu1⟩ rfl (hfr1.mono (Below.size hbel)) hd1 rfl (by simp [Value.oneCell']) (by first | omega | (simp; omega)) (by unfold maxLen; first | omega | (simp; omega)) ?_; intro g2 cap2 w2 f2 hgr2 hb2 hg2))
            go_roundw
            case rel => exact ⟨k + 1, true, lo ++ [l[k]], f2, by go_num, by omega, rfl, by simpa using hgr2, by simp; omega, HN2, hb2⟩
            case measure => simp [intOf]; omega
          | false =>
            have hlo0 : lo.length ≤ k := by simpa using Hlo.out
            cases hp : decide (cmpL x l[k] < 0) with
            | false =>
              have HN2 := Lib.hid (show addTupleL l x = (lo ++ [l[k]]) ++ (if false then l.drop (k + 1) else insF (fun y => decide (cmpL x y < 0)) x (l.drop (k + 1))) by
                rw [HN.out]; simp only [Bool.false_eq_true, if_false]; rw [Hd.out, hp]; simp)
              have Hp := Lib.hid hp
              clear hp
              go_wp2_with (first
                | (go_at_call 83; refine (l4Less_any _ _ x l[k] fx fi _ (hx.below' hbel) hv).mono ?_; rintro e w0 ⟨rfl, m, rfl⟩; rw [Hp.out]; have hgrm := grR.below' good_ints hgr (bdn (Below.refl _ _) : Below wr.heap.size wr (wr.drewN m)); have hbm := bdn (n := m) hbel; have hvm := hv.dn m; have hxm := (hx.below' hbel).dn m; have hcm : (wr.drewN m).cell? ⟨g, k, none⟩ = some (.slice a2 l[k].length c2) := hc0; have hcm1 := fun o => cell_al hcm o)
                | (at_builtin; refine wpList_copy_ints slInt rfl _ _ rfl rfl _ l[k] fi rfl hvm (by have := Hln.out; first | exact hxn | exact this _ (List.getElem_mem hlt)) ?_; intro u1 w1 f1 hu1 hfr1 hb1; obtain ⟨p1, q1, rfl⟩ := slR.form hu1)
                | (at_builtin; have hd1 : ∀ g ∈ f1, g ∉ fo := fun g hg hm => (by have h1 := hfr1.2 g hg; have h2 := grR.lt good_ints hgrm g hm; omega); refine wpList_gr slIntSS good_ints rfl _ _ rfl (grR.below' good_ints hgrm hb1) (bt hbm hb1) rfl #[.slice p1 (l[k]).length q1] (l[k]) f1 ⟨_, rfl, hu1⟩ rfl (hfr1.mono (Below.size hbm)) hd1 rfl (by simp [Value.oneCell']) (by first | omega | (simp; omega)) (by unfold maxLen; first | omega | (simp; omega)) ?_; intro g2 cap2 w2 f2 hgr2 hb2 hg2))
              go_roundw
              case rel => exact ⟨k + 1, false, lo ++ [l[k]], f2, by go_num, by omega, rfl, by simpa using hgr2, by simp; omega, HN2, hb2⟩
              case measure => simp [intOf]; omega
            | true =>
              have HN2 := Lib.hid (show addTupleL l x = ((lo ++ [x]) ++ [l[k]]) ++ (if true then l.drop (k + 1) else insF (fun y => decide (cmpL x y < 0)) x (l.drop (k + 1))) by
                rw [HN.out]; simp only [Bool.false_eq_true, if_false, if_true]; rw [Hd.out, hp]; simp)
              have Hp := Lib.hid hp
              clear hp
              go_wp2_with (first
                | (go_at_call 83; refine (l4Less_any _ _ x l[k] fx fi _ (hx.below' hbel) hv).mono ?_; rintro e w0 ⟨rfl, m, rfl⟩; rw [Hp.out]; have hgrm := grR.below' good_ints hgr (bdn (Below.refl _ _) : Below wr.heap.size wr (wr.drewN m)); have hbm := bdn (n := m) hbel; have hvm := hv.dn m; have hxm := (hx.below' hbel).dn m; have hcm : (wr.drewN m).cell? ⟨g, k, none⟩ = some (.slice a2 l[k].length c2) := hc0; have hcm1 := fun o => cell_al hcm o)
                | (at_builtin; refine wpList_copy_ints slInt rfl _ _ rfl rfl _ x fx rfl hxm (by have := Hln.out; first | exact hxn | exact this _ (List.getElem_mem hlt)) ?_; intro u1 w1 f1 hu1 hfr1 hb1; obtain ⟨p1, q1, rfl⟩ := slR.form hu1)
                | (at_builtin; have hd1 : ∀ g ∈ f1, g ∉ fo := fun g hg hm => (by have h1 := hfr1.2 g hg; have h2 := grR.lt good_ints hgrm g hm; omega); refine wpList_gr slIntSS good_ints rfl _ _ rfl (grR.below' good_ints hgrm hb1) (bt hbm hb1) rfl #[.slice p1 (x).length q1] (x) f1 ⟨_, rfl, hu1⟩ rfl (hfr1.mono (Below.size hbm)) hd1 rfl (by simp [Value.oneCell']) (by first | omega | (simp; omega)) (by unfold maxLen; first | omega | (simp; omega)) ?_; intro g2 cap2 w2 f2 hgr2 hb2 hg2; obtain ⟨g9, c9, fi9, hg9, ⟨vv9, rfl, hv9⟩, _, hc9, _, _, _⟩ := slR.at (intss.below' h hb2) k hlt; obtain ⟨a9, c9', rfl⟩ := slR.form hv9; cases hg9; have hc10 : w2.cell? ⟨g, k, none⟩ = some (.slice a9 l[k].length c9') := (by have := hc9 0 _ rfl; simpa using this); clear hc9; have hc11 := fun o => cell_al hc10 o)
                | (at_builtin; refine wpList_copy_ints slInt rfl _ _ rfl rfl _ l[k] fi9 rfl hv9 (by have := Hln.out; first | exact hxn | exact this _ (List.getElem_mem hlt)) ?_; intro u3 w3 f3 hu3 hfr3 hb3; obtain ⟨p3, q3, rfl⟩ := slR.form hu3)
                | (at_builtin; have hd3 : ∀ g ∈ f3, g ∉ f2 := fun g hg hm => (by have h1 := hfr3.2 g hg; have h2 := grR.lt good_ints hgr2 g hm; omega); refine wpList_gr slIntSS good_ints rfl _ _ rfl (grR.below' good_ints hgr2 hb3) (bt hb2 hb3) rfl #[.slice p3 (l[k]).length q3] (l[k]) f3 ⟨_, rfl, hu3⟩ rfl (hfr3.mono (Below.size hb2)) hd3 rfl (by simp [Value.oneCell']) (by first | omega | (simp; omega)) (by unfold maxLen; first | omega | (simp; omega)) ?_; intro g4 cap4 w4 f4 hgr4 hb4 hg4))
              go_roundw
              case rel => exact ⟨k + 1, true, (lo ++ [x]) ++ [l[k]], f4, by go_num, by omega, rfl, by simpa using hgr4, by simp; omega, HN2, hb4⟩
              case measure => simp [intOf]; omega
        · have hkl : k = l.length := by omega
          cases pl with
          | true =>
            have Hg := Lib.hid (show addTupleL l x = lo by rw [HN.out, hkl]; simp)
            go_wp2
            go_ret
            first | exact ⟨_, _, rfl, by rw [Hg.out]; exact hgr.sl, hbel⟩ | exact ⟨_, rfl, ⟨_, by rw [Hg.out]; exact hgr.sl⟩, hbel⟩
          | false =>
            have Hg := Lib.hid (show addTupleL l x = lo ++ [x] by rw [HN.out, hkl]; simp [insF])
            have hxw := hx.below' hbel
            go_wp2_with (first
              | (at_builtin; refine wpList_copy_ints slInt rfl _ _ rfl rfl _ x fx rfl hxw (by have := Hln.out; first | exact hxn | exact this _ (List.getElem_mem hlt)) ?_; intro u1 w1 f1 hu1 hfr1 hb1; obtain ⟨p1, q1, rfl⟩ := slR.form hu1)
              | (at_builtin; have hd1 : ∀ g ∈ f1, g ∉ fo := fun g hg hm => (by have h1 := hfr1.2 g hg; have h2 := grR.lt good_ints hgr g hm; omega); refine wpList_gr slIntSS good_ints rfl _ _ rfl (grR.below' good_ints hgr hb1) (bt hbel hb1) rfl #[.slice p1 (x).length q1] (x) f1 ⟨_, rfl, hu1⟩ rfl (hfr1.mono (Below.size hbel)) hd1 rfl (by simp [Value.oneCell']) (by first | omega | (simp; omega)) (by unfold maxLen; first | omega | (simp; omega)) ?_; intro g2 cap2 w2 f2 hgr2 hb2 hg2))
            go_ret
            first | exact ⟨_, _, rfl, by rw [Hg.out]; exact (show slR _ _ _ _ _ _ _ from by simpa using hgr2.sl), hb2⟩ | exact ⟨_, rfl, ⟨_, by rw [Hg.out]; exact (show slR _ _ _ _ _ _ _ from by simpa using hgr2.sl)⟩, hb2⟩
end Go.Proofs.Ytjjkfhjkfoikbaa
