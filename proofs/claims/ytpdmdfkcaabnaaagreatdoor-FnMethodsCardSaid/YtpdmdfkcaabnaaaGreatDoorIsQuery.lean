/- IsQuery of the program and of the reference, and hasHead. Condition: not more than 2^20 terms. -/
import Derived.Test.YtpdmdfkcaabnaaaGreatDoorVarsS
import Derived.Test.YtpdmdfkcaabnaaaGreatDoorVarsI
import Derived.Test.YtpdmdfkcaabnaaaGreatDoorMC
namespace Go.Proofs.YtpdmdfkcaabnaaaGreatDoor
open Go.RowKit
set_option linter.unusedVariables false
set_option linter.unusedSimpArgs false
/-- The variables of a query. -/
def qvars (q : QueryD) : List Int := setOf isVarB (termsL q.atoms)
def headB (q : QueryD) : Bool := decide ((q.head.length : Int) ≤ 3) && !(q.head.any fun t => !memB (qvars q) t)
def queryB (s : List Int) (q : QueryD) : Bool := schemaB s && inR (q.atoms.length : Int) 1 4 && !(q.atoms.any fun a => !atomB s a) && headB q
theorem queryB_atom {s : List Int} {q : QueryD} (h : (q.atoms.any fun a => !atomB s a) = true) : queryB s q = false := by unfold queryB; rw [h]; simp
theorem queryB_head {s : List Int} {q : QueryD} (h : (q.head.any fun t => !memB (qvars q) t) = true) : queryB s q = false := by unfold queryB headB; rw [h]; simp
theorem queryB_end {s : List Int} {q : QueryD} (h : (q.atoms.any fun a => !atomB s a) = false) (h2 : (q.head.any fun t => !memB (qvars q) t) = false) : queryB s q = (schemaB s && inR (q.atoms.length : Int) 1 4 && decide ((q.head.length : Int) ≤ 3)) := by
  unfold queryB headB; rw [h, h2]; simp
theorem retBy {P : Program} {f : FuncId} {args : Array Value} {w : World} {b c : Bool} {Q : World → Prop} (h : Calls P f args w fun e w' => e = .returned (.bool b) ∧ Q w') (hb : b = c) : Calls P f args w fun e w' => e = .returned (.bool c) ∧ Q w' := hb ▸ h
theorem hasHead1_any (x : Int) (v : Value) (l : List Int) (f : List Nat) (g : Nat) (w : World) (h : ints w v l f) (c0 : w.cell? ⟨g, 0, none⟩ = some v) :
    Calls Tryz.prog 174 #[.int .i64 x, .pointer (some ⟨g, 0, none⟩)] w fun e w' => e = .returned (.bool (!memB l x)) ∧ Below w.heap.size w w' := by
  obtain ⟨a, cap, rfl⟩ := slR.form h
  have hc : Calls Tryz.prog 175 #[.slice a l.length cap, .int .i64 x] w fun e w' => e = .returned (.bool (memB l x)) ∧ Below w.heap.size w w' := containsInt_any _ x l f w h
  go_enter Tryz.func174, Tryz.ntmps174
  go_wp2_with fail
  refine hc.mono ?_
  rintro e w1 ⟨rfl, hb1⟩
  go_wp2
  go_ret
  exact ⟨rfl, hb1⟩
set_option maxRecDepth 100000 in
set_option maxHeartbeats 1600000 in
theorem hasHead_any (q : QueryD) (vh : Value) (fh : List Nat) (va : Value) (fa : List Nat) (w : World) (hh : ints w vh q.head fh) (ha : atoms w va q.atoms fa) (hn : (termsL q.atoms).length ≤ 1048576) :
    Calls Tryz.prog 114 #[.agg #[vh, va]] w fun e w' => e = .returned (.bool (headB q)) ∧ Below w.heap.size w w' := by
  have Hn := Lib.hid hn
  clear hn
  obtain ⟨head, l⟩ := q
  obtain ⟨b, cap', rfl⟩ := slR.form hh
  obtain ⟨d, cap2, rfl⟩ := slR.form ha
  have hP := plain_of Tryz.func174 (by kernel_rfl) (by kernel_rfl)
  have hb0 : Below w.heap.size w (w.alloc (.cells #[.slice b head.length cap', .slice d l.length cap2] 58)) := ba (Below.refl _ _)
  have hh0 := hh.below' hb0
  have ha0 := ha.below' hb0
  have c0 : (w.alloc (.cells #[.slice b head.length cap', .slice d l.length cap2] 58)).cell? ⟨w.heap.size, 0, none⟩ = some (.slice b head.length cap') := cell_new w _ _ 0 _ rfl
  have c1 : (w.alloc (.cells #[.slice b head.length cap', .slice d l.length cap2] 58)).cell? ⟨w.heap.size, 1, none⟩ = some (.slice d l.length cap2) := cell_new w _ _ 1 _ rfl
  by_cases hlen : (head.length : Int) ≤ 3
  · have Hf := Lib.hid (show headB ⟨head, l⟩ = !(head.any fun t => !memB (qvars ⟨head, l⟩) t) by unfold headB; rw [decide_eq_true hlen]; rfl)
    go_enter Tryz.func114, Tryz.ntmps114
    go_wp2_with fail
    refine (implVarsOf_any ⟨head, l⟩ _ fh _ fa _ hh0 ha0 Hn.out).mono ?_
    rintro e w1 ⟨v1, f1, rfl, h1, h2, h3⟩
    obtain ⟨p, cp, rfl⟩ := slR.form h1
    have c0' := cell_al (cell_below c0 h3) (.cells #[.slice p (setOf isVarB (termsL l)).length cp] 24)
    have h1' := h1.al (.cells #[.slice p (setOf isVarB (termsL l)).length cp] 24)
    have hh1 := (hh0.below' h3).al (.cells #[.slice p (setOf isVarB (termsL l)).length cp] 24)
    have hb1 := ba (o := .cells #[.slice p (setOf isVarB (termsL l)).length cp] 24) (bt hb0 h3)
    have c2 : (w1.alloc (.cells #[.slice p (setOf isVarB (termsL l)).length cp] 24)).cell? ⟨w1.heap.size, 0, none⟩ = some (.slice p (setOf isVarB (termsL l)).length cp) := cell_new w1 _ _ 0 _ rfl
    clear h2
    go_wp2_with fail
    refine (containsFuncInt_any _ hP #[.pointer (some ⟨w1.heap.size, 0, none⟩)] (fun x => #[.int .i64 x, .pointer (some ⟨w1.heap.size, 0, none⟩)]) (fun _ => rfl) (fun t => !memB (qvars ⟨head, l⟩) t) _ head fh _ hh1 (fun i hi w' hb => hasHead1_any _ _ _ f1 _ _ (h1'.below' hb) (cell_below c2 hb))).mono ?_
    rintro e w2 ⟨rfl, hb2⟩
    have hb3 := bt hb1 hb2
    go_wp2
    go_ret
    exact ⟨ret_bool (by rw [Hf.out]), hb3⟩
  · have Hf := Lib.hid (show headB ⟨head, l⟩ = false by unfold headB; rw [decide_eq_false hlen]; rfl)
    go_enter Tryz.func114, Tryz.ntmps114
    go_wp2_with fail
    refine (implVarsOf_any ⟨head, l⟩ _ fh _ fa _ hh0 ha0 Hn.out).mono ?_
    rintro e w1 ⟨v1, f1, rfl, h1, h2, h3⟩
    obtain ⟨p, cp, rfl⟩ := slR.form h1
    have c0' := cell_al (cell_below c0 h3) (.cells #[.slice p (setOf isVarB (termsL l)).length cp] 24)
    have hb1 := ba (o := .cells #[.slice p (setOf isVarB (termsL l)).length cp] 24) (bt hb0 h3)
    clear h2
    go_wp2
    go_ret
    exact ⟨ret_bool (by rw [Hf.out]), hb1⟩
theorem isQuery1_any (s : List Int) (x : AtomD) (sv vt : Value) (fs ft : List Nat) (g : Nat) (w : World) (hs : ints w sv s fs) (ht : ints w vt x.terms ft) (c0 : w.cell? ⟨g, 0, none⟩ = some sv) :
    Calls Tryz.prog 124 #[.agg #[.int .i64 x.rel, vt], .pointer (some ⟨g, 0, none⟩)] w fun e w' => e = .returned (.bool (!atomB s x)) ∧ Below w.heap.size w w' := by
  obtain ⟨a, cap, rfl⟩ := slR.form hs
  obtain ⟨p, cap2, rfl⟩ := slR.form ht
  have d0 := fun o => cell_al c0 o
  have hf := lt_of_cell c0
  go_enter Tryz.func124, Tryz.ntmps124
  go_wp2_with fail
  refine (implIsAtom_any _ s fs x _ ft _ (hs.al _) (ht.al _)).mono ?_
  rintro e w1 ⟨rfl, hb1⟩
  go_wp2
  go_ret
  exact ⟨rfl, bt (ba (Below.refl _ _)) hb1⟩
set_option maxRecDepth 100000 in
set_option maxHeartbeats 3200000 in
theorem implIsQuery_any (sv : Value) (s : List Int) (fs : List Nat) (q : QueryD) (vh : Value) (fh : List Nat) (va : Value) (fa : List Nat) (w : World) (hs : ints w sv s fs) (hh : ints w vh q.head fh) (ha : atoms w va q.atoms fa) (hn : (termsL q.atoms).length ≤ 1048576) :
    Calls Tryz.prog 41 #[sv, .agg #[vh, va]] w fun e w' => e = .returned (.bool (queryB s q)) ∧ Below w.heap.size w w' := by
  have Hn := Lib.hid hn
  clear hn
  obtain ⟨head, l⟩ := q
  obtain ⟨a, cap, rfl⟩ := slR.form hs
  obtain ⟨b, cap', rfl⟩ := slR.form hh
  obtain ⟨d, cap2, rfl⟩ := slR.form ha
  have hP := plain_of Tryz.func124 (by kernel_rfl) (by kernel_rfl)
  have hb0 : Below w.heap.size w ((w.alloc (.cells #[.slice a s.length cap] 24)).alloc (.cells #[.slice b head.length cap', .slice d l.length cap2] 58)) := ba (ba (Below.refl _ _))
  have hs0 := hs.below' hb0
  have hh0 := hh.below' hb0
  have ha0 := ha.below' hb0
  have s0 : ((w.alloc (.cells #[.slice a s.length cap] 24)).alloc (.cells #[.slice b head.length cap', .slice d l.length cap2] 58)).cell? ⟨w.heap.size, 0, none⟩ = some (.slice a s.length cap) := cell_al (cell_new w _ _ 0 _ rfl) _
  have c0 : ((w.alloc (.cells #[.slice a s.length cap] 24)).alloc (.cells #[.slice b head.length cap', .slice d l.length cap2] 58)).cell? ⟨w.heap.size + 1, 0, none⟩ = some (.slice b head.length cap') := cell_at _ _ (by simp) _ _ 0 _ rfl
  have c1 : ((w.alloc (.cells #[.slice a s.length cap] 24)).alloc (.cells #[.slice b head.length cap', .slice d l.length cap2] 58)).cell? ⟨w.heap.size + 1, 1, none⟩ = some (.slice d l.length cap2) := cell_at _ _ (by simp) _ _ 1 _ rfl
  have Hd := Lib.hid (show queryB s ⟨head, l⟩ = (schemaB s && inR (l.length : Int) 1 4 && !(l.any fun a => !atomB s a) && headB ⟨head, l⟩) from rfl)
  cases hsc : schemaB s with
  | false =>
    have Hf := Lib.hid (show queryB s ⟨head, l⟩ = false by rw [Hd.out, hsc]; rfl)
    have hq := retB (implIsSchema_any _ s fs _ hs0) hsc
    go_enter Tryz.func41, Tryz.ntmps41
    go_wp2_with (go_at_call 77; refine hq.mono ?_; rintro e w' ⟨rfl, rfl⟩)
    go_ret
    exact ⟨ret_bool (by rw [Hf.out]), hb0⟩
  | true =>
    have hq := retB (implIsSchema_any _ s fs _ hs0) hsc
    cases hin : inR (l.length : Int) 1 4 with
    | false =>
      have Hf := Lib.hid (show queryB s ⟨head, l⟩ = false by rw [Hd.out, hsc, hin]; rfl)
      go_enter Tryz.func41, Tryz.ntmps41
      go_wp2_with (first
        | (go_at_call 77; refine hq.mono ?_; rintro e w' ⟨rfl, rfl⟩)
        | (go_at_call 107; refine (retB (f107_any _ _ _ _) hin).mono ?_; rintro e w' ⟨rfl, rfl⟩))
      go_ret
      exact ⟨ret_bool (by rw [Hf.out]), hb0⟩
    | true =>
      have Hcl := containsFuncAtom_any _ hP #[.pointer (some ⟨w.heap.size, 0, none⟩)] (fun m vi => #[.agg #[.int .i64 m.rel, vi], .pointer (some ⟨w.heap.size, 0, none⟩)]) (fun _ _ => rfl) (fun m => !atomB s m) _ l fa _ ha0
        (fun i hi w' vi fi hb hvi => isQuery1_any s _ _ _ fs _ _ _ (hs0.below' hb) hvi (cell_below s0 hb))
      cases hany : l.any (fun m => !atomB s m) with
      | true =>
        have Hf := Lib.hid (queryB_atom (s := s) (q := ⟨head, l⟩) hany)
        rw [hany] at Hcl
        clear hany
        go_enter Tryz.func41, Tryz.ntmps41
        go_wp2_with (first
          | (go_at_call 77; refine hq.mono ?_; rintro e w' ⟨rfl, rfl⟩)
          | (go_at_call 107; refine (retB (f107_any _ _ _ _) hin).mono ?_; rintro e w' ⟨rfl, rfl⟩))
        refine Hcl.mono ?_
        rintro e w1 ⟨rfl, hb1⟩
        have hbf := bt hb0 hb1
        clear Hcl
        go_wp2
        go_ret
        exact ⟨ret_bool (by rw [Hf.out]), hbf⟩
      | false =>
        have Hf := Lib.hid (show queryB s ⟨head, l⟩ = headB ⟨head, l⟩ by rw [Hd.out, hsc, hin, hany]; rfl)
        rw [hany] at Hcl
        clear hany
        go_enter Tryz.func41, Tryz.ntmps41
        go_wp2_with (first
          | (go_at_call 77; refine hq.mono ?_; rintro e w' ⟨rfl, rfl⟩)
          | (go_at_call 107; refine (retB (f107_any _ _ _ _) hin).mono ?_; rintro e w' ⟨rfl, rfl⟩))
        refine Hcl.mono ?_
        rintro e w1 ⟨rfl, hb1⟩
        have hbf := bt hb0 hb1
        have d0 := cell_below c0 hb1
        have d1 := cell_below c1 hb1
        have hh1 := hh0.below' hb1
        have ha1 := ha0.below' hb1
        clear Hcl
        go_wp2_with fail
        refine (hasHead_any ⟨head, l⟩ _ fh _ fa _ hh1 ha1 Hn.out).mono ?_
        rintro e w2 ⟨rfl, hb2⟩
        have hbg := bt hbf hb2
        go_wp2
        go_ret
        exact ⟨ret_bool (by rw [Hf.out]), hbg⟩
set_option maxRecDepth 100000 in
set_option maxHeartbeats 3200000 in
theorem specIsQuery_any (sv : Value) (s : List Int) (fs : List Nat) (q : QueryD) (vh : Value) (fh : List Nat) (va : Value) (fa : List Nat) (w : World) (hs : ints w sv s fs) (hh : ints w vh q.head fh) (ha : atoms w va q.atoms fa) (hn : (termsL q.atoms).length ≤ 1048576) :
    Calls Tryz.prog 39 #[sv, .agg #[vh, va]] w fun e w' => e = .returned (.bool (queryB s q)) ∧ Below w.heap.size w w' := by
  have Hn := Lib.hid hn
  clear hn
  obtain ⟨head, l⟩ := q
  obtain ⟨a, cap, rfl⟩ := slR.form hs
  obtain ⟨b, cap', rfl⟩ := slR.form hh
  obtain ⟨d, cap2, rfl⟩ := slR.form ha
  have hla := slR.le_max ha
  have hlb := slR.le_max hh
  have hb0 : Below w.heap.size w (w.alloc (.cells #[.slice b head.length cap', .slice d l.length cap2] 58)) := ba (Below.refl _ _)
  have hs0 := hs.below' hb0
  have hh0 := hh.below' hb0
  have ha0 := ha.below' hb0
  have c0 : (w.alloc (.cells #[.slice b head.length cap', .slice d l.length cap2] 58)).cell? ⟨w.heap.size, 0, none⟩ = some (.slice b head.length cap') := cell_new w _ _ 0 _ rfl
  have c1 : (w.alloc (.cells #[.slice b head.length cap', .slice d l.length cap2] 58)).cell? ⟨w.heap.size, 1, none⟩ = some (.slice d l.length cap2) := cell_new w _ _ 1 _ rfl
  go_enter Tryz.func39, Tryz.ntmps39
  go_wp2
  go_loopw [5] (fun i wr => ∃ k : Nat, i = .int .i64 k ∧ k ≤ l.length ∧ Hid (∀ j (hj : j < l.length), j < k → (!atomB s l[j]) = false) ∧ Below (w.alloc (.cells #[.slice b head.length cap', .slice d l.length cap2] 58)).heap.size (w.alloc (.cells #[.slice b head.length cap', .slice d l.length cap2] 58)) wr) (fun i _ => l.length - (intOf i).toNat)
  case atStart => exact ⟨0, rfl, Nat.zero_le _, Lib.hid (fun j hj h0 => by omega), Below.refl _ _⟩
  case round =>
    obtain ⟨k, rfl, hk, HN, hbel⟩ := hrel
    have d0 := cell_below c0 hbel
    have d1 := cell_below c1 hbel
    have hbw := bt hb0 hbel
    by_cases hlt : k < l.length
    · obtain ⟨g, c, fi, hg, ⟨vv, rfl, vi, hv⟩, _, hc, _, _, _⟩ := slR.at (ha0.below' hbel) k hlt
      obtain ⟨a', c', rfl⟩ := slR.form hv
      have hc0 : wr.cell? ⟨g, k * 2, none⟩ = _ := hc 0 _ rfl
      have hc1 : wr.cell? ⟨g, k * 2 + 1, none⟩ = _ := hc 1 _ rfl
      have hkl : (k : Int) < (l.length : Int) := by omega
      clear hc
      subst hg
      cases hp : atomB s l[k] with
      | false =>
        have Hf := Lib.hid (queryB_atom (s := s) (q := ⟨head, l⟩) (any_true_of (p := fun a => !atomB s a) hlt (by simp [hp])))
        go_wp2_with fail
        refine (retBy (specIsAtom_any _ s fs l[k] _ fi _ (hs0.below' hbel) hv) hp).mono ?_
        rintro e w1 ⟨rfl, hb1⟩
        have hbf := bt hbw hb1
        go_wp2
        go_ret
        exact ⟨ret_bool (by rw [Hf.out]), hbf⟩
      | true =>
        have HN2 := Lib.hid (none_step (p := fun a => !atomB s a) HN.out hlt (by simp [hp]))
        go_wp2_with fail
        refine (retBy (specIsAtom_any _ s fs l[k] _ fi _ (hs0.below' hbel) hv) hp).mono ?_
        rintro e w1 ⟨rfl, hb1⟩
        have hbf := bt hbel hb1
        go_wp2
        go_roundw
        case rel => exact ⟨k + 1, by go_num, by omega, HN2, hbf⟩
        case measure => simp [intOf]; omega
    · have hkl : k = l.length := by omega
      have Hn1 := Lib.hid (any_false_of (p := fun a => !atomB s a) (l := l) (fun j hj => HN.out j hj (by omega)))
      clear hkl
      go_wp2_with fail
      refine (specVarsOf_any ⟨head, l⟩ _ fh _ fa _ (hh0.below' hbel) (ha0.below' hbel) Hn.out).mono ?_
      rintro e w1 ⟨v1, f1, rfl, h1, hb1⟩
      obtain ⟨p, cp, rfl⟩ := slR.form h1
      have e0 := cell_below d0 hb1
      have e1 := cell_below d1 hb1
      have hh1 := (hh0.below' hbel).below' hb1
      have hs1 := (hs0.below' hbel).below' hb1
      have hbf := bt hbw hb1
      clear d0 d1 c0 c1
      go_wp2
      go_loop [7] (fun i => ∃ k : Nat, i = .int .i64 k ∧ k ≤ head.length ∧ Hid (∀ j (hj : j < head.length), j < k → (!memB (qvars ⟨head, l⟩) head[j]) = false)) (fun i => head.length - (intOf i).toNat)
      case atStart => exact ⟨0, rfl, Nat.zero_le _, Lib.hid (fun j hj h0 => by omega)⟩
      case round =>
        obtain ⟨k2, rfl, hk2, HN⟩ := hrel
        by_cases hlt2 : k2 < head.length
        · obtain ⟨g2, rfl, hc2, _, hI, _⟩ := hh1.get k2 hlt2
          have hkl2 : (k2 : Int) < (head.length : Int) := by omega
          cases hp : memB (qvars ⟨head, l⟩) head[k2] with
          | false =>
            have Hf := Lib.hid (queryB_head (s := s) (q := ⟨head, l⟩) (any_true_of (p := fun t => !memB (qvars ⟨head, l⟩) t) hlt2 (by simp [hp])))
            have hq := retB (l2Has_any _ _ f1 head[k2] _ h1) hp
            go_wp2_with fail
            refine hq.mono ?_
            rintro e w2 ⟨rfl, rfl⟩
            go_wp2
            go_ret
            exact ⟨ret_bool (by rw [Hf.out]), hbf⟩
          | true =>
            have HN2 := Lib.hid (none_step (p := fun t => !memB (qvars ⟨head, l⟩) t) HN.out hlt2 (by simp [hp]))
            have hq := retB (l2Has_any _ _ f1 head[k2] _ h1) hp
            go_wp2_with fail
            refine hq.mono ?_
            rintro e w2 ⟨rfl, rfl⟩
            go_wp2
            go_round
            case rel => exact ⟨k2 + 1, by go_num, by omega, HN2⟩
            case measure => simp [intOf]; omega
        · have hkl2 : k2 = head.length := by omega
          have Hn2 := Lib.hid (queryB_end (s := s) (q := ⟨head, l⟩) Hn1.out (any_false_of (p := fun t => !memB (qvars ⟨head, l⟩) t) (l := head) (fun j hj => HN.out j hj (by omega))))
          clear hkl2
          cases hsc : schemaB s with
          | false =>
            have Hf := Lib.hid (show queryB s ⟨head, l⟩ = false by rw [Hn2.out, hsc]; rfl)
            have hq := retB (specIsSchema_any _ s fs _ hs1) hsc
            go_wp2_with (go_at_call 78; refine hq.mono ?_; rintro e w' ⟨rfl, rfl⟩)
            go_ret
            exact ⟨ret_bool (by rw [Hf.out]), hbf⟩
          | true =>
            have hq := retB (specIsSchema_any _ s fs _ hs1) hsc
            cases hin : inR (l.length : Int) 1 4 with
            | false =>
              have Hf := Lib.hid (show queryB s ⟨head, l⟩ = false by rw [Hn2.out, hsc]; simp [hin])
              go_wp2_with (first
                | (go_at_call 78; refine hq.mono ?_; rintro e w' ⟨rfl, rfl⟩)
                | (go_at_call 86; refine (retB (f86_any _ _ _ _) hin).mono ?_; rintro e w' ⟨rfl, rfl⟩))
              go_ret
              exact ⟨ret_bool (by rw [Hf.out]), hbf⟩
            | true =>
              have Hf := Lib.hid (show queryB s ⟨head, l⟩ = decide ((head.length : Int) ≤ 3) by rw [Hn2.out, hsc]; simp [hin])
              go_wp2_with (first
                | (go_at_call 78; refine hq.mono ?_; rintro e w' ⟨rfl, rfl⟩)
                | (go_at_call 86; refine (retB (f86_any _ _ _ _) hin).mono ?_; rintro e w' ⟨rfl, rfl⟩))
              go_ret
              exact ⟨ret_bool (by rw [Hf.out]), hbf⟩
end Go.Proofs.YtpdmdfkcaabnaaaGreatDoor
