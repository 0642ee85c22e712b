/- IsQuery of the program and of the reference, and hasHead. Condition: not more than 2^20 terms. -/
import Derived.Test.YtkjlfhccjpimcaaDoorVarsS
import Derived.Test.YtkjlfhccjpimcaaDoorVarsI
import Derived.Test.YtkjlfhccjpimcaaDoorIsFact
namespace Go.Proofs.YtkjlfhccjpimcaaDoor
open Go.RowKit
set_option linter.unusedVariables false
set_option linter.unusedSimpArgs false
/-- The variables of a query. -/
def qvars (q : QueryD) : List Int := setOf isVarB (termsL q.atoms)
def headB (q : QueryD) : Bool := decide ((q.head.length : Int) ≤ 3) && !(q.head.any fun t => !memB (qvars q) t)
def queryB (s : List Int) (q : QueryD) : Bool := schemaB s && inR (q.atoms.length : Int) 1 4 && !(q.atoms.any fun a => !atomB s a) && headB q
theorem queryB_atom {s : List Int} {q : QueryD} (h : (q.atoms.any fun a => !atomB s a) = true) : queryB s q = false := by unfold queryB; rw [h]; simp
theorem queryB_head {s : List Int} {q : QueryD} (h : (q.head.any fun t => !memB (qvars q) t) = true) : queryB s q = false := by unfold queryB headB; rw [h]; simp
theorem queryB_end {s : List Int} {q : QueryD} (h : (q.atoms.any fun a => !atomB s a) = false) (h2 : (q.head.any fun t => !memB (qvars q) t) = false) : queryB s q = (schemaB s && inR (q.atoms.length : Int) 1 4 && decide ((q.head.length : Int) ≤ 3)) := by
  unfold queryB headB; rw [h, h2]; simp
theorem retBy {P : Program} {f : FuncId} {args : Array Value} {w : World} {b c : Bool} {Q : World → Prop} (h : Calls P f args w fun e w' => e = .returned (.bool b) ∧ Q w') (hb : b = c) : Calls P f args w fun e w' => e = .returned (.bool c) ∧ Q w' := hb ▸ h
theorem hasHead1_any (x : Int) (v : Value) (l : List Int) (f : List Nat) (g : Nat) (w : World) (h : ints w v l f) (c0 : w.cell? ⟨g, 0, none⟩ = some v) :
    Calls Tryd.prog 89 #[.int .i64 x, .pointer (some ⟨g, 0, none⟩)] w fun e w' => e = .returned (.bool (!memB l x)) ∧ Below w.heap.size w w' := by
  obtain ⟨a, cap, rfl⟩ := slR.form h
  have hc : Calls Tryd.prog 90 #[.slice a l.length cap, .int .i64 x] w fun e w' => e = .returned (.bool (memB l x)) ∧ Below w.heap.size w w' := containsInt_any _ x l f w h
  go_enter Tryd.func89, Tryd.ntmps89
  go_wp2_with fail
  refine hc.mono ?_
  rintro e w1 ⟨rfl, hb1⟩
  go_wp2
  go_ret
  exact ⟨rfl, hb1⟩
set_option maxRecDepth 100000 in
set_option maxHeartbeats 1600000 in
theorem hasHead_any (q : QueryD) (vh : Value) (fh : List Nat) (va : Value) (fa : List Nat) (w : World) (hh : ints w vh q.head fh) (ha : atoms w va q.atoms fa) (hn : (termsL q.atoms).length ≤ 1048576) :
    Calls Tryd.prog 54 #[.agg #[vh, va]] w fun e w' => e = .returned (.bool (headB q)) ∧ Below w.heap.size w w' := by
  have Hn := Lib.hid hn
  clear hn
  obtain ⟨head, l⟩ := q
  obtain ⟨b, cap', rfl⟩ := slR.form hh
  obtain ⟨d, cap2, rfl⟩ := slR.form ha
  have hP := plain_of Tryd.func89 (by kernel_rfl) (by kernel_rfl)
  have hb0 : Below w.heap.size w (w.alloc (.cells #[.slice b head.length cap', .slice d l.length cap2] 46)) := ba (Below.refl _ _)
  have hh0 := hh.below' hb0
  have ha0 := ha.below' hb0
  have c0 : (w.alloc (.cells #[.slice b head.length cap', .slice d l.length cap2] 46)).cell? ⟨w.heap.size, 0, none⟩ = some (.slice b head.length cap') := cell_new w _ _ 0 _ rfl
  have c1 : (w.alloc (.cells #[.slice b head.length cap', .slice d l.length cap2] 46)).cell? ⟨w.heap.size, 1, none⟩ = some (.slice d l.length cap2) := cell_new w _ _ 1 _ rfl
  by_cases hlen : (head.length : Int) ≤ 3
  · have Hf := Lib.hid (show headB ⟨head, l⟩ = !(head.any fun t => !memB (qvars ⟨head, l⟩) t) by unfold headB; rw [decide_eq_true hlen]; rfl)
    go_enter Tryd.func54, Tryd.ntmps54
    go_wp2_with fail
    refine (implVarsOf_any ⟨head, l⟩ _ fh _ fa _ hh0 ha0 Hn.out).mono ?_
    rintro e w1 ⟨v1, f1, rfl, h1, h2, h3⟩
    obtain ⟨p, cp, rfl⟩ := slR.form h1
    have c0' := cell_al (cell_below c0 h3) (.cells #[.slice p (setOf isVarB (termsL l)).length cp] 38)
    have h1' := h1.al (.cells #[.slice p (setOf isVarB (termsL l)).length cp] 38)
    have hh1 := (hh0.below' h3).al (.cells #[.slice p (setOf isVarB (termsL l)).length cp] 38)
    have hb1 := ba (o := .cells #[.slice p (setOf isVarB (termsL l)).length cp] 38) (bt hb0 h3)
    have c2 : (w1.alloc (.cells #[.slice p (setOf isVarB (termsL l)).length cp] 38)).cell? ⟨w1.heap.size, 0, none⟩ = some (.slice p (setOf isVarB (termsL l)).length cp) := cell_new w1 _ _ 0 _ rfl
    clear h2
    go_wp2_with fail
    refine (containsFuncInt_any _ hP #[.pointer (some ⟨w1.heap.size, 0, none⟩)] (fun x => #[.int .i64 x, .pointer (some ⟨w1.heap.size, 0, none⟩)]) (fun _ => rfl) (fun t => !memB (qvars ⟨head, l⟩) t) _ head fh _ hh1 (fun i hi w' hb => hasHead1_any _ _ _ f1 _ _ (h1'.below' hb) (cell_below c2 hb))).mono ?_
    rintro e w2 ⟨rfl, hb2⟩
    have hb3 := bt hb1 hb2
    go_wp2
    go_ret
    exact ⟨ret_bool (by rw [Hf.out]), hb3⟩
  · have Hf := Lib.hid (show headB ⟨head, l⟩ = false by unfold headB; rw [decide_eq_false hlen]; rfl)
    go_enter Tryd.func54, Tryd.ntmps54
    go_wp2_with fail
    refine (implVarsOf_any ⟨head, l⟩ _ fh _ fa _ hh0 ha0 Hn.out).mono ?_
    rintro e w1 ⟨v1, f1, rfl, h1, h2, h3⟩
    obtain ⟨p, cp, rfl⟩ := slR.form h1
    have c0' := cell_al (cell_below c0 h3) (.cells #[.slice p (setOf isVarB (termsL l)).length cp] 38)
    have hb1 := ba (o := .cells #[.slice p (setOf isVarB (termsL l)).length cp] 38) (bt hb0 h3)
    clear h2
    go_wp2
    go_ret
    exact ⟨ret_bool (by rw [Hf.out]), hb1⟩
end Go.Proofs.YtkjlfhccjpimcaaDoor
