/- Plain: the search for the cheapest order. No condition, no program in sight. -/
import Derived.Test.YtpdmdfkcaabnaaaGreatGreedL
namespace Go.Proofs.YtpdmdfkcaabnaaaGreat
set_option linter.unusedVariables false
set_option linter.unusedSimpArgs false
/-- A loop that goes upward. -/
def upto {β : Type} (f : Nat → β → β) : Nat → β → β
  | 0, b => b
  | k + 1, b => f k (upto f k b)
theorem upto_inv {β : Type} {f : Nat → β → β} {p : β → Prop} {n : Nat} (h : ∀ k, k < n → ∀ b, p b → p (f k b)) {b : β} (hb : p b) : ∀ k, k ≤ n → p (upto f k b) := by
  intro k
  induction k with
  | zero => intro _; exact hb
  | succ k ih => intro hk; exact h k (by omega) _ (ih (by omega))
def sumC (l : List MethD) (st : List StepD) : Int := sumCost l (st.map (·.meth))
def bestB (l : List MethD) (st best : List StepD) : Bool := decide (best.length = 0) || decide (sumC l st < sumC l best)
def better (l : List MethD) (st best : List StepD) : List StepD := if bestB l st best then st else best
/-- Whether the m-th method can be called next for the i-th atom. -/
def canAt (l : List MethD) (ats : List AtomD) (st : List StepD) (i m : Nat) : Bool := !memB (used st) (i : Int) && canCallB (methAt l (m : Int)) (atomAt ats (i : Int)) (bnd ats st)
/-- The cheapest of the continuations of st, by n steps more, and of best. -/
def srch (l : List MethD) (ats : List AtomD) : Nat → List StepD → List StepD → List StepD
  | 0, st, best => better l st best
  | n + 1, st, best => upto (fun i b => upto (fun m b => if canAt l ats st i m then srch l ats n (st ++ [⟨(i : Int), (m : Int)⟩]) b else b) l.length b) ats.length best
/-- What the inner loop has for the i-th atom behind so many methods. -/
def srchM (l : List MethD) (ats : List AtomD) (n : Nat) (st : List StepD) (i : Nat) (k : Nat) (b : List StepD) : List StepD :=
  upto (fun m b => if canAt l ats st i m then srch l ats n (st ++ [⟨(i : Int), (m : Int)⟩]) b else b) k b
/-- What the outer loop has behind so many atoms. -/
def srchI (l : List MethD) (ats : List AtomD) (n : Nat) (st : List StepD) (k : Nat) (b : List StepD) : List StepD :=
  upto (fun i b => srchM l ats n st i l.length b) k b
section
variable {l : List MethD} {ats : List AtomD} {n : Nat} {st : List StepD} {i k : Nat} {b : List StepD}
theorem srch_zero : srch l ats 0 st b = better l st b := rfl
theorem srch_succ : srch l ats (n + 1) st b = srchI l ats n st ats.length b := rfl
theorem srchI_zero : srchI l ats n st 0 b = b := rfl
theorem srchI_succ : srchI l ats n st (k + 1) b = srchM l ats n st k l.length (srchI l ats n st k b) := rfl
theorem srchM_zero : srchM l ats n st i 0 b = b := rfl
theorem srchM_yes (h : canAt l ats st i k = true) : srchM l ats n st i (k + 1) b = srch l ats n (st ++ [⟨(i : Int), (k : Int)⟩]) (srchM l ats n st i k b) := by
  show (if canAt l ats st i k = true then _ else _) = _
  rw [if_pos h]; rfl
theorem srchM_no (h : canAt l ats st i k = false) : srchM l ats n st i (k + 1) b = srchM l ats n st i k b := by
  show (if canAt l ats st i k = true then _ else _) = _
  rw [h]; rfl
theorem srchM_used (h : memB (used st) (i : Int) = true) : ∀ k, srchM l ats n st i k b = b := by
  intro k
  induction k with
  | zero => rfl
  | succ k ih => rw [srchM_no (by unfold canAt; rw [h]; rfl), ih]
end
theorem sumC_bd (l : List MethD) (st : List StepD) : 0 ≤ sumC l st ∧ sumC l st ≤ 99 * st.length := by
  have := sumCost_bd l (st.map (·.meth)); rw [List.length_map] at this; exact this
theorem sumC_nil (l : List MethD) : sumC l [] = 0 := rfl
theorem sumC_snoc (l : List MethD) (st : List StepD) (x : StepD) : sumC l (st ++ [x]) = sumC l st + costB l x.meth := by
  unfold sumC; rw [List.map_append]; exact sumCost_snoc _ _ _
/-- A list of so many steps, or none. -/
theorem srch_len (l : List MethD) (ats : List AtomD) : ∀ (n : Nat) (st best : List StepD), st.length + n ≤ ats.length → best.length ≤ ats.length → (srch l ats n st best).length ≤ ats.length := by
  intro n
  induction n with
  | zero =>
    intro st best h hb
    rw [srch_zero]; unfold better
    split <;> omega
  | succ n ih =>
    intro st best h hb
    refine upto_inv (p := fun b : List StepD => b.length ≤ ats.length) (n := ats.length) (fun i _ b hb => ?_) hb _ (Nat.le_refl _)
    refine upto_inv (p := fun b : List StepD => b.length ≤ ats.length) (n := l.length) (fun m _ b hb => ?_) hb _ (Nat.le_refl _)
    (try dsimp only)
    split
    · exact ih _ _ (by simp; omega) hb
    · exact hb
theorem srchM_len {l : List MethD} {ats : List AtomD} {n : Nat} {st b : List StepD} {i : Nat} (h : st.length + (n + 1) ≤ ats.length) (hb : b.length ≤ ats.length) (k : Nat) : (srchM l ats n st i k b).length ≤ ats.length := by
  refine upto_inv (p := fun b : List StepD => b.length ≤ ats.length) (n := k) (fun m _ b hb => ?_) hb _ (Nat.le_refl _)
  (try dsimp only)
  split
  · exact srch_len l ats n _ _ (by simp; omega) hb
  · exact hb
theorem srchI_len {l : List MethD} {ats : List AtomD} {n : Nat} {st b : List StepD} (h : st.length + (n + 1) ≤ ats.length) (hb : b.length ≤ ats.length) (k : Nat) : (srchI l ats n st k b).length ≤ ats.length :=
  upto_inv (p := fun b : List StepD => b.length ≤ ats.length) (n := k) (fun i _ b hb => srchM_len h hb _) hb _ (Nat.le_refl _)
def cheapX (l : List MethD) (ats : List AtomD) : List StepD := srch l ats ats.length [] []
def cheapL (s : List Int) (l : List MethD) (q : QueryD) : List StepD × Int × Bool :=
  if askedB s l q then (cheapX l q.atoms, sumC l (cheapX l q.atoms), decide ((0 : Int) < ((cheapX l q.atoms).length : Int))) else ([], 0, false)
theorem cheapL_no {s : List Int} {l : List MethD} {q : QueryD} (h : askedB s l q = false) : cheapL s l q = ([], 0, false) := by unfold cheapL; rw [h]; rfl
theorem cheapL_yes {s : List Int} {l : List MethD} {q : QueryD} (h : askedB s l q = true) : cheapL s l q = (cheapX l q.atoms, sumC l (cheapX l q.atoms), decide ((0 : Int) < ((cheapX l q.atoms).length : Int))) := by unfold cheapL; rw [h]; rfl
theorem cheapX_len (l : List MethD) (ats : List AtomD) : (cheapX l ats).length ≤ ats.length := srch_len l ats _ _ _ (by simp) (by simp)
/-- The methods' costs, where a question is asked. -/
theorem asked_cost {s : List Int} {l : List MethD} {q : QueryD} (h : askedB s l q = true) : ∀ m ∈ l, 0 ≤ m.cost ∧ m.cost ≤ 99 := by
  unfold askedB methsB at h
  simp only [Bool.and_eq_true, Bool.not_eq_true', List.any_eq_false, decide_eq_true_eq] at h
  obtain ⟨⟨_, hm⟩, _⟩ := h
  intro m hml
  have h1 := hm m hml
  have h2 : methB s m = true := by simpa using h1
  unfold methB fitsB numsB at h2
  simp only [Bool.and_eq_true] at h2
  exact inR_true h2.2.2.1.2
end Go.Proofs.YtpdmdfkcaabnaaaGreat
