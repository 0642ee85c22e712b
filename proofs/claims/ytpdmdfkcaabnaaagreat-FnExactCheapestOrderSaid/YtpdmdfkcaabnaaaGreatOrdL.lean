/- Plain: orders of steps. No condition, no program in sight. -/
import Derived.Test.YtpdmdfkcaabnaaaGreatIsQuery
import Derived.Test.YtpdmdfkcaabnaaaGreatCanCall
import Derived.Test.YtpdmdfkcaabnaaaGreatCost
namespace Go.Proofs.YtpdmdfkcaabnaaaGreat
set_option linter.unusedVariables false
set_option linter.unusedSimpArgs false
def askedB (s : List Int) (l : List MethD) (q : QueryD) : Bool := methsB s l && queryB s q
def atomAt (l : List AtomD) (i : Int) : AtomD := l.getD i.toNat ⟨0, []⟩
theorem atomAt_nat {l : List AtomD} {k : Nat} (h : k < l.length) : atomAt l (k : Int) = l[k] := by unfold atomAt; rw [Int.toNat_natCast, getD_lt h]
/-- The reference's bound variables behind an atom. -/
def bindL (b ts : List Int) : List Int := ts.foldl (fun b t => if isVarB t then putL b t else b) b
theorem bindL_yes {b ts : List Int} {k : Nat} (hk : k < ts.length) (h : isVarB ts[k] = true) : bindL b (ts.take (k + 1)) = putL (bindL b (ts.take k)) ts[k] := by
  unfold bindL; rw [List.take_succ_eq_append_getElem hk, List.foldl_append]; simp [h]
theorem bindL_no {b ts : List Int} {k : Nat} (hk : k < ts.length) (h : isVarB ts[k] = false) : bindL b (ts.take (k + 1)) = bindL b (ts.take k) := by
  unfold bindL; rw [List.take_succ_eq_append_getElem hk, List.foldl_append]; simp [h]
theorem bindL_mem (ts : List Int) : ∀ (b : List Int) (x : Int), x ∈ bindL b ts ↔ x ∈ b ∨ (x ∈ ts ∧ isVarB x = true) := by
  induction ts with
  | nil => intro b x; simp [bindL]
  | cons t ts ih =>
    intro b x
    have h := ih (if isVarB t then putL b t else b) x
    unfold bindL at h ⊢
    rw [List.foldl_cons, h]
    cases hv : isVarB t with
    | true =>
      simp only [if_true, putL_mem, List.mem_cons]
      constructor
      · rintro ((h | rfl) | ⟨h1, h2⟩)
        · exact .inl h
        · exact .inr ⟨.inl rfl, hv⟩
        · exact .inr ⟨.inr h1, h2⟩
      · rintro (h | ⟨rfl | h1, h2⟩)
        · exact .inl (.inl h)
        · exact .inl (.inr rfl)
        · exact .inr ⟨h1, h2⟩
    | false =>
      simp only [Bool.false_eq_true, if_false, List.mem_cons]
      constructor
      · rintro (h | ⟨h1, h2⟩)
        · exact .inl h
        · exact .inr ⟨.inr h1, h2⟩
      · rintro (h | ⟨rfl | h1, h2⟩)
        · exact .inl h
        · rw [hv] at h2; cases h2
        · exact .inr ⟨h1, h2⟩
theorem putL_length1 (l : List Int) (x : Int) : (putL l x).length ≤ l.length + 1 := putL_length l x
theorem bindL_length (ts : List Int) : ∀ b : List Int, (bindL b ts).length ≤ b.length + ts.length := by
  induction ts with
  | nil => intro b; simp [bindL]
  | cons t ts ih =>
    intro b
    have h := ih (if isVarB t then putL b t else b)
    unfold bindL at h ⊢
    rw [List.foldl_cons]
    have h2 := putL_length b t
    simp only [List.length_cons]
    split at h <;> rename_i hv <;> simp only [hv, if_true, if_false, Bool.false_eq_true] at * <;> omega
/-- Two lists hold the same variables. -/
def SameVars (b c : List Int) : Prop := ∀ t, isVarB t = true → (t ∈ b ↔ t ∈ c)
theorem SameVars.refl (b : List Int) : SameVars b b := fun _ _ => Iff.rfl
theorem SameVars.bind {b c : List Int} (h : SameVars b c) (ts : List Int) : SameVars (bindL b ts) (c ++ ts) := by
  intro t ht
  rw [bindL_mem, List.mem_append, h t ht]
  constructor
  · rintro (h | ⟨h, _⟩)
    · exact .inl h
    · exact .inr h
  · rintro (h | h)
    · exact .inl h
    · exact .inr ⟨h, ht⟩
theorem SameVars.symm {b c : List Int} (h : SameVars b c) : SameVars c b := fun t ht => (h t ht).symm
theorem memB_iff' {l m : List Int} {x : Int} (h : x ∈ l ↔ x ∈ m) : memB l x = memB m x := by
  rw [Bool.eq_iff_iff, memB_iff, memB_iff]; exact h
theorem canCallB_same {m : MethD} {a : AtomD} {b c : List Int} (h : SameVars b c) : canCallB m a b = canCallB m a c := by
  unfold canCallB
  congr 2
  congr 1
  funext i
  unfold inBad
  cases hv : isVarB (a.terms.getD i.toNat 0) with
  | false => rfl
  | true => rw [memB_iff' (h _ hv)]
/-! ### What a question that is asked tells of its sizes -/
theorem asked_atoms {s : List Int} {l : List MethD} {q : QueryD} (h : askedB s l q = true) : 1 ≤ q.atoms.length ∧ q.atoms.length ≤ 4 ∧ l.length ≤ 5 ∧ ∀ a ∈ q.atoms, a.terms.length ≤ 3 := by
  unfold askedB queryB methsB at h
  simp only [Bool.and_eq_true, Bool.not_eq_true', List.any_eq_false, decide_eq_true_eq] at h
  obtain ⟨⟨⟨_, h5⟩, _⟩, ⟨⟨⟨hs, hn⟩, ha⟩, _⟩⟩ := h
  have hn' := inR_true hn
  refine ⟨by omega, by omega, h5, fun a haq => ?_⟩
  have h1 := ha a haq
  have h2 : atomB s a = true := by simpa using h1
  unfold atomB at h2
  simp only [Bool.and_eq_true, decide_eq_true_eq] at h2
  obtain ⟨⟨hr, hl⟩, _⟩ := h2
  unfold hasRelB at hr
  simp only [Bool.and_eq_true] at hr
  have hr' := inR_true hr.2
  unfold schemaB at hs
  simp only [Bool.and_eq_true, Bool.not_eq_true', List.any_eq_false] at hs
  have hlt : a.rel.toNat < s.length := by omega
  have h3 := hs.2 s[a.rel.toNat] (List.getElem_mem hlt)
  have h4 : inR s[a.rel.toNat] 1 3 = true := by simpa using h3
  have h5 := inR_true h4
  unfold arity at hl
  rw [getD_lt hlt] at hl
  omega
/-! ### An order -/
def usedAt (st : List StepD) (k : Nat) : List Int := (st.take k).map (·.atom)
def boundAt (l : List AtomD) (st : List StepD) (k : Nat) : List Int := (st.take k).flatMap fun x => (atomAt l x.atom).terms
theorem usedAt_succ {st : List StepD} {k : Nat} (hk : k < st.length) : usedAt st (k + 1) = usedAt st k ++ [st[k].atom] := by
  unfold usedAt; rw [List.take_succ_eq_append_getElem hk, List.map_append]; rfl
theorem boundAt_succ {l : List AtomD} {st : List StepD} {k : Nat} (hk : k < st.length) : boundAt l st (k + 1) = boundAt l st k ++ (atomAt l st[k].atom).terms := by
  unfold boundAt; rw [List.take_succ_eq_append_getElem hk, List.flatMap_append]; simp
theorem usedAt_length (st : List StepD) (k : Nat) : (usedAt st k).length ≤ k := by unfold usedAt; rw [List.length_map, List.length_take]; omega
theorem boundAt_length {l : List AtomD} (h : ∀ a ∈ l, a.terms.length ≤ 3) (st : List StepD) (k : Nat) : (boundAt l st k).length ≤ 3 * k := by
  induction k with
  | zero => simp [boundAt]
  | succ k ih =>
    by_cases hk : k < st.length
    · rw [boundAt_succ hk, List.length_append]
      have : (atomAt l st[k].atom).terms.length ≤ 3 := by
        unfold atomAt
        by_cases hq : st[k].atom.toNat < l.length
        · rw [getD_lt hq]; exact h _ (List.getElem_mem hq)
        · simp [List.getD, List.getElem?_eq_none (Nat.le_of_not_lt hq)]
      omega
    · have : boundAt l st (k + 1) = boundAt l st k := by unfold boundAt; rw [List.take_of_length_le (by omega), List.take_of_length_le (by omega)]
      rw [this]; omega
/-- What is wrong with the k-th step. -/
def ordBad (l : List MethD) (ats : List AtomD) (st : List StepD) (k : Nat) : Bool :=
  !inR (st.getD k ⟨0, 0⟩).atom 0 ((ats.length : Int) - 1) || memB (usedAt st k) (st.getD k ⟨0, 0⟩).atom || !inR (st.getD k ⟨0, 0⟩).meth 0 ((l.length : Int) - 1) || !canCallB (methAt l (st.getD k ⟨0, 0⟩).meth) (atomAt ats (st.getD k ⟨0, 0⟩).atom) (boundAt ats st k)
def orderB (s : List Int) (l : List MethD) (q : QueryD) (st : List StepD) : Bool := askedB s l q && decide (st.length = q.atoms.length) && !anyN st.length (ordBad l q.atoms st)
section
variable {s : List Int} {l : List MethD} {q : QueryD} {st : List StepD} {ats : List AtomD} {k : Nat}
theorem orderB_no1 (h : askedB s l q = false) : orderB s l q st = false := by unfold orderB; rw [h]; rfl
theorem orderB_no2 (h : st.length ≠ q.atoms.length) : orderB s l q st = false := by unfold orderB; rw [decide_eq_false h]; simp
theorem orderB_bad (hk : k < st.length) (h : ordBad l q.atoms st k = true) : orderB s l q st = false := by unfold orderB; rw [anyN_true hk h]; simp
theorem orderB_end (h1 : askedB s l q = true) (h2 : st.length = q.atoms.length) (hk : k = st.length) (h : ∀ j, j < k → ordBad l q.atoms st j = false) : orderB s l q st = true := by
  unfold orderB; rw [h1, decide_eq_true h2, anyN_false (fun j hj => h j (by omega))]; rfl
theorem ordBad_1 (hk : k < st.length) (h : inR st[k].atom 0 ((ats.length : Int) - 1) = false) : ordBad l ats st k = true := by unfold ordBad; rw [getD_lt hk, h]; rfl
theorem ordBad_2 (hk : k < st.length) (h : memB (usedAt st k) st[k].atom = true) : ordBad l ats st k = true := by unfold ordBad; rw [getD_lt hk, h]; simp
theorem ordBad_3 (hk : k < st.length) (h : inR st[k].meth 0 ((l.length : Int) - 1) = false) : ordBad l ats st k = true := by unfold ordBad; rw [getD_lt hk, h]; simp
theorem ordBad_4 {a m : Nat} (hk : k < st.length) (ha : st[k].atom = (a : Int)) (hm : st[k].meth = (m : Int)) (ha1 : a < ats.length) (hm1 : m < l.length) (h1 : inR (a : Int) 0 ((ats.length : Int) - 1) = true) (h2 : memB (usedAt st k) (a : Int) = false) (h3 : inR (m : Int) 0 ((l.length : Int) - 1) = true) :
    ordBad l ats st k = !canCallB l[m] ats[a] (boundAt ats st k) := by
  unfold ordBad; rw [getD_lt hk, ha, hm, h1, h2, h3, methAt_nat hm1, atomAt_nat ha1]; simp
end
end Go.Proofs.YtpdmdfkcaabnaaaGreat
