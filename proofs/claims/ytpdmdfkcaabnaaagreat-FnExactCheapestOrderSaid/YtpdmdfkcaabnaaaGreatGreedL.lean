/- Plain: the greedy order. No condition, no program in sight. -/
import Derived.Test.YtpdmdfkcaabnaaaGreatOrdL
namespace Go.Proofs.YtpdmdfkcaabnaaaGreat
set_option linter.unusedVariables false
set_option linter.unusedSimpArgs false
def firstM (l : List MethD) (a : AtomD) (b : List Int) : Int := idxI (fun m => canCallB m a b) l
theorem firstM_lo (l : List MethD) (a : AtomD) (b : List Int) : -1 ≤ firstM l a b := by
  unfold firstM idxI; split <;> omega
theorem firstM_le (l : List MethD) (a : AtomD) (b : List Int) : firstM l a b ≤ l.length := by
  unfold firstM idxI
  split
  · rename_i i h
    have := (List.findIdx?_eq_some_iff_getElem.1 h).1
    omega
  · omega
theorem firstM_same {l : List MethD} {a : AtomD} {b c : List Int} (h : SameVars b c) : firstM l a b = firstM l a c := by
  unfold firstM; congr 1; funext m; exact canCallB_same h
def used (st : List StepD) : List Int := st.map (·.atom)
def bnd (ats : List AtomD) (st : List StepD) : List Int := st.flatMap fun x => (atomAt ats x.atom).terms
theorem used_snoc (st : List StepD) (x : StepD) : used (st ++ [x]) = used st ++ [x.atom] := by unfold used; simp
theorem bnd_snoc (ats : List AtomD) (st : List StepD) (x : StepD) : bnd ats (st ++ [x]) = bnd ats st ++ (atomAt ats x.atom).terms := by unfold bnd; simp
/-- Can the i-th atom be taken next. -/
def good (l : List MethD) (ats : List AtomD) (st : List StepD) (i : Nat) : Bool := !memB (used st) (i : Int) && decide (0 ≤ firstM l (atomAt ats (i : Int)) (bnd ats st))
def pick (l : List MethD) (ats : List AtomD) (st : List StepD) : Option StepD :=
  if idxI (good l ats st) (List.range ats.length) < 0 then none
  else some ⟨idxI (good l ats st) (List.range ats.length), firstM l (atomAt ats (idxI (good l ats st) (List.range ats.length))) (bnd ats st)⟩
def greedyN (l : List MethD) (ats : List AtomD) : Nat → List StepD
  | 0 => []
  | k + 1 => match pick l ats (greedyN l ats k) with
    | none => greedyN l ats k
    | some x => greedyN l ats k ++ [x]
section
variable {l : List MethD} {ats : List AtomD} {st : List StepD}
theorem pick_some {i : Nat} (hi : i < ats.length) (h : good l ats st i = true) (hn : ∀ j, j < i → good l ats st j = false) : pick l ats st = some ⟨(i : Int), firstM l (atomAt ats (i : Int)) (bnd ats st)⟩ := by
  have h1 : idxI (good l ats st) (List.range ats.length) = (i : Int) :=
    idxI_at _ _ i (by simpa using hi) (by simpa using h) (fun j hj hji => by simpa using hn j hji)
  unfold pick
  rw [h1, if_neg (by omega)]
theorem pick_none (h : ∀ j, j < ats.length → good l ats st j = false) : pick l ats st = none := by
  have h1 : idxI (good l ats st) (List.range ats.length) = -1 := idxI_none _ _ (fun j hj => by simpa using h j (by simpa using hj))
  unfold pick
  rw [h1]; rfl
theorem greedyN_some {k : Nat} {x : StepD} (h : pick l ats (greedyN l ats k) = some x) : greedyN l ats (k + 1) = greedyN l ats k ++ [x] := by
  simp only [greedyN, h]
theorem greedyN_none {k : Nat} (h : pick l ats (greedyN l ats k) = none) : greedyN l ats (k + 1) = greedyN l ats k := by
  simp only [greedyN, h]
theorem greedyN_stop {k : Nat} (h : pick l ats (greedyN l ats k) = none) : ∀ d, greedyN l ats (k + d) = greedyN l ats k := by
  intro d
  induction d with
  | zero => rfl
  | succ d ih =>
    have : pick l ats (greedyN l ats (k + d)) = none := by rw [ih]; exact h
    rw [← Nat.add_assoc, greedyN_none this, ih]
theorem pick_form {x : StepD} (h : pick l ats st = some x) : ∃ i : Nat, i < ats.length ∧ x = ⟨(i : Int), firstM l (atomAt ats (i : Int)) (bnd ats st)⟩ ∧ memB (used st) (i : Int) = false ∧ 0 ≤ firstM l (atomAt ats (i : Int)) (bnd ats st) := by
  by_cases hall : ∀ j, j < ats.length → good l ats st j = false
  · rw [pick_none hall] at h; cases h
  · have hex : ∃ i, i < ats.length ∧ good l ats st i = true ∧ ∀ j, j < i → good l ats st j = false := by
      have h0 : ∃ i, i < ats.length ∧ good l ats st i = true := by
        apply Classical.byContradiction
        intro hno
        refine hall fun j hj => ?_
        cases hg : good l ats st j with
        | false => rfl
        | true => exact (hno ⟨j, hj, hg⟩).elim
      obtain ⟨i, hi, hg⟩ := h0
      induction i using Nat.strongRecOn with
      | _ i ih =>
        by_cases hm : ∃ j, j < i ∧ good l ats st j = true
        · obtain ⟨j, hj, hgj⟩ := hm
          exact ih j hj (by omega) hgj
        · exact ⟨i, hi, hg, fun j hj => by
            cases hg2 : good l ats st j with
            | false => rfl
            | true => exact (hm ⟨j, hj, hg2⟩).elim⟩
    obtain ⟨i, hi, hg, hn⟩ := hex
    rw [pick_some hi hg hn] at h
    cases h
    unfold good at hg
    simp only [Bool.and_eq_true, Bool.not_eq_true', decide_eq_true_eq] at hg
    exact ⟨i, hi, rfl, hg.1, hg.2⟩
theorem nodup_le : ∀ (n : Nat) (m : List Nat), m.Nodup → (∀ x ∈ m, x < n) → m.length ≤ n := by
  intro n
  induction n with
  | zero =>
    intro m _ h
    cases m with
    | nil => simp
    | cons x t => exact absurd (h x (by simp)) (by omega)
  | succ n ih =>
    intro m hm h
    by_cases hn : n ∈ m
    · have h1 := ih (m.erase n) (hm.erase n) (fun x hx => by
        have h2 := (hm.mem_erase_iff).1 hx
        have h3 := h x h2.2
        have h4 := h2.1
        omega)
      rw [List.length_erase_of_mem hn] at h1
      omega
    · have h1 := ih m hm (fun x hx => by
        have h3 := h x hx
        have h4 : x ≠ n := fun e => hn (e ▸ hx)
        omega)
      omega
/-- The steps so far are of different atoms, all below the number of atoms. -/
structure Ok (ats : List AtomD) (st : List StepD) : Prop where
  nd : (st.map fun x => x.atom.toNat).Nodup
  lt : ∀ x ∈ st, ∃ i : Nat, i < ats.length ∧ x.atom = (i : Int)
theorem Ok.nil (ats : List AtomD) : Ok ats [] := ⟨List.nodup_nil, by simp⟩
theorem Ok.le (h : Ok ats st) : st.length ≤ ats.length := by
  have := nodup_le ats.length (st.map fun x => x.atom.toNat) h.nd (fun x hx => by
    obtain ⟨y, hy, rfl⟩ := List.mem_map.1 hx
    obtain ⟨i, hi, e⟩ := h.lt y hy
    rw [e]; simpa using hi)
  simpa using this
theorem Ok.snoc (h : Ok ats st) {x : StepD} {i : Nat} (hi : i < ats.length) (hx : x.atom = (i : Int)) (hn : memB (used st) (i : Int) = false) : Ok ats (st ++ [x]) := by
  refine ⟨?_, fun y hy => ?_⟩
  · rw [List.map_append]
    refine List.nodup_append.2 ⟨h.nd, by simp, fun a ha b hb e => ?_⟩
    simp only [List.map_cons, List.map_nil, List.mem_singleton] at hb
    obtain ⟨y, hy, rfl⟩ := List.mem_map.1 ha
    obtain ⟨j, _, hj⟩ := h.lt y hy
    rw [hb, hj, hx] at e
    have hji : j = i := by simpa using e
    have : memB (used st) (i : Int) = true := memB_iff.2 (List.mem_map.2 ⟨y, hy, by rw [hj, hji]⟩)
    rw [this] at hn; cases hn
  · rcases List.mem_append.1 hy with hy | hy
    · exact h.lt y hy
    · rw [List.mem_singleton.1 hy]; exact ⟨i, hi, hx⟩
theorem greedyN_ok (k : Nat) : Ok ats (greedyN l ats k) := by
  induction k with
  | zero => exact Ok.nil ats
  | succ k ih =>
    cases hp : pick l ats (greedyN l ats k) with
    | none => rw [greedyN_none hp]; exact ih
    | some x =>
      rw [greedyN_some hp]
      obtain ⟨i, hi, rfl, hn, _⟩ := pick_form hp
      exact ih.snoc hi rfl hn
theorem greedyN_le (k : Nat) : (greedyN l ats k).length ≤ ats.length := (greedyN_ok k).le
/-- Where nothing more can be taken, and every round took one, it is what so many rounds take. -/
theorem greedy_end {k : Nat} (hk : (greedyN l ats k).length = k) (h : pick l ats (greedyN l ats k) = none) : greedyN l ats k = greedyN l ats ats.length := by
  have hle := greedyN_le (l := l) (ats := ats) k
  rw [hk] at hle
  have := greedyN_stop h (ats.length - k)
  rw [show k + (ats.length - k) = ats.length by omega] at this
  exact this.symm
end
theorem bnd_length {ats : List AtomD} (h : ∀ a ∈ ats, a.terms.length ≤ 3) (st : List StepD) : (bnd ats st).length ≤ 3 * st.length := by
  induction st with
  | nil => simp [bnd]
  | cons x t ih =>
    unfold bnd at ih ⊢
    rw [List.flatMap_cons, List.length_append, List.length_cons]
    have : (atomAt ats x.atom).terms.length ≤ 3 := by
      unfold atomAt
      by_cases hq : x.atom.toNat < ats.length
      · rw [getD_lt hq]; exact h _ (List.getElem_mem hq)
      · simp [List.getD, List.getElem?_eq_none (Nat.le_of_not_lt hq)]
    omega
def findL (s : List Int) (l : List MethD) (q : QueryD) : List StepD × Bool :=
  if askedB s l q then (if (greedyN l q.atoms q.atoms.length).length < q.atoms.length then ([], false) else (greedyN l q.atoms q.atoms.length, true)) else ([], false)
/-- The atoms that get no step. -/
def freeL (n : Nat) (st : List StepD) : List Int := ((List.range n).filter fun (i : Nat) => !memB (used st) (i : Int)).map fun (i : Nat) => (i : Int)
def blockedL (s : List Int) (l : List MethD) (q : QueryD) : List Int := if askedB s l q then freeL q.atoms.length (greedyN l q.atoms q.atoms.length) else []
theorem freeL_yes {n : Nat} {st : List StepD} (h : memB (used st) (n : Int) = false) : freeL (n + 1) st = freeL n st ++ [(n : Int)] := by
  unfold freeL; rw [List.range_succ, List.filter_append, List.map_append]; simp [h]
theorem freeL_no {n : Nat} {st : List StepD} (h : memB (used st) (n : Int) = true) : freeL (n + 1) st = freeL n st := by
  unfold freeL; rw [List.range_succ, List.filter_append, List.map_append]; simp [h]
theorem freeL_length (n : Nat) (st : List StepD) : (freeL n st).length ≤ n := by
  unfold freeL; rw [List.length_map]; exact Nat.le_trans (List.length_filter_le _ _) (by simp)
end Go.Proofs.YtpdmdfkcaabnaaaGreat
