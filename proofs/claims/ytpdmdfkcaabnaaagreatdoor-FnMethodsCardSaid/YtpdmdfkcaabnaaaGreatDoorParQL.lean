/- Plain laws: a query's own text is read as the query, by the reference and by the program. No condition, no program in sight. -/
import Derived.Test.YtpdmdfkcaabnaaaGreatDoorParFL
import Derived.Test.YtpdmdfkcaabnaaaGreatDoorFmtQL
namespace Go.Proofs.YtpdmdfkcaabnaaaGreatDoor
open Go.RowKit
set_option linter.unusedVariables false
set_option linter.unusedSimpArgs false
/-- As the reference reads a term. -/
def termV : List UInt8 → Int
  | 120 :: b :: r => if inR (numV (b :: r)) 0 7 then 10 + numV (b :: r) else -1
  | t => if isVal (numV t) then numV t else -1
theorem termV_other {t : List UInt8} (h : ∀ b r, t ≠ 120 :: b :: r) : termV t = if isVal (numV t) then numV t else -1 := by
  unfold termV
  split
  · rename_i b r; exact absurd rfl (h b r)
  · rfl
theorem termV_bd (t : List UInt8) : -1 ≤ termV t ∧ termV t ≤ 17 := by
  unfold termV
  split
  · split
    · rename_i h; have := inR_true h; omega
    · omega
  · split
    · rename_i h; have := inR_true (show inR _ 0 9 = true from h); omega
    · omega
theorem isVal_bd {x : Int} (h : isVal x = true) : 0 ≤ x ∧ x ≤ 9 := inR_true h
theorem termV_term {x : Int} (h : isTermB x = true) : termV (termS x) = x := by
  cases hv : isVarB x with
  | true =>
    have hb := var_bd hv
    obtain ⟨b, r, hi⟩ := itoa_cons (x - 10)
    have hn := numV_itoa (n := x - 10) (by omega) (by omega)
    rw [termS_var hv, hi]
    rw [hi] at hn
    unfold termV
    simp only [hn]
    rw [if_pos (by unfold inR; simp; omega)]
    omega
  | false =>
    have hx : isVal x = true := by unfold isTermB at h; rw [hv] at h; simpa using h
    have hb := isVal_bd hx
    rw [termS_val hv, termV_other (fun b r e => by
      have := itoa_bytes x 120 (by rw [e]; simp)
      revert this; decide), numV_itoa (by omega) (by omega), if_pos hx]
theorem termS_no {x : Int} {c : UInt8} (hc : c ≠ 45) (hd : isDig c = false) (h120 : c ≠ 120) : ∀ b ∈ termS x, b ≠ c := by
  intro b hb
  unfold termS at hb
  split at hb
  · rcases List.mem_cons.1 hb with rfl | hb
    · exact Ne.symm h120
    · exact itoa_no hc hd b hb
  · exact itoa_no hc hd b hb
theorem termS_cons (x : Int) : ∃ b r, termS x = b :: r := by
  unfold termS
  split
  · exact ⟨_, _, rfl⟩
  · exact itoa_cons x
theorem cut_terms {l : List Int} (h : 0 < l.length) : cutL 44 (termsS l [44]) = l.map termS := by
  unfold termsS
  refine cut_join (by cases l <;> simp at h ⊢) fun p hp b hb => ?_
  obtain ⟨n, _, rfl⟩ := List.mem_map.1 hp
  exact termS_no (by decide) (by decide) (by decide) b hb
theorem termsS_no {l : List Int} {c : UInt8} (hc : c ≠ 45) (hd : isDig c = false) (h120 : c ≠ 120) (h44 : c ≠ 44) : ∀ b ∈ termsS l [44], b ≠ c := by
  intro b hb
  rcases join_mem hb with h | ⟨p, hp, h⟩
  · simp at h; subst h; exact Ne.symm h44
  · obtain ⟨n, _, rfl⟩ := List.mem_map.1 hp
    exact termS_no hc hd h120 b h
theorem map_term {l : List Int} (h : (l.any fun n => !isTermB n) = false) : (l.map termS).map termV = l := by
  rw [List.map_map]
  conv => rhs; rw [← List.map_id l]
  exact List.map_congr_left fun i hi => termV_term (by have := (List.any_eq_false.1 h) i hi; simpa using this)
/-- As the reference reads an atom. -/
def atomV (t : List UInt8) : AtomD := ⟨relV (callS t).1, (callS t).2.map termV⟩
theorem atomFB_parts {a : AtomD} (h : atomFB a = true) : inR a.rel 0 2 = true ∧ inR (a.terms.length : Int) 1 3 = true ∧ (a.terms.any fun n => !isTermB n) = false := by
  unfold atomFB at h
  simp only [Bool.and_eq_true, Bool.not_eq_true'] at h
  exact ⟨h.1.1, h.1.2, h.2⟩
theorem callS_atom {a : AtomD} (h : atomFB a = true) : callS (atomFS a) = (114 :: Lib.itoa a.rel, a.terms.map termS) := by
  have h2 := inR_true (atomFB_parts h).2.1
  rw [atomFS_yes h, ← List.cons_append, callS_hit (name_no40 _), cut_terms (by omega)]
theorem atomV_atom {a : AtomD} (h : atomFB a = true) : atomV (atomFS a) = a := by
  obtain ⟨h1, h2, h3⟩ := atomFB_parts h
  unfold atomV
  rw [callS_atom h]
  simp only [relV_itoa (rel_small h1).1 (rel_small h1).2, map_term h3]
theorem atomFS_no32 {a : AtomD} (h : atomFB a = true) : ∀ b ∈ atomFS a, b ≠ 32 := by
  intro b hb
  rw [atomFS_yes h] at hb
  simp only [List.mem_cons, List.mem_append, List.not_mem_nil, or_false] at hb
  rcases hb with rfl | hb | rfl | hb | rfl
  · decide
  · exact itoa_no (by decide) (by decide) b hb
  · decide
  · exact termsS_no (by decide) (by decide) (by decide) (by decide) b hb
  · decide
/-- Every other one, from the third on. -/
def wordsA (w : List (List UInt8)) : List (List UInt8) := (List.range ((w.length - 1) / 2)).map fun k => w.getD (2 * k + 2) []
def headW (t : List UInt8) : List Int := if t = yesS then [] else (cutL 44 t).map termV
def queryV (t : List UInt8) : QueryD := ⟨headW ((cutL 32 t).getD 0 []), (wordsA (cutL 32 t)).map atomV⟩
/-- With a word between each two. -/
def inter : List (List UInt8) → List (List UInt8)
  | [] => []
  | [x] => [x]
  | x :: y :: t => x :: [97, 110, 100] :: inter (y :: t)
theorem inter_len : ∀ {l : List (List UInt8)}, l ≠ [] → (inter l).length + 1 = 2 * l.length
  | [], h => absurd rfl h
  | [x], _ => rfl
  | x :: y :: t, _ => by
    have ih := inter_len (l := y :: t) (by simp)
    simp only [inter, List.length_cons] at ih ⊢
    omega
theorem inter_get : ∀ (l : List (List UInt8)) (k : Nat), k < l.length → (inter l).getD (2 * k) [] = l.getD k []
  | [], k, h => by simp at h
  | [x], k, h => by
    simp at h
    obtain rfl : k = 0 := by omega
    rfl
  | x :: y :: t, k, h => by
    cases k with
    | zero => rfl
    | succ k =>
      have ih := inter_get (y :: t) k (by simpa using h)
      rw [show 2 * (k + 1) = 2 * k + 1 + 1 by omega]
      simp only [inter, List.getD_cons_succ]
      exact ih
theorem cut_inter : ∀ {l : List (List UInt8)}, l ≠ [] → (∀ p ∈ l, ∀ b ∈ p, b ≠ 32) → cutL 32 (Lib.join l andS) = inter l
  | [], h, _ => absurd rfl h
  | [x], _, h => by rw [join_single, cutL_none (h x (by simp))]; rfl
  | x :: y :: t, _, h => by
    have ih := cut_inter (l := y :: t) (by simp) fun p hp => h p (by simp only [List.mem_cons] at hp ⊢; exact .inr hp)
    rw [join_cons, show x ++ andS ++ Lib.join (y :: t) andS = x ++ 32 :: ([97, 110, 100] ++ 32 :: Lib.join (y :: t) andS) by simp [andS], cutL_sep _ (h x (by simp)), cutL_sep _ (by decide), ih]
    rfl
theorem wordsA_inter {l : List (List UInt8)} (hl : l ≠ []) (a b : List UInt8) : wordsA (a :: b :: inter l) = l := by
  have h1 := inter_len hl
  have h2 : ((a :: b :: inter l).length - 1) / 2 = l.length := by simp only [List.length_cons]; omega
  unfold wordsA
  rw [h2]
  apply List.ext_getElem
  · simp
  · intro k hk hk2
    simp only [List.getElem_map, List.getElem_range]
    rw [show 2 * k + 2 = 2 * k + 1 + 1 by omega, List.getD_cons_succ, List.getD_cons_succ, inter_get l k hk2]
    simp [hk2]
theorem queryFB_parts {q : QueryD} (h : queryFB q = true) : inR (q.atoms.length : Int) 1 4 = true ∧ headB q = true ∧ (q.atoms.any fun a => !atomFB a) = false := by
  unfold queryFB at h
  simp only [Bool.and_eq_true, Bool.not_eq_true'] at h
  exact ⟨h.1.1, h.1.2, h.2⟩
theorem atoms_all {q : QueryD} (h : queryFB q = true) : ∀ a ∈ q.atoms, atomFB a = true := by
  intro a ha
  have := (List.any_eq_false.1 (queryFB_parts h).2.2) a ha
  simpa using this
theorem head_vars {q : QueryD} (h : headB q = true) : ∀ t ∈ q.head, isVarB t = true := by
  intro t ht
  unfold headB at h
  simp only [Bool.and_eq_true, Bool.not_eq_true'] at h
  have h1 := (List.any_eq_false.1 h.2) t ht
  have h2 : memB (qvars q) t = true := by simpa using h1
  have h3 := memB_iff.1 h2
  exact ((setOf_mem _ _ _).1 h3).2
theorem headS_no32 {l : List Int} : ∀ b ∈ headS l, b ≠ 32 := by
  intro b hb
  unfold headS at hb
  split at hb
  · simp [yesS] at hb
    rcases hb with rfl | rfl | rfl <;> decide
  · exact termsS_no (by decide) (by decide) (by decide) (by decide) b hb
theorem headS_ne {l : List Int} (h : ∀ t ∈ l, isVarB t = true) (h0 : l.length ≠ 0) : headS l ≠ yesS ∧ headS l = termsS l [44] := by
  have e : headS l = termsS l [44] := by unfold headS; rw [if_neg h0]
  refine ⟨fun e2 => ?_, e⟩
  rw [e] at e2
  have h1 := cut_terms (l := l) (by omega)
  rw [e2] at h1
  have h2 : cutL 44 yesS = [yesS] := by decide
  rw [h2] at h1
  cases l with
  | nil => simp at h0
  | cons x t =>
    simp only [List.map_cons, List.cons.injEq] at h1
    have h3 := h1.1
    rw [termS_var (h x (by simp))] at h3
    simp [yesS] at h3
theorem headW_head {l : List Int} (h : ∀ t ∈ l, isVarB t = true) : headW (headS l) = l := by
  by_cases h0 : l.length = 0
  · have : l = [] := List.eq_nil_of_length_eq_zero h0
    subst this; rfl
  · obtain ⟨h1, h2⟩ := headS_ne h h0
    unfold headW
    rw [if_neg h1, h2, cut_terms (by omega), map_term]
    rw [List.any_eq_false]
    intro x hx
    simp [isTermB, h x hx]
theorem cut_query {q : QueryD} (h : queryFB q = true) : cutL 32 (queryFS q) = headS q.head :: [105, 102] :: inter (q.atoms.map atomFS) := by
  have h1 := inR_true (queryFB_parts h).1
  rw [queryFS_yes h, show headS q.head ++ ifS ++ Lib.join (q.atoms.map atomFS) andS = headS q.head ++ 32 :: ([105, 102] ++ 32 :: Lib.join (q.atoms.map atomFS) andS) by simp [ifS], cutL_sep _ headS_no32, cutL_sep _ (by decide), cut_inter]
  · intro e
    have := congrArg List.length e
    simp at this
    rw [this] at h1; simp at h1
  · intro p hp
    obtain ⟨a, ha, rfl⟩ := List.mem_map.1 hp
    exact atomFS_no32 (atoms_all h a ha)
theorem atoms_ne {q : QueryD} (h : queryFB q = true) : q.atoms.map atomFS ≠ [] := by
  have h1 := inR_true (queryFB_parts h).1
  intro e
  have := congrArg List.length e
  simp at this
  rw [this] at h1; simp at h1
theorem queryV_query {q : QueryD} (h : queryFB q = true) : queryV (queryFS q) = q := by
  unfold queryV
  rw [cut_query h, wordsA_inter (atoms_ne h)]
  simp only [List.getD_cons_zero, headW_head (head_vars (queryFB_parts h).2.1)]
  have e : (q.atoms.map atomFS).map atomV = q.atoms := by
    rw [List.map_map]
    conv => rhs; rw [← List.map_id q.atoms]
    exact List.map_congr_left fun a ha => atomV_atom (atoms_all h a ha)
  rw [e]
theorem atom_fmt {s : List Int} {a : AtomD} (h : atomB s a = true) : atomFB a = true := by
  unfold atomB at h
  simp only [Bool.and_eq_true, decide_eq_true_eq] at h
  obtain ⟨⟨h1, h2⟩, h3⟩ := h
  obtain ⟨h4, h5⟩ := arity_bd h1
  unfold atomFB
  rw [h4, h2, h5, h3]; rfl
theorem query_fmt {s : List Int} {q : QueryD} (h : queryB s q = true) : queryFB q = true := by
  unfold queryB at h
  simp only [Bool.and_eq_true, Bool.not_eq_true'] at h
  obtain ⟨⟨⟨_, h1⟩, h2⟩, h3⟩ := h
  unfold queryFB
  rw [h1, h3]
  have : (q.atoms.any fun a => !atomFB a) = false := by
    rw [List.any_eq_false]
    intro a ha
    have := (List.any_eq_false.1 h2) a ha
    simp [atom_fmt (s := s) (a := a) (by simpa using this)]
  rw [this]; rfl
/-- What parsing a query's text comes to: the query that has the text, if there is one. -/
def QueryIs (s : List Int) (t : List UInt8) (q : QueryD) (k : Bool) : Prop := (queryB s q = true ∧ queryFS q = t ∧ k = true) ∨ ((∀ n, queryB s n = true → queryFS n ≠ t) ∧ q = ⟨[], []⟩ ∧ k = false)
theorem QueryIs.one {s : List Int} {t : List UInt8} {f f' : QueryD} {k k' : Bool} (h : QueryIs s t f k) (g : QueryIs s t f' k') : f = f' ∧ k = k' := by
  rcases h with ⟨a, c, rfl⟩ | ⟨hn, rfl, rfl⟩ <;> rcases g with ⟨a', c', rfl⟩ | ⟨hn', rfl, rfl⟩
  · have e := queryV_query (query_fmt a)
    have e' := queryV_query (query_fmt a')
    rw [c] at e; rw [c'] at e'
    exact ⟨e.symm.trans e', rfl⟩
  · exact absurd c (hn' _ a)
  · exact absurd c' (hn _ a')
  · exact ⟨rfl, rfl⟩
theorem query_no {s : List Int} {t : List UInt8} (h : queryB s (queryV t) = false ∨ queryFS (queryV t) ≠ t) : ∀ n, queryB s n = true → queryFS n ≠ t := by
  intro n h1 e
  have h3 := queryV_query (query_fmt h1)
  rw [e] at h3
  rw [h3] at h
  rcases h with h | h
  · rw [h] at h1; cases h1
  · exact h e
/-! ### As the program reads them -/
def rdT (w : List UInt8) : Option Int := (pInt (Lib.trimPrefix w [120])).map fun n => if Lib.trimPrefix w [120] = w then n else n + 10
def allT (l : List (List UInt8)) : Bool := l.all fun p => (rdT p).isSome
def valT (l : List (List UInt8)) : List Int := l.map fun p => (rdT p).getD 0
theorem rdT_term {x : Int} (h : isTermB x = true) : rdT (termS x) = some x := by
  cases hv : isVarB x with
  | true =>
    have hb := var_bd hv
    unfold rdT
    rw [termS_var hv, trimP, pInt_itoa (by omega) (by omega)]
    have hne : Lib.itoa (x - 10) ≠ 120 :: Lib.itoa (x - 10) := fun e => by have := congrArg List.length e; simp at this
    simp only [Option.map_some, if_neg hne]
    congr 1; omega
  | false =>
    have hx : isVal x = true := by unfold isTermB at h; rw [hv] at h; simpa using h
    have hb := isVal_bd hx
    obtain ⟨b, r, hi⟩ := itoa_cons x
    have h120 : b ≠ 120 := fun e => by
      have := itoa_bytes x b (by rw [hi]; simp)
      rw [e] at this
      revert this; decide
    have ht : Lib.trimPrefix (Lib.itoa x) [120] = Lib.itoa x := by rw [hi]; exact trimP_no r h120
    unfold rdT
    rw [termS_val hv, ht, pInt_itoa (by omega) (by omega)]
    simp
theorem allT_term {l : List Int} (h : (l.any fun n => !isTermB n) = false) : allT (l.map termS) = true ∧ valT (l.map termS) = l := by
  have hx : ∀ i ∈ l, rdT (termS i) = some i := fun i hi => rdT_term (by have := (List.any_eq_false.1 h) i hi; simpa using this)
  constructor
  · unfold allT
    rw [List.all_eq_true]
    intro p hp
    obtain ⟨n, hn, rfl⟩ := List.mem_map.1 hp
    rw [hx n hn]; rfl
  · unfold valT
    rw [List.map_map]
    conv => rhs; rw [← List.map_id l]
    exact List.map_congr_left fun n hn => by simp only [Function.comp, hx n hn]; rfl
theorem allT_no {l : List (List UInt8)} {k : Nat} (hk : k < l.length) (h : rdT l[k] = none) : allT l = false := by
  unfold allT
  rw [List.all_eq_false]
  exact ⟨l[k], List.getElem_mem hk, by rw [h]; simp⟩
theorem rdT_bd {w : List UInt8} {n : Int} (h : rdT w = some n) : -999999999 ≤ n ∧ n ≤ 1000000009 := by
  unfold rdT at h
  cases hp : pInt (Lib.trimPrefix w [120]) with
  | none => rw [hp] at h; cases h
  | some m =>
    rw [hp] at h
    have := pInt_some hp
    simp only [Option.map_some, Option.some.injEq] at h
    split at h <;> omega
/-- An atom as the program reads it, and whether it is one. -/
def rdA (t : List UInt8) : AtomD := match readC 114 t with
  | some (r, ws) => ⟨r, if allT ws then valT ws else []⟩
  | none => ⟨0, []⟩
def okA (t : List UInt8) : Bool := match readC 114 t with
  | some (_, ws) => allT ws
  | none => false
theorem rdA_atom {a : AtomD} (h : atomFB a = true) : okA (atomFS a) = true ∧ rdA (atomFS a) = a := by
  obtain ⟨h1, h2, h3⟩ := atomFB_parts h
  have h2' := inR_true h2
  obtain ⟨h4, h5⟩ := allT_term h3
  have hne : termsS a.terms [44] ≠ [] := by
    intro e
    have h4 := cut_terms (l := a.terms) (by omega)
    rw [e] at h4
    cases hv : a.terms with
    | nil => rw [hv] at h2'; simp at h2'
    | cons x t =>
      rw [hv] at h4
      obtain ⟨b, r, hb⟩ := termS_cons x
      simp [cutL, hb] at h4
  have hr : readC 114 (atomFS a) = some (a.rel, a.terms.map termS) := by
    rw [atomFS_yes h, ← List.cons_append, readC_hit (by decide) (rel_small h1).1 (rel_small h1).2]
    unfold wordsC
    rw [if_neg hne, cut_terms (by omega)]
  unfold okA rdA
  simp [hr, h4, h5]
theorem split_and : ∀ {l : List (List UInt8)}, l ≠ [] → (∀ p ∈ l, ∀ b ∈ p, b ≠ 32) → Lib.splitK andS 0 (Lib.count (Lib.join l andS) andS) (Lib.join l andS) = l
  | [], h, _ => absurd rfl h
  | [x], _, h => by
    have hm : Lib.index x andS = -1 := index_miss [97, 110, 100, 32] (h x (by simp))
    rw [join_single, Lib.count_miss hm]; rfl
  | x :: y :: t, _, h => by
    have ih := split_and (l := y :: t) (by simp) fun p hp => h p (by simp only [List.mem_cons] at hp ⊢; exact .inr hp)
    have hx : Lib.index (x ++ andS ++ Lib.join (y :: t) andS) andS = (x.length : Int) := by
      have := index_hit (c := 32) [97, 110, 100, 32] (s := x) (Lib.join (y :: t) andS) (h x (by simp))
      rw [show x ++ andS ++ Lib.join (y :: t) andS = x ++ 32 :: ([97, 110, 100, 32] ++ Lib.join (y :: t) andS) by simp [andS]]
      exact this
    have hd : (x ++ andS ++ Lib.join (y :: t) andS).drop (x.length + andS.length) = Lib.join (y :: t) andS := by
      rw [show x.length + andS.length = (x ++ andS).length by simp, List.drop_left]
    rw [join_cons, Lib.count_hit (by simp [andS]) hx, hd, Nat.add_comm, Lib.splitK, hx]
    have hn : ¬ ((x.length : Int) == -1) = true := fun e => by have := beq_iff_eq.1 e; omega
    rw [if_neg hn]
    simp only [Int.toNat_natCast, Nat.add_zero]
    rw [hd, ih, List.append_assoc, List.take_left]
def partsQ (t : List UInt8) : List (List UInt8) := Lib.splitK andS 0 (Lib.count t andS) t
/-- Whether the program reads a text as a query, and which. -/
def okQ (t : List UInt8) : Bool := (Lib.cut t ifS).2.2 && (decide ((Lib.cut t ifS).1 = yesS) || allT (cutL 44 (Lib.cut t ifS).1)) && (partsQ (Lib.cut t ifS).2.1).all okA && decide ((partsQ (Lib.cut t ifS).2.1).length ≤ 4)
def rdQ (t : List UInt8) : QueryD := ⟨if (Lib.cut t ifS).1 = yesS then [] else valT (cutL 44 (Lib.cut t ifS).1), (partsQ (Lib.cut t ifS).2.1).map rdA⟩
theorem rdQ_query {q : QueryD} (h : queryFB q = true) : okQ (queryFS q) = true ∧ rdQ (queryFS q) = q := by
  have hc : Lib.cut (queryFS q) ifS = (headS q.head, Lib.join (q.atoms.map atomFS) andS, true) := by
    rw [queryFS_yes h, show headS q.head ++ ifS ++ Lib.join (q.atoms.map atomFS) andS = headS q.head ++ 32 :: ([105, 102, 32] ++ Lib.join (q.atoms.map atomFS) andS) by simp [ifS]]
    exact cut_hit [105, 102, 32] _ headS_no32
  have hp : partsQ (Lib.join (q.atoms.map atomFS) andS) = q.atoms.map atomFS := split_and (atoms_ne h) fun p hp => by
    obtain ⟨a, ha, rfl⟩ := List.mem_map.1 hp
    exact atomFS_no32 (atoms_all h a ha)
  have hv := head_vars (queryFB_parts h).2.1
  have hl := inR_true (queryFB_parts h).1
  have ha : (q.atoms.map atomFS).all okA = true := by
    rw [List.all_eq_true]
    intro p hp
    obtain ⟨a, ha, rfl⟩ := List.mem_map.1 hp
    exact (rdA_atom (atoms_all h a ha)).1
  have hr : (q.atoms.map atomFS).map rdA = q.atoms := by
    rw [List.map_map]
    conv => rhs; rw [← List.map_id q.atoms]
    exact List.map_congr_left fun a ha => (rdA_atom (atoms_all h a ha)).2
  unfold okQ rdQ
  rw [hc]
  simp only [hp, ha, hr, List.length_map]
  have hl4 : decide (q.atoms.length ≤ 4) = true := decide_eq_true (by omega)
  rw [hl4]
  by_cases h0 : q.head.length = 0
  · have e : q.head = [] := List.eq_nil_of_length_eq_zero h0
    have e2 : headS q.head = yesS := by rw [e]; rfl
    obtain ⟨hd, at_⟩ := q
    simp only at e e2 ⊢
    subst e
    simp [e2]
  · obtain ⟨h1, h2⟩ := headS_ne hv h0
    obtain ⟨h3, h4⟩ := allT_term (l := q.head) (by
      rw [List.any_eq_false]
      intro x hx
      simp [isTermB, hv x hx])
    rw [if_neg h1, h2, cut_terms (by omega), h3, h4]
    simp
theorem queryI_no {s : List Int} {t : List UInt8} (h : okQ t = false ∨ queryB s (rdQ t) = false ∨ queryFS (rdQ t) ≠ t) : ∀ n, queryB s n = true → queryFS n ≠ t := by
  intro n h1 e
  obtain ⟨h2, h3⟩ := rdQ_query (query_fmt h1)
  rw [e] at h2 h3
  rw [h2, h3] at h
  rcases h with h | h | h
  · cases h
  · rw [h1] at h; cases h
  · exact h e
end Go.Proofs.YtpdmdfkcaabnaaaGreatDoor
