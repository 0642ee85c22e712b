/- Plain laws: texts are cut into pieces, and a method's own text is read as the method. No condition, no program in sight. -/
import Derived.Test.YtpdmdfkcaabnaaaGreatDoorMB
import Derived.Test.YtpdmdfkcaabnaaaGreatDoorFmtMeth
import Derived.Lib.SplitLaws
namespace Go.Proofs.YtpdmdfkcaabnaaaGreatDoor
open Go.RowKit
set_option linter.unusedVariables false
set_option linter.unusedSimpArgs false
/-- A text cut at a byte: always one piece at least. -/
def cutL (c : UInt8) : List UInt8 → List (List UInt8)
  | [] => [[]]
  | b :: t => if b = c then [] :: cutL c t else match cutL c t with
    | p :: r => (b :: p) :: r
    | [] => [[b]]
theorem cutL_ne (c : UInt8) : ∀ t, cutL c t ≠ []
  | [] => by simp [cutL]
  | b :: t => by
    unfold cutL
    split
    · simp
    · split <;> simp
theorem cutL_len (c : UInt8) : ∀ t, (cutL c t).length ≤ t.length + 1
  | [] => by simp [cutL]
  | b :: t => by
    have ih := cutL_len c t
    unfold cutL
    split
    · simp; omega
    · split
      · rename_i p r h; rw [h] at ih; simp at ih ⊢; omega
      · simp
theorem cutL_piece (c : UInt8) : ∀ t, ∀ p ∈ cutL c t, p.length ≤ t.length
  | [], p, h => by simp [cutL] at h; subst h; simp
  | b :: t, p, h => by
    have ih := cutL_piece c t
    unfold cutL at h
    split at h
    · rcases List.mem_cons.1 h with rfl | h
      · simp
      · have := ih p h; simp; omega
    · split at h
      · rename_i q r hq
        rcases List.mem_cons.1 h with rfl | h
        · have := ih q (by rw [hq]; simp); simp; omega
        · have := ih p (by rw [hq]; simp [h]); simp; omega
      · simp at h; subst h; simp
theorem cutL_sum (c : UInt8) : ∀ t, ((cutL c t).map List.length).sum + (cutL c t).length = t.length + 1
  | [] => by simp [cutL]
  | b :: t => by
    have ih := cutL_sum c t
    unfold cutL
    split
    · simp; omega
    · split
      · rename_i p r h; rw [h] at ih; simp at ih ⊢; omega
      · rename_i h; exact absurd h (cutL_ne c t)
theorem cutL_none {c : UInt8} : ∀ {s : List UInt8}, (∀ b ∈ s, b ≠ c) → cutL c s = [s]
  | [], _ => rfl
  | b :: t, h => by
    have ih := cutL_none (c := c) (s := t) fun x hx => h x (by simp [hx])
    unfold cutL
    rw [if_neg (h b (by simp)), ih]
theorem cutL_sep {c : UInt8} : ∀ {s : List UInt8} (t : List UInt8), (∀ b ∈ s, b ≠ c) → cutL c (s ++ c :: t) = s :: cutL c t
  | [], t, _ => by simp [cutL]
  | b :: s, t, h => by
    have ih := cutL_sep (c := c) (s := s) t fun x hx => h x (by simp [hx])
    rw [List.cons_append]
    rw [show cutL c (b :: (s ++ c :: t)) = (match cutL c (s ++ c :: t) with | p :: r => (b :: p) :: r | [] => [[b]]) from by rw [cutL, if_neg (h b (by simp))]]
    rw [ih]
/-- A step of a walk that goes through the text byte by byte. -/
theorem cutL_snoc {c : UInt8} : ∀ (s : List UInt8) (b : UInt8), cutL c (s ++ [b]) = if b = c then cutL c s ++ [[]] else (cutL c s).dropLast ++ [(cutL c s).getLast (cutL_ne c s) ++ [b]]
  | [], b => by
    simp only [List.nil_append, cutL]
    split <;> simp
  | a :: s, b => by
    have ih := cutL_snoc (c := c) s b
    rw [List.cons_append]
    by_cases ha : a = c
    · subst ha
      rw [show cutL a (a :: (s ++ [b])) = [] :: cutL a (s ++ [b]) from by rw [cutL, if_pos rfl], ih]
      have e2 : cutL a (a :: s) = [] :: cutL a s := by rw [cutL, if_pos rfl]
      simp only [e2]
      split
      · rfl
      · rw [List.dropLast_cons_of_ne_nil (cutL_ne a s), List.getLast_cons (cutL_ne a s)]; rfl
    · cases hs : cutL c s with
      | nil => exact absurd hs (cutL_ne c s)
      | cons p r =>
        have e2 : cutL c (a :: s) = (a :: p) :: r := by rw [cutL, if_neg ha, hs]
        have e1 : cutL c (a :: (s ++ [b])) = (match cutL c (s ++ [b]) with | p :: r => (a :: p) :: r | [] => [[a]]) := by rw [cutL, if_neg ha]
        simp only [hs] at ih
        by_cases hb : b = c
        · rw [if_pos hb] at ih
          rw [e1, ih, if_pos hb, e2]; rfl
        · rw [if_neg hb] at ih
          rw [e1, ih, if_neg hb]
          simp only [e2]
          cases r with
          | nil => simp
          | cons q r => simp
/-- The pieces that are whole behind a text's first bytes, and the one under way. -/
def cutDone (c : UInt8) (s : List UInt8) : List (List UInt8) := (cutL c s).dropLast
def cutLast (c : UInt8) (s : List UInt8) : List UInt8 := (cutL c s).getLast (cutL_ne c s)
theorem cut_all (c : UInt8) (s : List UInt8) : cutL c s = cutDone c s ++ [cutLast c s] := (List.dropLast_concat_getLast (cutL_ne c s)).symm
theorem cut_sep (c : UInt8) (s : List UInt8) : cutDone c (s ++ [c]) = cutDone c s ++ [cutLast c s] ∧ cutLast c (s ++ [c]) = [] := by
  have h := cutL_snoc (c := c) s c
  rw [if_pos rfl] at h
  unfold cutDone cutLast
  simp only [h]
  exact ⟨by rw [List.dropLast_concat]; exact (List.dropLast_concat_getLast (cutL_ne c s)).symm, by simp⟩
theorem cut_more {c b : UInt8} (s : List UInt8) (hb : b ≠ c) : cutDone c (s ++ [b]) = cutDone c s ∧ cutLast c (s ++ [b]) = cutLast c s ++ [b] := by
  have h := cutL_snoc (c := c) s b
  rw [if_neg hb] at h
  unfold cutDone cutLast
  simp only [h]
  simp
theorem cutLast_len (c : UInt8) (s : List UInt8) : (cutLast c s).length ≤ s.length := cutL_piece c s _ (by unfold cutLast; exact List.getLast_mem _)
theorem cutDone_len (c : UInt8) (s : List UInt8) : (cutDone c s).length ≤ s.length := by
  have h := cutL_len c s
  unfold cutDone
  rw [List.length_dropLast]; omega
theorem split_cut (c : UInt8) : ∀ s : List UInt8, Lib.splitK [c] 0 (Lib.count s [c]) s = cutL c s
  | [] => by rw [Lib.count_miss (by simp [Lib.index])]; rfl
  | b :: l => by
    have ih := split_cut c l
    by_cases hb : b = c
    · subst hb
      have hix : Lib.index (b :: l) [b] = ((0 : Nat) : Int) := by rw [Lib.index]; simp [List.isPrefixOf]
      rw [Lib.count_cons_eq, Nat.add_comm, Lib.splitK, hix]
      simp only [cutL, if_pos]
      simp [ih]
    · rw [Lib.count_cons_ne b c l hb]
      have hp : ([c] : List UInt8).isPrefixOf (b :: l) = false := by simp [List.isPrefixOf, Ne.symm hb]
      have hix : Lib.index (b :: l) [c] = if Lib.index l [c] == -1 then -1 else Lib.index l [c] + 1 := by rw [Lib.index, hp]; simp
      have e1 : cutL c (b :: l) = (match cutL c l with | p :: r => (b :: p) :: r | [] => [[b]]) := by rw [cutL, if_neg hb]
      rw [e1, ← ih]
      cases hk : Lib.count l [c] with
      | zero => simp [Lib.splitK]
      | succ k =>
        have hm : Lib.index l [c] ≠ -1 := fun e => by rw [Lib.count_miss e] at hk; omega
        have hge := Lib.index_ge l [c]
        obtain ⟨j, hj⟩ : ∃ j : Nat, Lib.index l [c] = j := ⟨(Lib.index l [c]).toNat, by omega⟩
        have hix' : Lib.index (b :: l) [c] = ((j + 1 : Nat) : Int) := by rw [hix, if_neg (fun e => hm (beq_iff_eq.1 e)), hj]; omega
        have n1 : ¬ ((((j + 1 : Nat) : Int)) == -1) = true := fun e => by have := beq_iff_eq.1 e; omega
        have n2 : ¬ ((j : Int) == -1) = true := fun e => by have := beq_iff_eq.1 e; omega
        rw [Lib.splitK, Lib.splitK, hix', hj, if_neg n1, if_neg n2]
        simp
/-- The number that a text is, if it is a small number's own. -/
def pInt (t : List UInt8) : Option Int := match Lib.atoi t with
  | some n => if decide (-999999999 ≤ n) && (decide (n ≤ 999999999) && decide (Lib.itoa n = t)) then some n else none
  | none => none
theorem pInt_itoa {n : Int} (h0 : -999999999 ≤ n) (h1 : n ≤ 999999999) : pInt (Lib.itoa n) = some n := by
  unfold pInt
  rw [atoi_itoa]
  simp [h0, h1]
theorem pInt_some {t : List UInt8} {n : Int} (h : pInt t = some n) : -999999999 ≤ n ∧ n ≤ 999999999 ∧ Lib.itoa n = t := by
  unfold pInt at h
  split at h
  · split at h
    · rename_i h2
      simp only [Bool.and_eq_true, decide_eq_true_eq] at h2
      cases h
      exact h2
    · cases h
  · cases h
theorem pInt_is (t : List UInt8) : IntIs t ((pInt t).getD 0) (pInt t).isSome := by
  cases h : pInt t with
  | some n =>
    obtain ⟨h0, h1, h2⟩ := pInt_some h
    exact .inl ⟨n, h0, h1, h2, rfl, rfl⟩
  | none =>
    refine .inr ⟨fun n h0 h1 e => ?_, rfl, rfl⟩
    rw [← e, pInt_itoa h0 h1] at h
    cases h
theorem pInt_bd (t : List UInt8) (d : Int) (hd : -999999999 ≤ d ∧ d ≤ 999999999) : -999999999 ≤ (pInt t).getD d ∧ (pInt t).getD d ≤ 999999999 := by
  cases h : pInt t with
  | some n => have := pInt_some h; exact ⟨this.1, this.2.1⟩
  | none => exact hd
/-- As the reference reads a number, and a relation's name. -/
def numV (t : List UInt8) : Int := (pInt t).getD (-100000)
def relV : List UInt8 → Int
  | 114 :: b :: t => numV (b :: t)
  | _ => -1
theorem numV_bd (t : List UInt8) : -999999999 ≤ numV t ∧ numV t ≤ 999999999 := pInt_bd t _ (by omega)
theorem numV_itoa {n : Int} (h0 : -999999999 ≤ n) (h1 : n ≤ 999999999) : numV (Lib.itoa n) = n := by unfold numV; rw [pInt_itoa h0 h1]; rfl
theorem itoa_cons (n : Int) : ∃ b t, Lib.itoa n = b :: t := by
  unfold Lib.itoa
  split
  · exact ⟨_, _, rfl⟩
  · obtain ⟨b, r, h, _⟩ := dec_ne n.toNat; exact ⟨b, r, h⟩
theorem relV_itoa {n : Int} (h0 : -999999999 ≤ n) (h1 : n ≤ 999999999) : relV (114 :: Lib.itoa n) = n := by
  obtain ⟨b, t, h⟩ := itoa_cons n
  have := numV_itoa h0 h1
  rw [h] at this ⊢
  exact this
/-- Which bytes stand in a numeral. -/
theorem itoa_bytes (n : Int) : ∀ b ∈ Lib.itoa n, b = 45 ∨ isDig b = true := by
  intro b hb
  unfold Lib.itoa at hb
  split at hb
  · rcases List.mem_cons.1 hb with rfl | hb
    · exact .inl rfl
    · exact .inr (dec_all _ b hb)
  · exact .inr (dec_all _ b hb)
theorem itoa_no {n : Int} {c : UInt8} (hc : c ≠ 45) (hd : isDig c = false) : ∀ b ∈ Lib.itoa n, b ≠ c := by
  intro b hb e
  subst e
  rcases itoa_bytes n b hb with h | h
  · exact hc h
  · rw [hd] at h; cases h
theorem join_mem {sep : List UInt8} : ∀ {l : List (List UInt8)} {b : UInt8}, b ∈ Lib.join l sep → b ∈ sep ∨ ∃ p ∈ l, b ∈ p
  | [], b, h => by simp [join_nil] at h
  | [x], b, h => by rw [join_single] at h; exact .inr ⟨x, by simp, h⟩
  | x :: y :: t, b, h => by
    rw [join_cons, List.append_assoc] at h
    rcases List.mem_append.1 h with h | h
    · exact .inr ⟨x, by simp, h⟩
    · rcases List.mem_append.1 h with h | h
      · exact .inl h
      · rcases join_mem h with h | ⟨p, hp, h⟩
        · exact .inl h
        · exact .inr ⟨p, by simp [hp], h⟩
theorem cut_join {c : UInt8} : ∀ {l : List (List UInt8)}, l ≠ [] → (∀ p ∈ l, ∀ b ∈ p, b ≠ c) → cutL c (Lib.join l [c]) = l
  | [], h, _ => absurd rfl h
  | [x], _, h => by rw [join_single, cutL_none (h x (by simp))]
  | x :: y :: t, _, h => by
    rw [join_cons, List.append_assoc, List.singleton_append, cutL_sep _ (h x (by simp)), cut_join (by simp) fun p hp => h p (by simp [hp])]
/-- What the reference reads off a method's nine words. -/
def inpV (t : List UInt8) : List Int := if t = [102, 114, 101, 101] then [] else (cutL 44 t).map numV
def mOf (w : List (List UInt8)) : MethD := ⟨relV (w.getD 0 []), inpV (w.getD 2 []), numV (w.getD 4 []), numV (w.getD 6 []), numV (w.getD 8 [])⟩
theorem itoa_space (n : Int) : ∀ b ∈ Lib.itoa n, b ≠ 32 := itoa_no (by decide) (by decide)
theorem inpS_space (l : List Int) : ∀ b ∈ inpS l, b ≠ 32 := by
  intro b hb
  unfold inpS at hb
  split at hb
  · rcases join_mem hb with h | ⟨p, hp, h⟩
    · simp at h; subst h; decide
    · obtain ⟨n, _, rfl⟩ := List.mem_map.1 hp
      exact itoa_space n b h
  · simp at hb
    rcases hb with rfl | rfl | rfl | rfl <;> decide
theorem cut_inp {l : List Int} (h : 0 < l.length) : cutL 44 (listS l [44]) = l.map Lib.itoa := by
  unfold listS
  refine cut_join (by cases l <;> simp at h ⊢) fun p hp b hb => ?_
  obtain ⟨n, _, rfl⟩ := List.mem_map.1 hp
  exact itoa_no (by decide) (by decide) b hb
theorem inp_free {l : List Int} (h : 0 < l.length) : listS l [44] ≠ [102, 114, 101, 101] := by
  intro e
  have h1 := cut_inp h
  rw [e] at h1
  have h2 : cutL 44 [102, 114, 101, 101] = [[102, 114, 101, 101]] := by decide
  rw [h2] at h1
  cases l with
  | nil => simp at h
  | cons n t =>
    simp only [List.map_cons, List.cons.injEq] at h1
    have := itoa_bytes n 102 (by rw [← h1.1]; simp)
    revert this; decide
theorem meth_small {s : List Int} {m : MethD} (h : methFB m = true) : (-999999999 ≤ m.rel ∧ m.rel ≤ 999999999) ∧ (-999999999 ≤ m.limit ∧ m.limit ≤ 999999999) ∧ (-999999999 ≤ m.cost ∧ m.cost ≤ 999999999) ∧ (-999999999 ≤ m.quota ∧ m.quota ≤ 999999999) ∧ ∀ i ∈ m.inputs, -999999999 ≤ i ∧ i ≤ 999999999 := by
  obtain ⟨h1, h2, h3, h4⟩ := methFB_nums h
  have h1 := inR_true h1
  have h2 := inR_true h2
  have h3 := inR_true h3
  have h4 := inR_true h4
  refine ⟨by omega, by omega, by omega, by omega, fun i hi => ?_⟩
  unfold methFB fitsB at h
  simp only [Bool.and_eq_true, Bool.not_eq_true', List.any_eq_false] at h
  have h5 := h.2.1.2 i hi
  have h6 : inR i 0 (3 - 1) = true := by simpa using h5
  have := inR_true h6
  omega
/-- The words of a method's text. -/
theorem cut_meth {m : MethD} (h : methFB m = true) : cutL 32 (methFS m) = [114 :: Lib.itoa m.rel, [105, 110], inpS m.inputs, [108, 105, 109, 105, 116], Lib.itoa m.limit, [99, 111, 115, 116], Lib.itoa m.cost, [113, 117, 111, 116, 97], Lib.itoa m.quota] := by
  rw [methFS_yes h]
  have e : (114 :: (Lib.itoa m.rel ++ ([32, 105, 110, 32] ++ (inpS m.inputs ++ ([32, 108, 105, 109, 105, 116, 32] ++ (Lib.itoa m.limit ++ ([32, 99, 111, 115, 116, 32] ++ (Lib.itoa m.cost ++ ([32, 113, 117, 111, 116, 97, 32] ++ Lib.itoa m.quota))))))))) = (114 :: Lib.itoa m.rel) ++ 32 :: ([105, 110] ++ 32 :: (inpS m.inputs ++ 32 :: ([108, 105, 109, 105, 116] ++ 32 :: (Lib.itoa m.limit ++ 32 :: ([99, 111, 115, 116] ++ 32 :: (Lib.itoa m.cost ++ 32 :: ([113, 117, 111, 116, 97] ++ 32 :: Lib.itoa m.quota))))))) := by simp
  rw [e]
  rw [cutL_sep _ (by intro b hb; rcases List.mem_cons.1 hb with rfl | hb
                     · decide
                     · exact itoa_space _ b hb), cutL_sep _ (by decide), cutL_sep _ (inpS_space _), cutL_sep _ (by decide), cutL_sep _ (itoa_space _), cutL_sep _ (by decide), cutL_sep _ (itoa_space _), cutL_sep _ (by decide), cutL_none (itoa_space _)]
theorem map_num {l : List Int} (h : ∀ i ∈ l, -999999999 ≤ i ∧ i ≤ 999999999) : (l.map Lib.itoa).map numV = l := by
  rw [List.map_map]
  conv => rhs; rw [← List.map_id l]
  exact List.map_congr_left fun i hi => numV_itoa (h i hi).1 (h i hi).2
theorem inpV_inpS {l : List Int} (h : ∀ i ∈ l, -999999999 ≤ i ∧ i ≤ 999999999) : inpV (inpS l) = l := by
  unfold inpV inpS
  by_cases hl : 0 < l.length
  · rw [if_pos hl, if_neg (inp_free hl), cut_inp hl, map_num h]
  · rw [if_neg hl, if_pos rfl]; cases l <;> simp at hl ⊢
theorem mOf_meth {m : MethD} (h : methFB m = true) : mOf (cutL 32 (methFS m)) = m := by
  obtain ⟨h1, h2, h3, h4, h5⟩ := meth_small (s := []) h
  rw [cut_meth h]
  unfold mOf
  simp only [List.getD_cons_zero, List.getD_cons_succ, relV_itoa h1.1 h1.2, numV_itoa h2.1 h2.2, numV_itoa h3.1 h3.2, numV_itoa h4.1 h4.2, inpV_inpS h5]
/-- What parsing a method's text comes to: the method that has the text, if there is one. -/
def MethIs (s : List Int) (t : List UInt8) (m : MethD) (k : Bool) : Prop := (methB s m = true ∧ methFB m = true ∧ methFS m = t ∧ k = true) ∨ ((∀ n, methB s n = true → methFB n = true → methFS n ≠ t) ∧ m = ⟨0, [], 0, 0, 0⟩ ∧ k = false)
theorem MethIs.one {s : List Int} {t : List UInt8} {m m' : MethD} {k k' : Bool} (h : MethIs s t m k) (g : MethIs s t m' k') : m = m' ∧ k = k' := by
  rcases h with ⟨a, b, c, rfl⟩ | ⟨hn, rfl, rfl⟩ <;> rcases g with ⟨a', b', c', rfl⟩ | ⟨hn', rfl, rfl⟩
  · have e := mOf_meth b
    have e' := mOf_meth b'
    rw [c] at e; rw [c'] at e'
    exact ⟨e.symm.trans e', rfl⟩
  · exact absurd c (hn' _ a b)
  · exact absurd c' (hn _ a' b')
  · exact ⟨rfl, rfl⟩
theorem fs_ne {m : MethD} (h : methFB m = false) {t : List UInt8} (ht : t ≠ []) : methFS m ≠ t := by rw [methFS_no h]; exact fun e => ht e.symm
/-- Nine words there must be. -/
theorem meth_words {n : MethD} {t : List UInt8} (h : methFB n = true) (e : methFS n = t) : (cutL 32 t).length = 9 ∧ mOf (cutL 32 t) = n := by
  subst e
  exact ⟨by rw [cut_meth h]; rfl, mOf_meth h⟩
end Go.Proofs.YtpdmdfkcaabnaaaGreatDoor
