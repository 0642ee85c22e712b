/- Plain laws of a query's text. No condition. -/
import Derived.Test.YtpdmdfkcaabnaaaGreatDoorMC
import Derived.Test.YtpdmdfkcaabnaaaGreatDoorIsQuery
namespace Go.Proofs.YtpdmdfkcaabnaaaGreatDoor
open Go.RowKit
set_option linter.unusedVariables false
set_option linter.unusedSimpArgs false
def yesS : List UInt8 := [121, 101, 115]
def ifS : List UInt8 := [32, 105, 102, 32]
def andS : List UInt8 := [32, 97, 110, 100, 32]
def headS (l : List Int) : List UInt8 := if l.length = 0 then yesS else termsS l [44]
def queryFB (q : QueryD) : Bool := inR (q.atoms.length : Int) 1 4 && headB q && !(q.atoms.any fun a => !atomFB a)
def queryFS (q : QueryD) : List UInt8 := if queryFB q then headS q.head ++ ifS ++ Lib.join (q.atoms.map atomFS) andS else []
theorem queryFS_no {q : QueryD} (h : queryFB q = false) : queryFS q = [] := by unfold queryFS; rw [h]; rfl
theorem queryFS_yes {q : QueryD} (h : queryFB q = true) : queryFS q = headS q.head ++ ifS ++ Lib.join (q.atoms.map atomFS) andS := by unfold queryFS; rw [h]; rfl
theorem queryFS_len {q : QueryD} (h : inR (q.atoms.length : Int) 1 4 = false) : queryFS q = [] := queryFS_no (by unfold queryFB; rw [h]; rfl)
theorem queryFS_head {q : QueryD} (h : headB q = false) : queryFS q = [] := queryFS_no (by unfold queryFB; rw [h]; simp)
theorem queryFS_atom {q : QueryD} (h : (q.atoms.any fun a => !atomFB a) = true) : queryFS q = [] := queryFS_no (by unfold queryFB; rw [h]; simp)
theorem queryFS_all {q : QueryD} (h : inR (q.atoms.length : Int) 1 4 = true) (h2 : headB q = true) (h3 : (q.atoms.any fun a => !atomFB a) = false) : queryFS q = headS q.head ++ ifS ++ Lib.join (q.atoms.map atomFS) andS := queryFS_yes (by unfold queryFB; rw [h, h2, h3]; rfl)
theorem headB_len {q : QueryD} (h : ¬ (q.head.length : Int) ≤ 3) : headB q = false := by unfold headB; rw [decide_eq_false h]; rfl
theorem headB_any {q : QueryD} (h : (q.head.any fun t => !memB (qvars q) t) = true) : headB q = false := by unfold headB; rw [h]; simp
theorem headB_all {q : QueryD} (h : (q.head.length : Int) ≤ 3) (h2 : (q.head.any fun t => !memB (qvars q) t) = false) : headB q = true := by unfold headB; rw [decide_eq_true h, h2]; rfl
theorem atomFS_nil {x : AtomD} (h : atomFB x = false) : atomFS x = [] := atomFS_no h
theorem atomFS_cons {x : AtomD} (h : atomFB x = true) : ∃ t, atomFS x = 114 :: t := ⟨_, atomFS_yes h⟩
theorem atomFS_len {x : AtomD} (hI : ∀ y ∈ x.terms, I64 y) : (atomFS x).length ≤ 150 := by
  cases h : atomFB x with
  | false => rw [atomFS_no h]; simp
  | true =>
    rw [atomFS_yes h]
    unfold atomFB at h
    simp only [Bool.and_eq_true] at h
    obtain ⟨⟨h1, h2⟩, _⟩ := h
    have h3 := itoa_le (inR_i64 h1 (by omega) (by omega))
    have h4 := inR_true h2
    have h5 := termsS_len [44] hI
    have h6 : x.terms.length * (22 + [(44 : UInt8)].length) ≤ 3 * 23 := Nat.mul_le_mul (by omega) (by simp)
    simp only [List.length_cons, List.length_append, List.length_nil]
    omega
theorem headS_len {l : List Int} (hI : ∀ y ∈ l, I64 y) (hn : l.length ≤ 1048576) : (headS l).length ≤ 24117248 := by
  unfold headS
  split
  · simp [yesS]
  · have h5 := termsS_len [44] hI
    have h6 : l.length * (22 + [(44 : UInt8)].length) ≤ 1048576 * 23 := Nat.mul_le_mul hn (by simp)
    omega
/-- What the reference has after so many atoms. -/
def accQ (q : QueryD) (k : Nat) : List UInt8 := headS q.head ++ ifS ++ Lib.join ((q.atoms.take k).map atomFS) andS
theorem accQ_zero (q : QueryD) : accQ q 0 = headS q.head ++ ifS := by unfold accQ; simp [join_nil]
theorem accQ_first {q : QueryD} (h : 0 < q.atoms.length) : accQ q 0 ++ atomFS q.atoms[0] = accQ q 1 := by
  have := join_take atomFS andS h
  rw [if_pos rfl] at this
  rw [accQ_zero]; unfold accQ; rw [this]
theorem accQ_next {q : QueryD} {k : Nat} (h : k < q.atoms.length) (h0 : k ≠ 0) : accQ q k ++ andS ++ atomFS q.atoms[k] = accQ q (k + 1) := by
  have := join_take atomFS andS h
  rw [if_neg h0] at this
  unfold accQ; rw [this]; simp
theorem accQ_end (q : QueryD) {k : Nat} (h : k = q.atoms.length) : accQ q k = headS q.head ++ ifS ++ Lib.join (q.atoms.map atomFS) andS := by
  subst h; unfold accQ; rw [List.take_length]
theorem accQ_len {q : QueryD} {k : Nat} (hI : ∀ y ∈ q.head, I64 y) (hn : q.head.length ≤ 1048576) (hA : ∀ x ∈ q.atoms, ∀ y ∈ x.terms, I64 y) (h4 : q.atoms.length ≤ 1048576) : (accQ q k).length ≤ 200000000 := by
  have h1 := headS_len hI hn
  have h2 := join_length_le andS 150 ((q.atoms.take k).map atomFS) (by
    intro x hx
    obtain ⟨n, hn, rfl⟩ := List.mem_map.1 hx
    exact atomFS_len (hA n (List.mem_of_mem_take hn)))
  rw [List.length_map] at h2
  have h3 : (q.atoms.take k).length ≤ 1048576 := by rw [List.length_take]; omega
  have h5 : (q.atoms.take k).length * (150 + andS.length) ≤ 1048576 * 155 := Nat.mul_le_mul h3 (by simp [andS])
  unfold accQ
  simp only [List.length_append]
  have h6 : ifS.length = 4 := rfl
  omega
theorem joinQ_len {l : List AtomD} (hA : ∀ x ∈ l, ∀ y ∈ x.terms, I64 y) (h4 : l.length ≤ 1048576) : (Lib.join (l.map atomFS) andS).length ≤ 170000000 := by
  have h2 := join_length_le andS 150 (l.map atomFS) (by
    intro x hx
    obtain ⟨n, hn, rfl⟩ := List.mem_map.1 hx
    exact atomFS_len (hA n hn))
  rw [List.length_map] at h2
  have h5 : l.length * (150 + andS.length) ≤ 1048576 * 155 := Nat.mul_le_mul h4 (by simp [andS])
  omega
theorem any_nil (l : List AtomD) : ((l.map atomFS).any fun y => y.isEmpty) = l.any fun a => !atomFB a := by
  rw [List.any_map]
  congr 1
  funext a
  cases h : atomFB a with
  | false => simp [atomFS_no h]
  | true => obtain ⟨t, e⟩ := atomFS_cons h; simp [e]
end Go.Proofs.YtpdmdfkcaabnaaaGreatDoor
