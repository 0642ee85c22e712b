/- How great an answer with a choice is. No condition. -/
import Derived.Test.YtjjkfhjkfoikbaaRespT
import Derived.Test.YtjjkfhjkfoikbaaMatB
namespace Go.Proofs.Ytjjkfhjkfoikbaa
set_option linter.unusedVariables false
theorem cntFact_mem {fa : List FactD} (h : bulkFactS fa ≤ 1048576) {y : FactD} (hy : y ∈ fa) : cntFact y ≤ 1048577 := by
  have h1 := sum_ge_mem (f := cntFact) hy
  have h2 := cntFactS_bulk h
  omega
theorem respS_cnt {fa X : List FactD} (h : bulkFactS fa ≤ 1048576) (hX : ∀ y ∈ X, y ∈ fa) (h0 : 0 < X.length) (k j : Nat) : ((respS X k j).map cntFact).sum ≤ j * 1048577 := by
  induction j with
  | zero => simp [respS]
  | succ j ih =>
    unfold respS addFactL
    have hw : winAt X.length k j < X.length := Nat.mod_lt _ h0
    have h1 := sum_addC cmpFact cntFact (respS X k j) (X.getD (winAt X.length k j) ⟨0, []⟩)
    have h2 := cntFact_mem h (hX _ (List.getElem_mem hw))
    rw [getD_lt hw] at h1 ⊢
    rw [Nat.succ_mul]
    omega
theorem respondL_cnt {s : List Int} {l : List MethD} {fa : List FactD} {a : AccD} {c : Int} (h : bulkFactS fa ≤ 1048576) : ((respondL s l fa a c).map cntFact).sum ≤ 10000000 := by
  by_cases hX : matchesL s l fa a = []
  · rw [respondL_none hX]; simp
  · obtain ⟨hA, hF⟩ := matchesL_valid hX
    obtain ⟨q, hm, hq, hmb, _, _⟩ := fit_of hA
    obtain ⟨L, hL, hL9⟩ := limit_of hmb
    have h0 : 0 < (matchesL s l fa a).length := by
      cases h : matchesL s l fa a with
      | nil => exact absurd h hX
      | cons _ _ => simp
    have hmt : methAt l a.meth = l[q] := by unfold methAt; rw [hm, Int.toNat_natCast, getD_lt hq]
    have h1 := matchesL_cnt (s := s) (l := l) (a := a) h
    unfold respondL
    split
    · omega
    · rw [hmt, hL, Int.toNat_natCast]
      have h2 := respS_cnt h (matchesL_sub (s := s) (l := l) (a := a)) h0 (c.toNat % (matchesL s l fa a).length) L
      have h3 := Nat.mul_le_mul_right 1048577 hL9
      omega
end Go.Proofs.Ytjjkfhjkfoikbaa
