/- The laws' arguments as they are read off memory: each reading gives a datum of ours. No condition. -/
import Derived.Test.YtpdmdfkcaabnaaaGreatTypes
import Derived.Test.YtpdmdfkcaabnaaaGreatInt
import Derived.ProofKit
import Derived.Deep.Slices
import Derived.Deep.Fields
import Derived.ChangeArms
namespace Go.Proofs.YtpdmdfkcaabnaaaGreat
open Go.RowKit Go.ChangeShapes Go.WideShapes Go.Deep
set_option linter.unusedVariables false
set_option linter.unusedSimpArgs false
/-- What the form reads at type t is one of our data. -/
def Reads {α : Type} (P : Program) (t : TypeId) (R : RdW α) : Prop :=
  ∀ {H : Type} {enc : TypeId × Value → H} {w : World} {fuel : Nat} {cs : List Value} {x : DataW H × List MemPlace}, DataW.trod enc P w 0 (fun _ => true) true fuel t cs = some x → ∃ d, R w cs d
theorem reads_int {P : Program} {t : TypeId} (ht : P.underlying t = some (.int .i64)) : Reads P t intW := by
  intro H enc w fuel cs x h
  obtain ⟨n, rfl, _, hw⟩ := DataW.trod_int ht h
  have hb : -9223372036854775808 ≤ n ∧ n ≤ 9223372036854775807 := by
    simp [Lit.wf, IntKind.min, IntKind.max, IntKind.signed, IntKind.bits] at hw
    omega
  exact ⟨n, rfl, hb⟩
theorem choose_list {α : Type} (n : Nat) (p : Nat → α → Prop) (h : ∀ i, i < n → ∃ d, p i d) : ∃ l : List α, l.length = n ∧ ∀ i (hi : i < l.length), p i l[i] := by
  induction n with
  | zero => exact ⟨[], rfl, fun i hi => by simp at hi⟩
  | succ n ih =>
    obtain ⟨l, hl, hp⟩ := ih fun i hi => h i (by omega)
    obtain ⟨d, hd⟩ := h n (by omega)
    refine ⟨l ++ [d], by simp [hl], fun i hi => ?_⟩
    by_cases hin : i < l.length
    · rw [List.getElem_append_left hin]; exact hp i hin
    · have : i = n := by simp at hi; omega
      subst this
      rw [List.getElem_append_right (by omega)]
      simpa [hl] using hd
theorem reads_slice {α : Type} {P : Program} {t e : TypeId} {sz : Nat} {R : RdW α} (ht : P.underlying t = some (.slice e)) (hsz : P.cellsOf e = sz) (hp : 0 < sz) (he : Reads P e R) : Reads P t (elW sz R) := by
  intro H enc w fuel cs x h
  rcases open_slice ht h with ⟨rfl, _⟩ | ⟨a, len, cap, m, n, D, Pl, rfl, _, hl, hm, hmm, _, hi⟩
  · exact ⟨[], _, rfl, none, 0, rfl, by simp, fun i hi => by simp at hi⟩
  · have hlm : len ≤ m := by simp at hmm; omega
    have key : ∀ i, i < len → ∃ d : α, ∃ b off c, some a = some (⟨b, off, none⟩ : Addr) ∧ c.length = sz ∧ (∀ j u, c[j]? = some u → w.cell? ⟨b, off + i * sz + j, none⟩ = some u) ∧ R w c d := by
      intro i hil
      obtain ⟨c, hc, ht'⟩ := hi i (by omega)
      rw [hsz] at hc
      obtain ⟨_, hcl, hat⟩ := World.cells?_some hc
      obtain ⟨d, hd⟩ := he ht'
      obtain ⟨b, off, spot⟩ := a
      have hspot : spot = none := by
        obtain ⟨c0, hc0, _⟩ := hi 0 (by omega)
        rw [hsz] at hc0
        obtain ⟨_, hcl0, hat0⟩ := World.cells?_some hc0
        have h0 := hat0 0 hp
        have he0 : c0[0]? = some (c0[0]'(by omega)) := List.getElem?_eq_getElem (by omega)
        rw [he0] at h0
        have := World.cell?_spot h0
        simpa [Addr.add] using this
      subst hspot
      refine ⟨d, b, off, c, rfl, hcl, fun j u hj => ?_, hd⟩
      have hjl : j < sz := by have := (List.getElem?_eq_some_iff.1 hj).1; omega
      have := hat j hjl
      rw [hj] at this
      rw [← this]
      rw [Go.WideShapes.add_plain, Go.WideShapes.add_plain]
    obtain ⟨l, hll, hpl⟩ := choose_list len _ key
    refine ⟨l, _, rfl, some a, cap, by rw [hll], by omega, fun i hi => ?_⟩
    exact hpl i hi
theorem struct_cells {P : Program} {t : TypeId} {fs : Array Field} (hs : P.underlying t = some (.struct fs)) (hone : oneCellFields P fs = true) (hC : P.cellsOf t = fs.size)
    {H : Type} {enc : TypeId × Value → H} {w : World} {fuel : Nat} {cs : List Value} {x : DataW H × List MemPlace} (h : DataW.trod enc P w 0 (fun _ => true) true fuel t cs = some x) :
    cs.length = fs.size ∧ ∀ (j : Nat) (f : Field), fs[j]? = some f → ∃ v n y, cs[j]? = some v ∧ DataW.trod enc P w 0 (fun _ => true) true n f.type [v] = some y := by
  obtain ⟨ys, n, _, _, hlen, hyl, hf⟩ := DataW.trod_struct hs h
  refine ⟨by omega, fun j f hj => ?_⟩
  obtain ⟨ho, hk⟩ := hone_of hone j f hj
  have hjl : j < fs.size := (Array.getElem?_eq_some_iff.1 hj).1
  have h1 := hf j f hj
  rw [ho, hk] at h1
  have hone' : (cs.drop j).take 1 = [cs[j]'(by omega)] := by
    rw [List.drop_eq_getElem_cons (by omega)]; rfl
  rw [hone'] at h1
  exact ⟨_, n, ys[j]'(by omega), List.getElem?_eq_getElem (by omega), h1.trans (List.getElem?_eq_getElem (by omega))⟩
theorem cells_of {cs : List Value} {n : Nat} {vs : List Value} (hl : cs.length = n) (hv : vs.length = n) (h : ∀ j, j < n → cs[j]? = vs[j]?) : cs = vs := by
  apply List.ext_getElem?
  intro j
  by_cases hj : j < n
  · exact h j hj
  · rw [List.getElem?_eq_none (by omega), List.getElem?_eq_none (by omega)]
theorem intsO : Reads Tryz.prog 22 intsW := reads_slice Tryz.underlying22 (by kernel_rfl) (by decide) (reads_int Tryz.underlying3)
theorem intssO : Reads Tryz.prog 95 intssW := reads_slice Tryz.underlying95 (by kernel_rfl) (by decide) intsO
theorem atomO : Reads Tryz.prog 71 atomW := by
  intro H enc w fuel cs x h
  obtain ⟨hl, hf⟩ := struct_cells Tryz.underlying71 (by kernel_rfl) (by kernel_rfl) h
  obtain ⟨v0, n0, y0, c0, t0⟩ := hf 0 _ rfl
  obtain ⟨d0, r0⟩ := reads_int Tryz.underlying3 t0
  obtain ⟨e0, i0⟩ := r0
  cases e0
  obtain ⟨v1, n1, y1, c1, t1⟩ := hf 1 _ rfl
  obtain ⟨d1, r1⟩ := intsO t1
  obtain ⟨u1, e1, i1⟩ := r1
  cases e1
  have hcs : cs = [.int .i64 d0, v1] := cells_of (n := 2) hl rfl (fun j hj => by
    match j, hj with
    | 0, _ => exact c0
    | 1, _ => exact c1
    )
  exact ⟨⟨d0, d1⟩, v1, hcs, i0, i1⟩
theorem atomsO : Reads Tryz.prog 24 atomsW := reads_slice Tryz.underlying24 (by kernel_rfl) (by decide) atomO
theorem methO : Reads Tryz.prog 50 methW := by
  intro H enc w fuel cs x h
  obtain ⟨hl, hf⟩ := struct_cells Tryz.underlying50 (by kernel_rfl) (by kernel_rfl) h
  obtain ⟨v0, n0, y0, c0, t0⟩ := hf 0 _ rfl
  obtain ⟨d0, r0⟩ := reads_int Tryz.underlying3 t0
  obtain ⟨e0, i0⟩ := r0
  cases e0
  obtain ⟨v1, n1, y1, c1, t1⟩ := hf 1 _ rfl
  obtain ⟨d1, r1⟩ := intsO t1
  obtain ⟨u1, e1, i1⟩ := r1
  cases e1
  obtain ⟨v2, n2, y2, c2, t2⟩ := hf 2 _ rfl
  obtain ⟨d2, r2⟩ := reads_int Tryz.underlying3 t2
  obtain ⟨e2, i2⟩ := r2
  cases e2
  obtain ⟨v3, n3, y3, c3, t3⟩ := hf 3 _ rfl
  obtain ⟨d3, r3⟩ := reads_int Tryz.underlying3 t3
  obtain ⟨e3, i3⟩ := r3
  cases e3
  obtain ⟨v4, n4, y4, c4, t4⟩ := hf 4 _ rfl
  obtain ⟨d4, r4⟩ := reads_int Tryz.underlying3 t4
  obtain ⟨e4, i4⟩ := r4
  cases e4
  have hcs : cs = [.int .i64 d0, v1, .int .i64 d2, .int .i64 d3, .int .i64 d4] := cells_of (n := 5) hl rfl (fun j hj => by
    match j, hj with
    | 0, _ => exact c0
    | 1, _ => exact c1
    | 2, _ => exact c2
    | 3, _ => exact c3
    | 4, _ => exact c4
    )
  exact ⟨⟨d0, d1, d2, d3, d4⟩, v1, hcs, i0, i2, i3, i4, i1⟩
theorem methsO : Reads Tryz.prog 23 methsW := reads_slice Tryz.underlying23 (by kernel_rfl) (by decide) methO
theorem queryO : Reads Tryz.prog 26 queryW := by
  intro H enc w fuel cs x h
  obtain ⟨hl, hf⟩ := struct_cells Tryz.underlying26 (by kernel_rfl) (by kernel_rfl) h
  obtain ⟨v0, n0, y0, c0, t0⟩ := hf 0 _ rfl
  obtain ⟨d0, r0⟩ := intsO t0
  obtain ⟨u0, e0, i0⟩ := r0
  cases e0
  obtain ⟨v1, n1, y1, c1, t1⟩ := hf 1 _ rfl
  obtain ⟨d1, r1⟩ := atomsO t1
  obtain ⟨u1, e1, i1⟩ := r1
  cases e1
  have hcs : cs = [v0, v1] := cells_of (n := 2) hl rfl (fun j hj => by
    match j, hj with
    | 0, _ => exact c0
    | 1, _ => exact c1
    )
  exact ⟨⟨d0, d1⟩, v0, v1, hcs, i0, i1⟩
end Go.Proofs.YtpdmdfkcaabnaaaGreat
