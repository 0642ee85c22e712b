/- Several of my texts as one: ParMS, RespL, DelL, InsL, CopyF, Del, MatA, Resp, RespT. -/
import Derived.Test.YtpdmdfkcaabnaaaGreatDoorMT
import Derived.Test.YtpdmdfkcaabnaaaGreatDoorSX
import Derived.Test.YtpdmdfkcaabnaaaGreatDoorIsMeth
import Derived.Test.YtpdmdfkcaabnaaaGreatDoorFmtMeth
import Derived.Deep.RegionHeld3
import Derived.Deep.RegionLaw
import Derived.Laws.ResultCell
import Derived.Deep.Cut
import Derived.Deep.CutRange
import Derived.Test.YtpdmdfkcaabnaaaGreatDoorMatchesL
import Derived.Test.YtpdmdfkcaabnaaaGreatDoorOrder
import Derived.Test.YtpdmdfkcaabnaaaGreatDoorMB
import Derived.Laws.CopyOwn
import Derived.Lib.AppendZerosOnto
import Derived.Lib.Overlaps
import Derived.Test.YtpdmdfkcaabnaaaGreatDoorCopy
import Derived.Test.YtpdmdfkcaabnaaaGreatDoorMC
import Derived.StillTailTactics
import Derived.WalkSpells
import Derived.Test.YtpdmdfkcaabnaaaGreatDoorMSpec
import Derived.Test.YtpdmdfkcaabnaaaGreatDoorIdxS
import Derived.Test.YtpdmdfkcaabnaaaGreatDoorCost
import Derived.Test.YtpdmdfkcaabnaaaGreatDoorAreFacts
import Derived.Test.YtpdmdfkcaabnaaaGreatDoorIsAccess
import Derived.IntWalk
import Derived.Test.YtpdmdfkcaabnaaaGreatDoorAddS
/- ParseMethod of the reference: it returns what 'MethIs' says. Condition: the text is no longer than 2^20. -/
namespace Go.Proofs.YtpdmdfkcaabnaaaGreatDoor
open Go.RowKit
set_option linter.unusedVariables false
set_option linter.unusedSimpArgs false
theorem strs_at2 {B : Nat} {w : World} {g cap n : Nat} {l : List (List UInt8)} {f : List Nat} (h : grR 9 1 strR B w (.slice (some ⟨g, 0, none⟩) n cap) l f) (hn : n = l.length) (k : Nat) (hk : k < l.length) : w.cell? ⟨g, k, none⟩ = some (.string ⟨l[k].toArray⟩) := by
  have h1 := (strs_cells h hn).1 k ⟨l[k].toArray⟩ (by simp [hk])
  rwa [Nat.zero_add] at h1
theorem nine {l : List (List UInt8)} (h : l.length = 9) : ∃ a b c d e f g i j, l = [a, b, c, d, e, f, g, i, j] := by
  match l, h with
  | [a, b, c, d, e, f, g, i, j], _ => exact ⟨a, b, c, d, e, f, g, i, j, rfl⟩
/-- What parsing a method ends in. -/
def PmEnd (s : List Int) (t : List UInt8) (w : World) (e : Ending) (w' : World) : Prop :=
  ∃ (m : MethD) (k : Bool) (vi : Value) (fi : List Nat), e = .returned (.tuple #[.agg #[.int .i64 m.rel, vi, .int .i64 m.limit, .int .i64 m.cost, .int .i64 m.quota], .bool k]) ∧ MethIs s t m k ∧ ints w' vi m.inputs fi ∧ Fresh w.heap.size fi ∧ Below w.heap.size w w'
theorem PmEnd.no {s : List Int} {t : List UInt8} {w : World} {e : Ending} {w' : World} (he : e = .returned (.tuple #[.agg #[.int .i64 0, .slice none 0 0, .int .i64 0, .int .i64 0, .int .i64 0], .bool false])) (h : ∀ n, methB s n = true → methFB n = true → methFS n ≠ t) (hb : Below w.heap.size w w') : PmEnd s t w e w' :=
  ⟨⟨0, [], 0, 0, 0⟩, false, _, [], he, .inr ⟨h, rfl, rfl⟩, slR.nilv _ _ _ _, Fresh.nil _, hb⟩
theorem PmEnd.yes {s : List Int} {t : List UInt8} {w : World} {e : Ending} {w' : World} (m : MethD) (vi : Value) (fi : List Nat) (he : e = .returned (.tuple #[.agg #[.int .i64 m.rel, vi, .int .i64 m.limit, .int .i64 m.cost, .int .i64 m.quota], .bool true])) (h : methB s m = true) (h2 : methFB m = true) (h3 : methFS m = t) (hi : ints w' vi m.inputs fi) (hf : Fresh w.heap.size fi) (hb : Below w.heap.size w w') : PmEnd s t w e w' :=
  ⟨m, true, vi, fi, he, .inl ⟨h, h2, h3, rfl⟩, hi, hf, hb⟩
theorem load5 {P : Program} {w : World} {g ty : Nat} {a b c d e : Value} {ds : TypeDesc} (h : Five w g a b c d e)
    (hu : P.underlying ty = some ds) (hd : (match ds with | .struct _ | .array _ _ => true | _ => false) = true) (hi : (P.info? ty).map (·.size) = some 5) :
    (loadVar ty ⟨g, 0, none⟩).run P w = .ok (.agg #[a, b, c, d, e]) w := by
  obtain ⟨⟨h0, h1, h2, h3, h4⟩, _⟩ := h
  have hl : (loadCells ⟨g, 0, none⟩ 5).run P w = .ok #[a, b, c, d, e] w :=
    run_loadCells_list (P := P) w ⟨g, 0, none⟩ [a, b, c, d, e] (fun j v hv => by
      have hadd : (⟨g, 0, none⟩ : Addr).add j = ⟨g, j, none⟩ := by unfold Addr.add; split <;> simp_all
      rw [hadd]
      match j, hv with
      | 0, hv => simp at hv; rw [h0, hv]
      | 1, hv => simp at hv; rw [h1, hv]
      | 2, hv => simp at hv; rw [h2, hv]
      | 3, hv => simp at hv; rw [h3, hv]
      | 4, hv => simp at hv; rw [h4, hv])
  cases hq : P.info? ty with
  | none => simp [hq] at hi
  | some i =>
    have hs : i.size = 5 := by simpa [hq] using hi
    have hagg : (isAgg ty).run P w = .ok true w := by
      unfold isAgg
      rw [Sem.run_bind, run_underlying hu w]
      cases ds <;> simp_all
    simp [loadVar, Sem.run_bind, hagg, sizeOf, typeInfo, hq, hs, hl]
theorem load_meth {w : World} {g : Nat} {a b c d e : Value} (h : Five w g a b c d e) : (loadVar 38 ⟨g, 0, none⟩).run Tryz.prog w = .ok (.agg #[a, b, c, d, e]) w := load5 h Tryz.underlying38 rfl (by kernel_rfl)
theorem load_set5 {w : World} {g : Nat} {a b c d e : Value} (h : Five w g a b c d e) (a' b' c' d' e' : Value) : (loadVar 38 ⟨g, 0, none⟩).run Tryz.prog (((((w.setCell ⟨g, 0, none⟩ a').setCell ⟨g, 1, none⟩ b').setCell ⟨g, 2, none⟩ c').setCell ⟨g, 3, none⟩ d').setCell ⟨g, 4, none⟩ e') = .ok (.agg #[a', b', c', d', e']) (((((w.setCell ⟨g, 0, none⟩ a').setCell ⟨g, 1, none⟩ b').setCell ⟨g, 2, none⟩ c').setCell ⟨g, 3, none⟩ d').setCell ⟨g, 4, none⟩ e') := load_meth (h.set a' b' c' d' e')
theorem keep5 {w : World} {g g' k : Nat} {a b c d e v : Value} (h : w.cell? ⟨g, k, none⟩ = some v) (hne : g' ≠ g) : (((((w.setCell ⟨g', 0, none⟩ a).setCell ⟨g', 1, none⟩ b).setCell ⟨g', 2, none⟩ c).setCell ⟨g', 3, none⟩ d).setCell ⟨g', 4, none⟩ e).cell? ⟨g, k, none⟩ = some v :=
  SX.cell (SX.set5 (w := w) g' a b c d e) h (by simpa using fun e => hne e.symm)
theorem five_of {w w' : World} {T : TypeId} {a b c d e : Value} (hb : Below (w.alloc (.cells #[a, b, c, d, e] T)).heap.size (w.alloc (.cells #[a, b, c, d, e] T)) w') : Five w' w.heap.size a b c d e := (Five.new w T a b c d e).below hb
theorem five_of_d {w w' : World} {T : TypeId} {a b c d e : Value} (hb : Below (w.alloc (.cells #[a, b, c, d, e] T)).drew.heap.size (w.alloc (.cells #[a, b, c, d, e] T)).drew w') : Five w' w.heap.size a b c d e := (show Five (w.alloc (.cells #[a, b, c, d, e] T)).drew w.heap.size a b c d e from Five.new w T a b c d e).below hb
/-- The box of what is read so far. -/
def PmBox (w1 : World) (r l c q : Int) (bx : Value) (wx : World) : Prop := ∃ g, bx = .pointer (some ⟨g, 0, none⟩) ∧ Five wx g (.int .i64 r) (.slice none 0 0) (.int .i64 l) (.int .i64 c) (.int .i64 q) ∧ w1.heap.size ≤ g ∧ Below w1.heap.size w1 wx
theorem PmBox.new {w1 w5 : World} {r l c q : Int} {T : TypeId} (hb : Below w1.heap.size w1 w5) : PmBox w1 r l c q (.pointer (some ⟨w5.heap.size, 0, none⟩)) (w5.alloc (.cells #[.int .i64 r, .slice none 0 0, .int .i64 l, .int .i64 c, .int .i64 q] T)) :=
  ⟨_, rfl, Five.new _ _ _ _ _ _ _, hb.size, ba hb⟩
theorem PmBox.set {w1 w5 : World} {r l c q : Int} {g : Nat} {x0 x1 x2 x3 x4 : Value} (F : Five w5 g x0 x1 x2 x3 x4) (hb : Below w1.heap.size w1 w5) (hg : w1.heap.size ≤ g) : PmBox w1 r l c q (.pointer (some ⟨g, 0, none⟩)) (((((w5.setCell ⟨g, 0, none⟩ (.int .i64 r)).setCell ⟨g, 1, none⟩ (.slice none 0 0)).setCell ⟨g, 2, none⟩ (.int .i64 l)).setCell ⟨g, 3, none⟩ (.int .i64 c)).setCell ⟨g, 4, none⟩ (.int .i64 q)) :=
  ⟨g, rfl, F.set _ _ _ _ _, hg, below_set5 hb hg _ _ _ _ _⟩
theorem ints_set5 {w : World} {v : Value} {l : List Int} {f : List Nat} {g : Nat} (h : ints w v l f) (hg : g ∉ f) (a b c d e : Value) : ints (set5 w g a b c d e) v l f := ((((h.far hg a).far hg b).far hg c).far hg d).far hg e
theorem SX.of_grownM {w w' : World} {o : Option Nat} (h : w.grownBy w' o) : SX o.toList w w' := ⟨h.size, fun j hj hn => h.block j hj (by intro e; subst e; simp at hn)⟩
theorem own_notM {o : Option Nat} {B g : Nat} (h : ∀ j, o = some j → B ≤ j) (hg : g < B) : g ∉ o.toList := by
  intro hm
  cases o with
  | none => simp at hm
  | some j => simp at hm; subst hm; have := h _ rfl; omega
theorem gr_baseM {α : Type} {E : TypeId} {sz B : Nat} {R : Rd α} {w : World} {v : Value} {l : List α} {f : List Nat} (h : grR E sz R B w v l f) : ∀ j, v.ownBlock = some j → B ≤ j := by
  obtain ⟨_, _, _, _, ho, _, _⟩ := h
  exact fun j hj => (own_lt ho j hj).1
theorem arr_szM (l : List UInt8) (h : l.length ≤ 1048576) : (⟨l.toArray⟩ : ByteArray).size ≤ 1048576 := by simpa [ByteArray.size] using h
/-- What the reference reads off nine words comes to 'MethIs'. -/
theorem pm_yes {s : List Int} {t : List UInt8} {W : List (List UInt8)} (hW : cutL 32 t = W) (h9 : W.length = 9) (h2 : methFS (mOf W) = t) : methFB (mOf W) = true := by
  cases h : methFB (mOf W) with
  | true => rfl
  | false =>
    rw [methFS_no h] at h2
    subst h2
    rw [← hW] at h9
    simp [cutL] at h9
theorem pm_no {s : List Int} {t : List UInt8} {W : List (List UInt8)} (hW : cutL 32 t = W) (h : methB s (mOf W) = false ∨ methFS (mOf W) ≠ t) : ∀ n, methB s n = true → methFB n = true → methFS n ≠ t := by
  intro n h1 h2 e
  have h3 := (meth_words h2 e).2
  rw [hW] at h3
  rw [h3] at h
  rcases h with h | h
  · rw [h] at h1; cases h1
  · exact h e
end Go.Proofs.YtpdmdfkcaabnaaaGreatDoor
/- Plain: what a source tells with a choice: the reference adds the facts of a window one by one, the program strikes what lies outside of it. No condition. -/
namespace Go.Proofs.YtpdmdfkcaabnaaaGreatDoor
set_option linter.unusedVariables false
set_option linter.unusedSimpArgs false
/-- The place of the j-th fact of a window that begins at k. -/
def winAt (n k j : Nat) : Nat := (k + j) % n
/-- Does a window of L places that begins at k hold place i. -/
def inWin (n k L i : Nat) : Bool := decide ((i + n - k) % n < L)
theorem win_iff {n k L i : Nat} (hk : k < n) (hL : L ≤ n) (hi : i < n) : inWin n k L i = true ↔ ∃ j, j < L ∧ winAt n k j = i := by
  unfold inWin winAt
  rw [decide_eq_true_eq]
  constructor
  · intro h
    refine ⟨(i + n - k) % n, h, ?_⟩
    by_cases hik : k ≤ i
    · rw [show i + n - k = (i - k) + n by omega, Nat.add_mod_right, Nat.mod_eq_of_lt (show i - k < n by omega), show k + (i - k) = i by omega, Nat.mod_eq_of_lt hi]
    · rw [Nat.mod_eq_of_lt (show i + n - k < n by omega), show k + (i + n - k) = i + n by omega, Nat.add_mod_right, Nat.mod_eq_of_lt hi]
  · rintro ⟨j, hj, h⟩
    by_cases hkj : k + j < n
    · rw [Nat.mod_eq_of_lt hkj] at h
      rw [show i + n - k = j + n by omega, Nat.add_mod_right, Nat.mod_eq_of_lt (show j < n by omega)]; exact hj
    · rw [show k + j = (k + j - n) + n by omega, Nat.add_mod_right, Nat.mod_eq_of_lt (show k + j - n < n by omega)] at h
      rw [show i + n - k = j by omega, Nat.mod_eq_of_lt (show j < n by omega)]; exact hj
/-- The facts of the first j places of a window, added one by one. -/
def respS (x : List FactD) (k : Nat) : Nat → List FactD
  | 0 => []
  | j + 1 => addFactL (respS x k j) (x.getD (winAt x.length k j) ⟨0, []⟩)
/-- The facts of the first i places that lie in a window. -/
def respI (x : List FactD) (k L : Nat) (i : Nat) : List FactD := ((List.range i).filter (inWin x.length k L)).map fun t => x.getD t ⟨0, []⟩
theorem respS_mem {x : List FactD} {k : Nat} (j : Nat) (y : FactD) : y ∈ respS x k j ↔ ∃ t, t < j ∧ y = x.getD (winAt x.length k t) ⟨0, []⟩ := by
  induction j with
  | zero => simp [respS]
  | succ j ih =>
    unfold respS addFactL
    rw [addC_mem cmp_facts, ih]
    constructor
    · rintro (⟨t, ht, h⟩ | h)
      · exact ⟨t, by omega, h⟩
      · exact ⟨j, by omega, h⟩
    · rintro ⟨t, ht, h⟩
      by_cases e : t = j
      · subst e; exact .inr h
      · exact .inl ⟨t, by omega, h⟩
theorem respS_asc (x : List FactD) (k j : Nat) : AscC cmpFact (respS x k j) := by
  induction j with
  | zero => exact List.Pairwise.nil
  | succ j ih => exact addC_asc cmp_facts ih
theorem respS_length (x : List FactD) (k j : Nat) : (respS x k j).length ≤ j := by
  induction j with
  | zero => simp [respS]
  | succ j ih =>
    unfold respS addFactL addC
    split
    · omega
    · rw [insF_length]; omega
theorem respI_zero (x : List FactD) (k L : Nat) : respI x k L 0 = [] := rfl
theorem respI_yes {x : List FactD} {k L i : Nat} (hi : i < x.length) (h : inWin x.length k L i = true) : respI x k L (i + 1) = respI x k L i ++ [x[i]] := by
  unfold respI; rw [List.range_succ, List.filter_append, List.map_append]; simp [h, List.getElem?_eq_getElem hi]
theorem respI_no {x : List FactD} {k L i : Nat} (h : inWin x.length k L i = false) : respI x k L (i + 1) = respI x k L i := by
  unfold respI; rw [List.range_succ, List.filter_append, List.map_append]; simp [h]
theorem respI_length (x : List FactD) (k L i : Nat) : (respI x k L i).length ≤ i := by
  unfold respI; rw [List.length_map]; exact Nat.le_trans (List.length_filter_le _ _) (by simp)
theorem resp_eq {x : List FactD} {k L : Nat} (ha : AscC cmpFact x) (hk : k < x.length) (hL : L ≤ x.length) : respS x k L = respI x k L x.length := by
  refine AscC.ext cmp_facts (respS_asc x k L) ?_ fun y => ?_
  · unfold respI AscC
    rw [List.pairwise_map]
    refine List.Pairwise.imp_of_mem ?_ ((List.pairwise_lt_range (n := x.length)).filter _)
    intro a b ha' hb' hab
    rw [List.mem_filter, List.mem_range] at ha' hb'
    rw [getD_lt ha'.1, getD_lt hb'.1]
    exact List.pairwise_iff_getElem.1 ha a b ha'.1 hb'.1 hab
  · rw [respS_mem]
    unfold respI
    rw [List.mem_map]
    have hw : ∀ t, winAt x.length k t < x.length := fun t => Nat.mod_lt _ (by omega)
    constructor
    · rintro ⟨t, ht, rfl⟩
      exact ⟨winAt x.length k t, by rw [List.mem_filter, List.mem_range]; exact ⟨hw t, (win_iff hk hL (hw t)).2 ⟨t, ht, rfl⟩⟩, rfl⟩
    · rintro ⟨i, hi, rfl⟩
      rw [List.mem_filter, List.mem_range] at hi
      obtain ⟨t, ht, rfl⟩ := (win_iff hk hL hi.1).1 hi.2
      exact ⟨t, ht, rfl⟩
theorem factsB_filter {s : List Int} {l : List FactD} (h : factsB s l = true) (p : FactD → Bool) : AscC cmpFact (l.filter p) := List.Pairwise.filter p (factsB_asc h)
/-- What both return. -/
def respondL (s : List Int) (l : List MethD) (fa : List FactD) (a : AccD) (c : Int) : List FactD :=
  if (matchesL s l fa a).length = 0 ∨ (methAt l a.meth).limit = 0 ∨ ((matchesL s l fa a).length : Int) ≤ (methAt l a.meth).limit then matchesL s l fa a
  else respS (matchesL s l fa a) (c.toNat % (matchesL s l fa a).length) (methAt l a.meth).limit.toNat
theorem methAt_nat' {l : List MethD} {k : Nat} {vals : List Int} (h : k < l.length) : methAt l (AccD.meth ⟨(k : Int), vals⟩) = l[k] := by unfold methAt; rw [Int.toNat_natCast, getD_lt h]
theorem respondL_none {s : List Int} {l : List MethD} {fa : List FactD} {a : AccD} {c : Int} (h : matchesL s l fa a = []) : respondL s l fa a c = [] := by unfold respondL; rw [h]; rfl
section
variable {s : List Int} {l : List MethD} {fa : List FactD} {vals : List Int} {q : Nat} {c : Int} {x : List FactD} {L : Nat}
theorem respondL_all (hq : q < l.length) (hx : matchesL s l fa ⟨q, vals⟩ = x) (hL : l[q].limit = (L : Int)) (h : L = 0 ∨ x.length ≤ L) : respondL s l fa ⟨q, vals⟩ c = x := by
  unfold respondL
  rw [hx, methAt_nat' hq, hL, if_pos]
  rcases h with h | h
  · exact .inr (.inl (by omega))
  · exact .inr (.inr (by omega))
theorem respondL_win (hq : q < l.length) (hx : matchesL s l fa ⟨q, vals⟩ = x) (hL : l[q].limit = (L : Int)) (h0 : L ≠ 0) (h : ¬ x.length ≤ L) : respondL s l fa ⟨q, vals⟩ c = respS x (c.toNat % x.length) L := by
  unfold respondL
  rw [hx, methAt_nat' hq, hL, if_neg]
  · simp
  · rintro (h1 | h1 | h1) <;> omega
end
theorem limit_of {s : List Int} {m : MethD} (h : methB s m = true) : ∃ L : Nat, m.limit = (L : Int) ∧ L ≤ 9 := by
  unfold methB fitsB numsB at h
  simp only [Bool.and_eq_true] at h
  have h1 := inR_true h.2.2.1.1
  obtain ⟨L, hL⟩ := Int.eq_ofNat_of_zero_le h1.1
  exact ⟨L, hL, by omega⟩
end Go.Proofs.YtpdmdfkcaabnaaaGreatDoor
/- A slice of facts of the call's own, of which some are struck in place. Over any program; no condition. -/
namespace Go.Proofs.YtpdmdfkcaabnaaaGreatDoor
open Go.RowKit
set_option linter.unusedVariables false
set_option linter.unusedSimpArgs false
section
variable {α : Type}
/-- A row's cells, what they read as, and the blocks that they lead to. -/
abbrev Tri (α : Type) := List Value × α × List Nat
theorem All.zip {R : Rd α} {w : World} {rows : List (List Value)} {l : List α} {fs : List (List Nat)} (h : All R w rows l fs) : ∃ z : List (Tri α), rows = z.map (·.1) ∧ l = z.map (·.2.1) ∧ fs = z.map (·.2.2) ∧ ∀ t ∈ z, R w t.1 t.2.1 t.2.2 := by
  induction h with
  | nil => exact ⟨[], rfl, rfl, rfl, by simp⟩
  | @cons c d f cs ds fs h1 _ ih =>
    obtain ⟨z, rfl, rfl, rfl, h⟩ := ih
    refine ⟨(c, d, f) :: z, rfl, rfl, rfl, fun t ht => ?_⟩
    rcases List.mem_cons.1 ht with rfl | ht
    · exact h1
    · exact h t ht
theorem All.unzip {R : Rd α} {w : World} : ∀ z : List (Tri α), (∀ t ∈ z, R w t.1 t.2.1 t.2.2) → All R w (z.map (·.1)) (z.map (·.2.1)) (z.map (·.2.2))
  | [], _ => .nil
  | t :: z, h => .cons (h t (by simp)) (All.unzip z fun t ht => h t (by simp [ht]))
theorem nodup_sub {z z' : List (Tri α)} (h : z'.Sublist z) (hn : (z.map (·.2.2)).flatten.Nodup) : (z'.map (·.2.2)).flatten.Nodup := by
  have hs := h.map (·.2.2)
  unfold List.Nodup at hn ⊢
  rw [List.pairwise_flatten] at hn ⊢
  exact ⟨fun l hl => hn.1 l (hs.subset hl), hn.2.sublist hs⟩
theorem flat_sub {z z' : List (Tri α)} (h : z'.Sublist z) : ∀ g ∈ (z'.map (·.2.2)).flatten, g ∈ (z.map (·.2.2)).flatten := by
  intro g hg
  obtain ⟨f, hf, hgf⟩ := List.mem_flatten.1 hg
  exact List.mem_flatten.2 ⟨f, (h.map (·.2.2)).subset hf, hgf⟩
/-- What is kept of the first j. -/
def keptT (q : α → Bool) (z : List (Tri α)) (j : Nat) : List (Tri α) := (z.take j).filter fun t => q t.2.1
theorem keptT_sub (q : α → Bool) (z : List (Tri α)) (j : Nat) : (keptT q z j).Sublist z := (List.filter_sublist (l := z.take j)).trans (List.take_sublist j z)
theorem keptT_yes {q : α → Bool} {z : List (Tri α)} {j : Nat} (hj : j < z.length) (h : q z[j].2.1 = true) : keptT q z (j + 1) = keptT q z j ++ [z[j]] := by
  unfold keptT; rw [List.take_succ_eq_append_getElem hj, List.filter_append]; simp [h]
theorem keptT_no {q : α → Bool} {z : List (Tri α)} {j : Nat} (hj : j < z.length) (h : q z[j].2.1 = false) : keptT q z (j + 1) = keptT q z j := by
  unfold keptT; rw [List.take_succ_eq_append_getElem hj, List.filter_append]; simp [h]
theorem keptT_len (q : α → Bool) (z : List (Tri α)) (j : Nat) : (keptT q z j).length ≤ j := Nat.le_trans (List.length_filter_le _ _) (by rw [List.length_take]; omega)
theorem keptT_data (q : α → Bool) (z : List (Tri α)) (j : Nat) : (keptT q z j).map (·.2.1) = ((z.map (·.2.1)).take j).filter q := by
  unfold keptT
  rw [← List.map_take, List.filter_map]; rfl
/-- The state of the row: what is kept stands at its head, what has not been looked at stands where it stood. -/
structure DelSt (sz : Nat) (q : α → Bool) (z : List (Tri α)) (i j : Nat) (cur : List (List Value)) : Prop where
  len : cur.length = z.length
  two : ∀ c ∈ cur, c.length = sz
  head : cur.take i = (keptT q z j).map (·.1)
  cnt : i = (keptT q z j).length
  rest : ∀ t, j ≤ t → t < z.length → cur[t]? = (z.map (·.1))[t]?
theorem DelSt.keep {sz : Nat} {q : α → Bool} {z : List (Tri α)} {i j : Nat} {cur : List (List Value)} (h : DelSt sz q z i j cur) (hj : j < z.length) (hi : i < j) (hz : z[j].1.length = sz) (hq : q z[j].2.1 = true) : DelSt sz q z (i + 1) (j + 1) (cur.set i z[j].1) := by
  have hl := h.len
  refine ⟨by rw [List.length_set]; exact hl, fun c hc => ?_, ?_, ?_, fun t ht hlt => ?_⟩
  · rcases List.mem_or_eq_of_mem_set hc with h1 | rfl
    · exact h.two c h1
    · exact hz
  · rw [keptT_yes hj hq, List.map_append, ← h.head, List.take_succ_eq_append_getElem (by rw [List.length_set]; omega), List.take_set_of_le (by omega)]
    simp
  · rw [keptT_yes hj hq, List.length_append, ← h.cnt]; rfl
  · rw [List.getElem?_set_ne (by omega)]
    exact h.rest t (by omega) hlt
theorem DelSt.skip {sz : Nat} {q : α → Bool} {z : List (Tri α)} {i j : Nat} {cur : List (List Value)} (h : DelSt sz q z i j cur) (hj : j < z.length) (hq : q z[j].2.1 = false) : DelSt sz q z i (j + 1) cur :=
  ⟨h.len, h.two, by rw [keptT_no hj hq]; exact h.head, by rw [keptT_no hj hq]; exact h.cnt, fun t ht hlt => h.rest t (by omega) hlt⟩
theorem DelSt.at {sz : Nat} {q : α → Bool} {z : List (Tri α)} {i j : Nat} {cur : List (List Value)} (h : DelSt sz q z i j cur) (hj : j < z.length) : cur[j]? = some z[j].1 := by
  rw [h.rest j (Nat.le_refl _) hj]; simp [List.getElem?_eq_getElem hj]
/-- The start: the first that goes stands at i. -/
theorem DelSt.start {sz : Nat} {q : α → Bool} {z : List (Tri α)} {i : Nat} (hi : i < z.length) (hz : ∀ t ∈ z, t.1.length = sz) (hq : ∀ t (ht : t < z.length), t < i → q z[t].2.1 = true) (hn : q z[i].2.1 = false) : DelSt sz q z i (i + 1) (z.map (·.1)) := by
  have hk : keptT q z (i + 1) = z.take i := by
    rw [keptT_no hi hn]
    unfold keptT
    rw [List.filter_eq_self]
    intro t ht
    obtain ⟨k, hk, rfl⟩ := List.mem_iff_getElem.1 ht
    rw [List.length_take] at hk
    rw [List.getElem_take]
    exact hq k (by omega) (by omega)
  refine ⟨by simp, fun c hc => ?_, by rw [hk, List.map_take], by rw [hk, List.length_take]; omega, fun t _ _ => rfl⟩
  obtain ⟨t, ht, rfl⟩ := List.mem_map.1 hc
  exact hz t ht
end
/-- The head of a row. -/
theorem Row.head {w : World} {E : TypeId} {sz n i g cap : Nat} {cur : List (List Value)} (h : Row w E sz (.slice (some ⟨g, 0, none⟩) n cap) n cur.flatten (some g)) (hl : ∀ c ∈ cur, c.length = sz) (hc : cur.length = n) (hi : i ≤ n) :
    Row w E sz (.slice (some ⟨g, 0, none⟩) i cap) i (cur.take i).flatten (some g) := by
  have hlen : ∀ l : List (List Value), (∀ c ∈ l, c.length = sz) → l.flatten.length = l.length * sz := by
    intro l hl
    induction l with
    | nil => simp
    | cons a t ih => simp only [List.flatten_cons, List.length_append, List.length_cons, Nat.succ_mul, hl a (by simp), ih fun c hc => hl c (by simp [hc])]; omega
  have e : cur.flatten.take (i * sz) = (cur.take i).flatten := by
    conv => lhs; rw [← List.take_append_drop i cur, List.flatten_append]
    rw [List.take_append_of_le_length (by rw [hlen _ fun c hc => hl c (List.mem_of_mem_take hc), List.length_take]; rw [Nat.min_eq_left (by omega)]; exact Nat.le_refl _)]
    rw [List.take_of_length_le]
    rw [hlen _ fun c hc => hl c (List.mem_of_mem_take hc), List.length_take, Nat.min_eq_left (by omega)]; exact Nat.le_refl _
  rcases h.2 with ⟨_, hv, _, ho⟩ | ⟨g', cap', cur', hv, ho, hg, h1, h2, h3, h4⟩
  · cases ho
  · cases hv
    refine ⟨?_, .inr ⟨g, cap, cur', rfl, rfl, hg, by omega, h2, h3, ?_⟩⟩
    · rw [hlen _ fun c hc => hl c (List.mem_of_mem_take hc), List.length_take, Nat.min_eq_left (by omega)]
    · rw [← e, ← h4, List.take_take]
      congr 1
      have := Nat.mul_le_mul_right sz hi
      omega
end Go.Proofs.YtpdmdfkcaabnaaaGreatDoor
/- copy and append of zero values at rows of the call's own, elements of any size; one element laid into a slice of the call's own at a place. Over any program; no condition. -/
namespace Go.Proofs.YtpdmdfkcaabnaaaGreatDoor
open Go.RowKit
set_option linter.unusedVariables false
set_option linter.unusedSimpArgs false
theorem run_copy_z {P : Program} (w : World) (dT sT ty elem : TypeId) (sz g o dLen dCap : Nat) (a : Addr) (sLen sCap : Nat) (cur : Array Value) (t : TypeId) (cs : List Value)
    (hu : P.underlying dT = some (.slice elem)) (hs : (P.info? elem).map (·.size) = some sz)
    (hg : w.heap[g]? = some (.cells cur t (0, 0))) (hn : cs.length = Nat.min sLen dLen * sz)
    (hsrc : ∀ j v, cs[j]? = some v → w.cell? (a.add j) = some v) (hfit : o + cs.length ≤ cur.size) (h1 : ∀ v ∈ cs, v.oneCell' = true) :
    (Builtin.copy_ #[dT, sT] ty #[.slice (some ⟨g, o, none⟩) dLen dCap, .slice (some a) sLen sCap]).run P w =
      .ok (goInt (Nat.min sLen dLen)) (w.setRow g (cur.toList.take o ++ cs ++ cur.toList.drop (o + cs.length)).toArray) := by
  have hl := run_loadCells_list (P := P) w a cs hsrc
  have hst := run_storeCells_at P g o t cs 0 cur w hg (by simpa using hfit) h1
  cases hq : P.info? elem with
  | none => simp [hq] at hs
  | some i =>
    have hi : i.size = sz := by simpa [hq] using hs
    simp [Builtin.copy_, run_underlying hu, Builtin.lenOf, Builtin.firstCells, sizeOf, typeInfo, hq, hi, ← hn, hl, hst]
theorem grown_setRow (w : World) (g : Nat) (cs : Array Value) : w.grownBy (w.setRow g cs) (some g) :=
  ⟨rfl, rfl, rfl, by simp [World.setRow], fun k _ hk => setRow_other w g k cs (fun e => hk (by rw [e]))⟩
theorem splice_eq (cur : Array Value) (o : Nat) (cs : List Value) : (cur.toList.take o ++ cs ++ cur.toList.drop (o + cs.length)).toArray = (splice cur.toList o cs).toArray := by
  unfold splice; rw [List.append_assoc]
section
variable {P : Program} {T E : TypeId} {z : Value} {sz bytes : Nat}
theorem SlT.szOf (hT : SlT P T E z sz bytes) : (P.info? E).map (·.size) = some sz := by
  obtain ⟨i, hi, _, hsz, _⟩ := hT.inf; rw [hi]; simp [hsz]
/-- copy(d, s) into a row that is known whole. -/
theorem wpList_copy_z (hT : SlT P T E z sz bytes) {w : World} {ops : Array Oper} {rest : List Oper} {o : Oper} {a : Act} {Q : Exit → Act → World → Prop} (hgd : o.guard = none) (d s : Operand)
    (ho : o.op = .call { callee := .builtin .copy, args := #[d, s], argTypes := #[T, T] })
    (g off dLen dCap : Nat) (ad : Addr) (sLen sCap : Nat) (hd : a.eval d = .slice (some ⟨g, off, none⟩) dLen dCap) (hs : a.eval s = .slice (some ad) sLen sCap)
    (cur : List Value) (hg : w.heap[g]? = some (.cells cur.toArray E (0, 0))) (cs : List Value) (hn : cs.length = Nat.min sLen dLen * sz)
    (hsrc : ∀ j v, cs[j]? = some v → w.cell? (ad.add j) = some v) (hfit : off + cs.length ≤ cur.length) (h1 : ∀ v ∈ cs, v.oneCell' = true)
    (h : ∀ w' n, Hid (w'.heap[g]? = some (.cells (splice cur off cs).toArray E (0, 0))) → w.grownBy w' (some g) → Hid (w'.heap.size = w.heap.size) → wpList P ops Q rest (a.put o.dst (goInt n)) w') :
    wpList P ops Q (o :: rest) a w := by
  refine wpList_plain hgd fun K hK => ?_
  have hrun := run_copy_z (P := P) w T T o.type E sz g off dLen dCap ad sLen sCap cur.toArray E cs hT.und hT.szOf hg hn hsrc (by simpa using hfit) h1
  unfold Oper.wp
  simp [execOp, ho, resolve, invoke, builtin, hd, hs, hrun, Result.andThen]
  refine hK _ _ (h _ _ (show _ = _ from ?_) (grown_setRow _ _ _) (show _ = _ by simp [World.setRow]))
  simpa [splice] using setRow_heap w g cur.toArray _ E _ hg
/-- .. as one step of a region that draws its order. -/
theorem step_copy_z (hT : SlT P T E z sz bytes) {ops : Array Oper} {o : Oper} {a : Act} {w : World} {K : Act → World → Prop} {Q : Exit → Act → World → Prop} {F : Prop} (hgd : o.guard = none) (d s : Operand)
    (ho : o.op = .call { callee := .builtin .copy, args := #[d, s], argTypes := #[T, T] })
    (g off dLen dCap : Nat) (ad : Addr) (sLen sCap : Nat) (hd : a.eval d = .slice (some ⟨g, off, none⟩) dLen dCap) (hs : a.eval s = .slice (some ad) sLen sCap)
    (cur : List Value) (hg : w.heap[g]? = some (.cells cur.toArray E (0, 0))) (cs : List Value) (hn : cs.length = Nat.min sLen dLen * sz)
    (hsrc : ∀ j v, cs[j]? = some v → w.cell? (ad.add j) = some v) (hfit : off + cs.length ≤ cur.length) (h1 : ∀ v ∈ cs, v.oneCell' = true)
    (h : ∀ w' n, Hid (w'.heap[g]? = some (.cells (splice cur off cs).toArray E (0, 0))) → w.grownBy w' (some g) → Hid (w'.heap.size = w.heap.size) → K (a.put o.dst (goInt n)) w') :
    if Region.wanted o (yielded ops a.tmps) = true then Oper.wp P o a w K Q else F := by
  have hw : Region.wanted o (yielded ops a.tmps) = true := by simp [Region.wanted, hgd]
  rw [if_pos hw]
  have hrun := run_copy_z (P := P) w T T o.type E sz g off dLen dCap ad sLen sCap cur.toArray E cs hT.und hT.szOf hg hn hsrc (by simpa using hfit) h1
  unfold Oper.wp
  simp [execOp, ho, resolve, invoke, builtin, hd, hs, hrun, Result.andThen]
  refine h _ _ (show _ = _ from ?_) (grown_setRow _ _ _) (show _ = _ by simp [World.setRow])
  simpa [splice] using setRow_heap w g cur.toArray _ E _ hg
/-- append(s[:i], make(S, k)...) where there is no room for k more: a new row. -/
theorem wpList_append_zeros (hT : SlT P T E z sz bytes) {tn : TypeId} {kn kq : IntKind} (htn : P.underlying tn = some (.int kn)) {w : World} {ops : Array Oper} {rest : List Oper} {o : Oper} {a : Act} {Q : Exit → Act → World → Prop} (hgd : o.guard = none) (s x : Operand)
    (ho : o.op = .call { callee := .builtin .append, args := #[s, x], argTypes := #[T, tn] })
    (g i cap k : Nat) (K0 : Int) (hs : a.eval s = .slice (some ⟨g, 0, none⟩) i cap) (hx : a.eval x = .int kq K0) (hK : K0 = (k : Int)) (cur : List Value) (hg : w.heap[g]? = some (.cells cur.toArray E (0, 0))) (hcur : i * sz ≤ cur.length)
    (h0 : 0 < k) (hroom : cap < i + k) (h63 : i + k ≤ maxLen) (hfit : (i + k) * bytes ≤ 140737488355328)
    (h : ∀ (G cap' : Nat) (w' : World) (cur' : List Value), Hid (G = w.heap.size) → Hid (w'.heap[G]? = some (.cells cur'.toArray E (0, 0))) → Hid (cur'.take (i * sz) = cur.take (i * sz)) → Hid (cur'.length = cap' * sz) → i + k ≤ cap' → cap' ≤ 9223372036854775807 → w.grownBy w' none → Hid (w'.heap.size = w.heap.size + 1) →
      wpList P ops Q rest (a.put o.dst (.slice (some ⟨G, 0, none⟩) (i + k) cap')) w') :
    wpList P ops Q (o :: rest) a w := by
  subst hK
  obtain ⟨i0, hi, hz, hsz, hby⟩ := hT.inf
  have hzs := hT.zs
  have hpos := hT.pos
  unfold maxLen at h63
  have hold : (Builtin.firstCells i0.size i (.slice (some ⟨g, 0, none⟩) i cap)).run P w.drew = .ok (cur.take (i * sz)).toArray w.drew := by
    rw [hsz]
    refine run_firstCells_some w.drew sz i ⟨g, 0, none⟩ i cap (cur.take (i * sz)) (by rw [List.length_take]; omega) (fun j v hj => ?_)
    have hadd : (⟨g, 0, none⟩ : Addr).add j = ⟨g, j, none⟩ := by unfold Addr.add; split <;> simp_all
    rw [hadd]
    show w.cell? _ = _
    rw [cell_of_row w g j cur.toArray E (0, 0) hg]
    rw [List.getElem?_take] at hj
    split at hj
    · simpa using hj
    · cases hj
  have hb : k * i0.bytes ≤ 281474976710656 := by
    rw [hby]
    have := Nat.mul_le_mul_right bytes (show k ≤ i + k by omega)
    omega
  have hrun := Lib.run_append_grow_zeros (P := P) w T tn o.type E i0 z kq kn hT.und htn hi hz (some ⟨g, 0, none⟩) i cap _ hold k h0 (by omega) hroom (by omega) hb (by rw [hby]; exact growslice_fits hroom hfit)
  refine Lib.wpList_append_run w hgd s x T tn ho _ _ hs hx _ _ hrun ?_
  have hge := grownCap_ge w (i + k) cap E
  have hlm := grownCap_le_maxLen w (i + k) cap E (by unfold maxLen; exact h63)
  unfold maxLen at hlm
  have hzl : ∀ m, (Builtin.zeroCells z.cells m).size = m * sz := fun m => by simp [Builtin.zeroCells, hzs]
  have hl1 : (cur.take (i * sz)).length = i * sz := by rw [List.length_take]; omega
  refine h w.heap.size _ (w.drew.alloc (.cells ((cur.take (i * sz)).toArray ++ Builtin.zeroCells z.cells k ++ Builtin.zeroCells z.cells (grownCap w (i + k) cap E - (i + k))) E)) (cur.take (i * sz) ++ (Builtin.zeroCells z.cells k).toList ++ (Builtin.zeroCells z.cells (grownCap w (i + k) cap E - (i + k))).toList)
    (show _ = _ from rfl) (show _ = _ from ?_) (show _ = _ from ?_) (show _ = _ from ?_) hge hlm ?_ (show _ = _ from ?_)
  · have := heap_alloc_new w.drew (.cells ((cur.take (i * sz)).toArray ++ Builtin.zeroCells z.cells k ++ Builtin.zeroCells z.cells (grownCap w (i + k) cap E - (i + k))) E)
    refine Eq.trans this ?_
    congr 2
    apply Array.ext'
    simp
  · rw [List.append_assoc, List.take_append_of_le_length (by omega), List.take_take, Nat.min_self]
  · rw [List.length_append, List.length_append, hl1, Array.length_toList, Array.length_toList, hzl, hzl, ← Nat.add_mul, ← Nat.add_mul]
    congr 1; omega
  · exact grownBy_trans (b := w.drew) ⟨rfl, rfl, rfl, Nat.le_refl _, fun _ _ _ => rfl⟩ (World.grownBy_alloc w.drew _ _)
  · show (w.heap.push _).size = _
    simp
end
/-! ### What the rows come to -/
theorem All.take {α : Type} {R : Rd α} {w : World} {rows : List (List Value)} {l : List α} {fs : List (List Nat)} (h : All R w rows l fs) : ∀ i, All R w (rows.take i) (l.take i) (fs.take i) := by
  induction h with
  | nil => intro i; simpa using All.nil
  | cons h1 _ ih =>
    intro i
    cases i with
    | zero => exact .nil
    | succ i => exact .cons h1 (ih i)
theorem All.drop {α : Type} {R : Rd α} {w : World} {rows : List (List Value)} {l : List α} {fs : List (List Nat)} (h : All R w rows l fs) : ∀ i, All R w (rows.drop i) (l.drop i) (fs.drop i) := by
  induction h with
  | nil => intro i; simpa using All.nil
  | cons h1 h2 ih =>
    intro i
    cases i with
    | zero => exact .cons h1 h2
    | succ i => exact ih i
theorem flat_len {sz : Nat} : ∀ (l : List (List Value)), (∀ c ∈ l, c.length = sz) → l.flatten.length = l.length * sz
  | [], _ => by simp
  | a :: t, hl => by rw [List.flatten_cons, List.length_append, flat_len t (fun c hc => hl c (by simp [hc])), hl a (by simp), List.length_cons, Nat.succ_mul]; omega
theorem flat_take {sz : Nat} {rows : List (List Value)} (hl : ∀ c ∈ rows, c.length = sz) {i : Nat} (hi : i ≤ rows.length) : rows.flatten.take (i * sz) = (rows.take i).flatten := by
  have h : rows.flatten = (rows.take i).flatten ++ (rows.drop i).flatten := by rw [← List.flatten_append, List.take_append_drop]
  have hlen : (rows.take i).flatten.length = i * sz := by
    rw [flat_len _ fun c hc => hl c (List.mem_of_mem_take hc), List.length_take, Nat.min_eq_left hi]
  rw [h, List.take_append_of_le_length (by omega), List.take_of_length_le (by omega)]
theorem flat_drop {sz : Nat} {rows : List (List Value)} (hl : ∀ c ∈ rows, c.length = sz) {i : Nat} (hi : i ≤ rows.length) : rows.flatten.drop (i * sz) = (rows.drop i).flatten := by
  have h : rows.flatten = (rows.take i).flatten ++ (rows.drop i).flatten := by rw [← List.flatten_append, List.take_append_drop]
  have hlen : (rows.take i).flatten.length = i * sz := by
    rw [flat_len _ fun c hc => hl c (List.mem_of_mem_take hc), List.length_take, Nat.min_eq_left hi]
  rw [h, List.drop_append_of_le_length (by omega), List.drop_of_length_le (by omega), List.nil_append]
theorem mem_ins {α : Type} {x y : α} {l : List α} {i : Nat} : y ∈ l.take i ++ x :: l.drop i ↔ y = x ∨ y ∈ l := by
  conv => rhs; rw [← List.take_append_drop i l]
  simp only [List.mem_append, List.mem_cons]
  constructor
  · rintro (h | h | h)
    · exact .inr (.inl h)
    · exact .inl h
    · exact .inr (.inr h)
  · rintro (h | h | h)
    · exact .inr (.inl h)
    · exact .inl h
    · exact .inr (.inr h)
theorem mem_flat_ins {fs : List (List Nat)} {fx : List Nat} {i k : Nat} : k ∈ (fs.take i ++ fx :: fs.drop i).flatten ↔ k ∈ fx ∨ k ∈ fs.flatten := by
  rw [List.mem_flatten, List.mem_flatten]
  constructor
  · rintro ⟨f, hf, hk⟩
    rcases mem_ins.1 hf with rfl | h
    · exact .inl hk
    · exact .inr ⟨f, h, hk⟩
  · rintro (h | ⟨f, hf, hk⟩)
    · exact ⟨fx, mem_ins.2 (.inl rfl), h⟩
    · exact ⟨f, mem_ins.2 (.inr hf), hk⟩
theorem nodup_flat_ins {fs : List (List Nat)} {fx : List Nat} (i : Nat) (h : fs.flatten.Nodup) (hx : fx.Nodup) (hd : ∀ g ∈ fx, g ∉ fs.flatten) : (fs.take i ++ fx :: fs.drop i).flatten.Nodup := by
  have hp : (fs.take i ++ fx :: fs.drop i).flatten.Perm (fx ++ fs.flatten) := by
    have e : (fx ++ fs.flatten) = (fx :: (fs.take i ++ fs.drop i)).flatten := by rw [List.take_append_drop]; rfl
    rw [e]
    exact List.Perm.flatten List.perm_middle
  refine hp.symm.nodup ?_
  exact List.nodup_append.2 ⟨hx, h, fun a ha b hb e => hd a ha (e ▸ hb)⟩
/-- One element is laid into a slice of the call's own, ahead of its i-th. -/
theorem gr_ins {α : Type} {E : TypeId} {sz : Nat} {R : Rd α} {B : Nat} {w w' : World} {v : Value} {l : List α} {x : α} {c : List Value} {fx : List Nat} {rows : List (List Value)} {fs : List (List Nat)} (hR : Good R) (ha : All R w rows l fs) (hl : ∀ c ∈ rows, c.length = sz) (hfr : Fresh B (v.ownBlock.toList ++ fs.flatten))
    (hx : R w c x fx) (hc : c.length = sz) (hfx : Fresh B fx) (hd : ∀ g ∈ fx, g ∉ v.ownBlock.toList ++ fs.flatten) {i : Nat} (hi : i ≤ l.length) {g cap : Nat} {cur : List Value}
    (hg : w'.heap[g]? = some (.cells cur.toArray E (0, 0))) (hcl : cur.length = cap * sz) (hcap : l.length + 1 ≤ cap) (hmax : cap ≤ maxLen) (hcur : cur.take ((l.length + 1) * sz) = (rows.take i ++ c :: rows.drop i).flatten)
    (hkeep : ∀ k, k < w.heap.size → v.ownBlock ≠ some k → w'.heap[k]? = w.heap[k]?) (hat : v.ownBlock = some g ∨ w.heap.size ≤ g) (hgB : B ≤ g) :
    ∃ f', grR E sz R B w' (.slice (some ⟨g, 0, none⟩) (l.length + 1) cap) (l.take i ++ x :: l.drop i) f' ∧ ∀ k ∈ f', k = g ∨ k ∈ fx ∨ k ∈ fs.flatten := by
  have hlt1 := ha.lt hR
  have hlt2 := hR.lt hx
  have hnd := List.nodup_append.1 hfr.1
  have h1 : All R w' rows l fs := ha.frame hR fun k hk => hkeep k (hlt1 k hk) (fun e => hnd.2.2 k (by simp [e]) k hk rfl)
  have h2 : R w' c x fx := hR.frame hx fun k hk => hkeep k (hlt2 k hk) (fun e => hd k hk (by simp [e]))
  have hgl : g ∉ fs.flatten ∧ g ∉ fx := by
    rcases hat with e | e
    · exact ⟨fun hm => hnd.2.2 g (by simp [e]) g hm rfl, fun hm => hd g hm (by simp [e])⟩
    · exact ⟨fun hm => by have := hlt1 _ hm; omega, fun hm => by have := hlt2 _ hm; omega⟩
  have hlen : (l.take i ++ x :: l.drop i).length = l.length + 1 := by simp; omega
  have htwo : ∀ r ∈ rows.take i ++ c :: rows.drop i, r.length = sz := by
    intro r hr
    rcases mem_ins.1 hr with rfl | h
    · exact hc
    · exact hl r h
  have hrl : (rows.take i ++ c :: rows.drop i).length = l.length + 1 := by
    have := ha.len.1
    simp; omega
  refine ⟨g :: (fs.take i ++ fx :: fs.drop i).flatten, ⟨rows.take i ++ c :: rows.drop i, fs.take i ++ fx :: fs.drop i, (h1.take i).append (.cons h2 (h1.drop i)), htwo, ?_, by simp [Value.ownBlock], ?_⟩, ?_⟩
  · rw [hlen]
    refine ⟨by rw [flat_len _ htwo, hrl], .inr ⟨g, cap, cur.toArray, rfl, hgB, hg, hcap, hmax, by simpa using hcl, ?_⟩⟩
    simpa using hcur
  · refine ⟨List.nodup_cons.2 ⟨?_, nodup_flat_ins i hnd.2.1 hfx.1 fun k hk hm => hd k hk (by rw [List.mem_append]; exact .inr hm)⟩, fun k hk => ?_⟩
    · intro hm
      rcases mem_flat_ins.1 hm with h | h
      · exact hgl.2 h
      · exact hgl.1 h
    · rcases List.mem_cons.1 hk with rfl | hk
      · exact hgB
      · rcases mem_flat_ins.1 hk with h | h
        · exact hfx.2 k h
        · exact hfr.2 k (by rw [List.mem_append]; exact .inr h)
  · intro k hk
    rcases List.mem_cons.1 hk with rfl | hk
    · exact .inl rfl
    · exact .inr (mem_flat_ins.1 hk)
/-- The cells behind the shift in place. -/
theorem shift_cells {sz n i : Nat} {rows : List (List Value)} {c : List Value} {cur : List Value} (hl : ∀ c ∈ rows, c.length = sz) (hr : rows.length = n) (hc : c.length = sz) (hi : i < n) (hcur : cur.take (n * sz) = rows.flatten) (hfit : (n + 1) * sz ≤ cur.length) :
    (splice (splice cur ((i + 1) * sz) (rows.drop i).flatten) (i * sz) c).take ((n + 1) * sz) = (rows.take i ++ c :: rows.drop i).flatten := by
  have hX : (rows.drop i).flatten.length = (n - i) * sz := by rw [flat_len _ fun c hc => hl c (List.mem_of_mem_drop hc), List.length_drop, hr]
  have e1 : (i + 1) * sz + (n - i) * sz = (n + 1) * sz := by rw [← Nat.add_mul]; congr 1; omega
  have e2 : i * sz + sz = (i + 1) * sz := by rw [Nat.succ_mul]
  have e3 : i * sz ≤ n * sz := Nat.mul_le_mul_right sz (by omega)
  have e4 : cur.take (i * sz) = (rows.take i).flatten := by
    rw [← flat_take hl (by omega), ← hcur, List.take_take, Nat.min_eq_left e3]
  have h1 : splice cur ((i + 1) * sz) (rows.drop i).flatten = cur.take ((i + 1) * sz) ++ ((rows.drop i).flatten ++ cur.drop ((n + 1) * sz)) := by unfold splice; rw [hX, e1]
  have e5 : (i + 1) * sz ≤ (n + 1) * sz := Nat.mul_le_mul_right sz (by omega)
  have h2 : splice (splice cur ((i + 1) * sz) (rows.drop i).flatten) (i * sz) c = (rows.take i).flatten ++ (c ++ ((rows.drop i).flatten ++ cur.drop ((n + 1) * sz))) := by
    rw [h1]
    unfold splice
    rw [List.take_append_of_le_length (by rw [List.length_take]; omega), List.take_take, Nat.min_eq_left (by omega), e4, hc, e2, List.drop_append_of_le_length (by rw [List.length_take]; omega), List.drop_of_length_le (by rw [List.length_take]; omega), List.nil_append]
  rw [h2, ← List.append_assoc, ← List.append_assoc, List.take_append_of_le_length, List.take_of_length_le]
  · simp
  · have := flat_len _ (fun c hc => hl c (List.mem_of_mem_take (i := i) hc))
    rw [List.length_append, List.length_append, this, hX, hc, List.length_take, Nat.min_eq_left (by omega)]; omega
  · have := flat_len _ (fun c hc => hl c (List.mem_of_mem_take (i := i) hc))
    rw [List.length_append, List.length_append, this, hX, hc, List.length_take, Nat.min_eq_left (by omega)]; omega
theorem splice_len {L : List Value} {o : Nat} {cs : List Value} (h : o + cs.length ≤ L.length) : (splice L o cs).length = L.length := length_splice L o cs h
/-- The cells of the new row. -/
theorem grow_cells {sz n i : Nat} {rows : List (List Value)} {c : List Value} {cur : List Value} (hl : ∀ c ∈ rows, c.length = sz) (hr : rows.length = n) (hc : c.length = sz) (hi : i < n) (hcur : cur.take (i * sz) = (rows.take i).flatten) (hfit : (n + 1) * sz ≤ cur.length) :
    (splice (splice cur (i * sz) c) ((i + 1) * sz) (rows.drop i).flatten).take ((n + 1) * sz) = (rows.take i ++ c :: rows.drop i).flatten := by
  have hX : (rows.drop i).flatten.length = (n - i) * sz := by rw [flat_len _ fun c hc => hl c (List.mem_of_mem_drop hc), List.length_drop, hr]
  have hT : (rows.take i).flatten.length = i * sz := by rw [flat_len _ fun c hc => hl c (List.mem_of_mem_take hc), List.length_take, Nat.min_eq_left (by omega)]
  have e1 : (i + 1) * sz + (n - i) * sz = (n + 1) * sz := by rw [← Nat.add_mul]; congr 1; omega
  have e2 : i * sz + sz = (i + 1) * sz := by rw [Nat.succ_mul]
  have h1 : splice cur (i * sz) c = ((rows.take i).flatten ++ c) ++ cur.drop ((i + 1) * sz) := by unfold splice; rw [hcur, hc, e2, List.append_assoc]
  have h2 : splice (splice cur (i * sz) c) ((i + 1) * sz) (rows.drop i).flatten = (((rows.take i).flatten ++ c) ++ (rows.drop i).flatten) ++ cur.drop ((n + 1) * sz) := by
    rw [h1]
    unfold splice
    rw [List.take_append_of_le_length (by rw [List.length_append, hT, hc]; omega), List.take_of_length_le (by rw [List.length_append, hT, hc]; omega), hX, e1]
    have e9 : ((rows.take i).flatten ++ c).drop ((n + 1) * sz) = [] := List.drop_of_length_le (by rw [List.length_append, hT, hc]; have := Nat.mul_le_mul_right sz (show i + 1 ≤ n + 1 by omega); omega)
    rw [List.drop_append, e9, List.nil_append, List.drop_drop, List.length_append, hT, hc]
    rw [List.append_assoc (_ ++ _)]
    congr 3
    have := Nat.mul_le_mul_right sz (show i + 1 ≤ n + 1 by omega)
    omega
  rw [h2, List.take_append_of_le_length, List.take_of_length_le]
  · simp
  · rw [List.length_append, List.length_append, hT, hX, hc]; omega
  · rw [List.length_append, List.length_append, hT, hX, hc]; omega
end Go.Proofs.YtpdmdfkcaabnaaaGreatDoor
/- slices.Clone of ints, copyFact, copyFacts of the program. Condition: sizes up to 2^20. -/
namespace Go.Proofs.YtpdmdfkcaabnaaaGreatDoor
open Go.RowKit
set_option linter.unusedVariables false
set_option linter.unusedSimpArgs false
set_option maxRecDepth 100000 in
set_option maxHeartbeats 800000 in
theorem clone_any (v : Value) (l : List Int) (f : List Nat) (w : World) (h : ints w v l f) (hn : l.length ≤ 1048576) :
    Calls Tryz.prog 215 #[v] w fun e w' => ∃ v' f', e = .returned v' ∧ ints w' v' l f' ∧ Fresh w.heap.size f' ∧ Below w.heap.size w w' := by
  obtain ⟨a, cap, rfl⟩ := slR.form h
  cases a with
  | none =>
    have hl : l = [] := by
      cases l with
      | nil => rfl
      | cons x t => obtain ⟨g, hg, _⟩ := h.get 0 (by simp); cases hg
    subst hl
    have heq := fun (w : World) => Lib.run_eql_slice_nil (P := Tryz.prog) w 24 3 none 0 cap 0 0 Tryz.underlying24
    go_enter Tryz.func215, Tryz.ntmps215
    go_wp2
    go_ret
    exact ⟨_, [], rfl, slR.nilv _ _ _ _, Fresh.nil _, Below.refl _ _⟩
  | some ad =>
    have heq := fun (w : World) => Lib.run_eql_slice_nil (P := Tryz.prog) w 24 3 (some ad) l.length cap 0 0 Tryz.underlying24
    go_enter Tryz.func215, Tryz.ntmps215
    go_wp2_with (at_builtin; refine wpList_copy_ints slInt rfl _ _ rfl rfl _ l f rfl h hn ?_; intro u1 w1 f1 hu1 hfr1 hb1)
    go_ret
    exact ⟨_, f1, rfl, hu1, hfr1, hb1⟩
set_option maxRecDepth 100000 in
set_option maxHeartbeats 1600000 in
theorem copyFact_any (x : FactD) (v : Value) (f : List Nat) (w : World) (h : ints w v x.vals f) (hn : x.vals.length ≤ 1048576) :
    Calls Tryz.prog 194 #[.agg #[.int .i64 x.rel, v]] w fun e w' => ∃ v' f', e = .returned (.agg #[.int .i64 x.rel, v']) ∧ ints w' v' x.vals f' ∧ Fresh w.heap.size f' ∧ Below w.heap.size w w' := by
  obtain ⟨a, cap, rfl⟩ := slR.form h
  have h2 := (h.al (.cells #[.int .i64 x.rel, .slice a x.vals.length cap] 79)).al (.cells #[.int .i64 0, .slice none 0 0] 79)
  have hb0 : Below w.heap.size w ((w.alloc (.cells #[.int .i64 x.rel, .slice a x.vals.length cap] 79)).alloc (.cells #[.int .i64 0, .slice none 0 0] 79)) := ba (ba (Below.refl _ _))
  have hs2 : ((w.alloc (.cells #[.int .i64 x.rel, .slice a x.vals.length cap] 79)).alloc (.cells #[.int .i64 0, .slice none 0 0] 79)).heap.size = w.heap.size + 1 + 1 := by simp only [World.alloc, Array.size_push]
  have c0 : ((w.alloc (.cells #[.int .i64 x.rel, .slice a x.vals.length cap] 79)).alloc (.cells #[.int .i64 0, .slice none 0 0] 79)).cell? ⟨w.heap.size, 0, none⟩ = some (.int .i64 x.rel) := cell_al (cell_new w _ _ 0 _ rfl) _
  have c1 : ((w.alloc (.cells #[.int .i64 x.rel, .slice a x.vals.length cap] 79)).alloc (.cells #[.int .i64 0, .slice none 0 0] 79)).cell? ⟨w.heap.size, 1, none⟩ = some (.slice a x.vals.length cap) := cell_al (cell_new w _ _ 1 _ rfl) _
  go_enter Tryz.func194, Tryz.ntmps194
  go_wp2
  go_region_held3 (fun w' => w'.cell? ⟨w.heap.size, 0, none⟩ = some (.int .i64 x.rel) ∧ w'.cell? ⟨w.heap.size, 1, none⟩ = some (.slice a x.vals.length cap)) (first | exact ⟨c0, c1⟩ | exact ⟨d0, d1⟩ | go_keep)
    (first
      | (go_at_call 215
         refine (clone_any _ x.vals f _ (h2.below' ?_) hn).mono ?_
         · (repeat (first | exact Below.refl _ _ | refine bdr ?_))
         rintro e w1 ⟨v1, f1, rfl, hu1, hfr0, hb0'⟩
         have hfr1 : Fresh (w.heap.size + 1 + 1) f1 := hfr0.mono (Nat.le_of_eq hs2.symm)
         have hb1 : Below ((w.alloc (.cells #[.int .i64 x.rel, .slice a x.vals.length cap] 79)).alloc (.cells #[.int .i64 0, .slice none 0 0] 79)).heap.size ((w.alloc (.cells #[.int .i64 x.rel, .slice a x.vals.length cap] 79)).alloc (.cells #[.int .i64 0, .slice none 0 0] 79)) w1 := bt (by (repeat (first | exact Below.refl _ _ | refine bdr ?_))) hb0'
         have d0 : w1.cell? ⟨w.heap.size, 0, none⟩ = some (.int .i64 x.rel) := cell_below c0 hb1
         have d1 : w1.cell? ⟨w.heap.size, 1, none⟩ = some (.slice a x.vals.length cap) := cell_below c1 hb1
         obtain ⟨p1, q1, rfl⟩ := slR.form hu1
         have hz1 : w.heap.size + 1 < w1.heap.size := by have := hb1.size; rw [hs2] at this; omega
         have hz0 : w.heap.size < w1.heap.size := by omega
         have hcz := bcell hb1
         have hc1 := hcz.1
         have hzz1 := hcz.2))
  go_wp2
  refine bodyPost_ret (v := .agg #[.int .i64 x.rel, .slice p1 x.vals.length q1]) (by simp [results, Tryz.results194, go_sem, hc1, hzz1, hz1, hz0]) rfl ⟨_, f1, rfl, ?_, ?_, ?_⟩
  · repeat (refine ints.far ?_ (hfr1.notin (by simp <;> omega)) _)
    exact hu1
  · exact hfr1.mono (by omega)
  · repeat (refine Below.setCell ?_ (by simp <;> omega) _)
    exact bt hb0 hb1
set_option maxRecDepth 100000 in
set_option maxHeartbeats 1600000 in
theorem copyFacts_any (v : Value) (l : List FactD) (f : List Nat) (w : World) (h : facts w v l f) (hn : l.length ≤ 1048576) (hln : ∀ y ∈ l, y.vals.length ≤ 1048576) :
    Calls Tryz.prog 141 #[v] w fun e w' => ∃ v' f', e = .returned v' ∧ grR 79 2 factR w.heap.size w' v' l f' ∧ Below w.heap.size w w' := by
  obtain ⟨b, cap, rfl⟩ := slR.form h
  have hla := slR.le_max h
  have Hln := Lib.hid hln
  clear hln
  go_enter Tryz.func141, Tryz.ntmps141
  go_wp2
  go_loopw [3, 9] (fun u i wr => ∃ (k : Nat) (lo : List FactD) (fo : List Nat), i = .int .i64 k ∧ k ≤ l.length ∧ Hid (lo = l.take k) ∧ grR 79 2 factR w.heap.size wr u lo fo ∧ Below w.heap.size w wr) (fun _ i _ => l.length - (intOf i).toNat)
  case atStart => exact ⟨0, [], _, rfl, Nat.zero_le _, Lib.hid rfl, grR.lit factR (Nat.le_refl _) (Nat.le_refl _), ba (Below.refl _ _)⟩
  case round =>
    obtain ⟨k, lo, fo, rfl, hk, Hlo, hgr, hbel⟩ := hrel
    obtain ⟨ao, co, rfl⟩ := slR.form hgr.sl
    have hll : lo.length ≤ 1048576 := by
      have h0 := congrArg List.length Hlo.out
      rw [List.length_take] at h0
      omega
    by_cases hlt : k < l.length
    · obtain ⟨g, c, fk, hg, ⟨vy, rfl, iy, hy⟩, _, hc, _, _, _⟩ := slR.at h k hlt
      obtain ⟨a', c', rfl⟩ := slR.form hy
      have hc0 : wr.cell? ⟨g, k * 2, none⟩ = some (.int .i64 l[k].rel) := cell_below (hc 0 _ rfl) hbel
      have hc1 : wr.cell? ⟨g, k * 2 + 1, none⟩ = some (.slice a' l[k].vals.length c') := cell_below (hc 1 _ rfl) hbel
      have hkl : (k : Int) < (l.length : Int) := by omega
      have hk0 : (0 : Int) ≤ (k : Int) := Int.natCast_nonneg _
      clear hc
      subst hg
      have Hyn := Hln.out l[k] (List.getElem_mem hlt)
      have HS := Lib.hid (show lo ++ [l[k]] = l.take (k + 1) by rw [List.take_succ_eq_append_getElem hlt, Hlo.out])
      have hy1 := (hy.below' hbel).al (.cells #[.int .i64 l[k].rel, .slice a' l[k].vals.length c'] 79)
      have hba : Below wr.heap.size wr (wr.alloc (.cells #[.int .i64 l[k].rel, .slice a' l[k].vals.length c'] 79)) := ba (Below.refl _ _)
      have hb0 : (wr.alloc (.cells #[.int .i64 l[k].rel, .slice a' l[k].vals.length c'] 79)).cell? ⟨wr.heap.size, 0, none⟩ = some (.int .i64 l[k].rel) := cell_new wr _ _ 0 _ rfl
      have hb1 : (wr.alloc (.cells #[.int .i64 l[k].rel, .slice a' l[k].vals.length c'] 79)).cell? ⟨wr.heap.size, 1, none⟩ = some (.slice a' l[k].vals.length c') := cell_new wr _ _ 1 _ rfl
      go_wp2_with fail
      refine (copyFact_any l[k] _ fk _ hy1 Hyn).mono ?_
      rintro e w1 ⟨v1, f1, rfl, hu1, hfr1, hb2⟩
      have hb3 := bt hba hb2
      have hgr1 := hgr.below' good_fact hb3
      have hbw := bt hbel hb3
      have hfr2 : Fresh wr.heap.size f1 := hfr1.mono hba.size
      have hdis : ∀ g ∈ f1, g ∉ fo := fun g hg hm => by
        have h1 := hfr2.2 g hg
        have h2 := grR.lt good_fact hgr g hm
        omega
      have hfr3 := hfr2.mono hbel.size
      obtain ⟨p1, q1, rfl⟩ := slR.form hu1
      clear hb2 hfr1 hb0 hb1 hba
      go_wp2_with (at_builtin; refine wpList_gr slFactS good_fact rfl _ _ rfl hgr1 hbw rfl #[.int .i64 l[k].rel, .slice p1 l[k].vals.length q1] l[k] f1 ⟨_, rfl, iy, hu1⟩ rfl hfr3 hdis rfl (by simp [Value.oneCell']) (by omega) (by unfold maxLen; omega) ?_; intro g3 cap3 w2 f2 hgr3 hb4 hg3)
      go_roundw
      case rel => exact ⟨k + 1, lo ++ [l[k]], f2, by go_num, by omega, HS, by simpa using hgr3, hb4⟩
      case measure => simp [intOf]; omega
    · have hkl : k = l.length := by omega
      have HS := Lib.hid (show lo = l by rw [Hlo.out, hkl, List.take_length])
      clear hkl
      go_wp2
      go_ret
      exact ⟨_, _, rfl, by rw [← HS.out]; exact hgr, hbel⟩
end Go.Proofs.YtpdmdfkcaabnaaaGreatDoor
/- slices.DeleteFunc at a slice of facts of the call's own; matches of the program. Conditions: not more than 2^20 facts; the reading goes through. -/
namespace Go.Proofs.YtpdmdfkcaabnaaaGreatDoor
open Go.RowKit
set_option linter.unusedVariables false
set_option linter.unusedSimpArgs false
/-- clear(s) at a row that is known whole. -/
theorem wpList_clear_z {P : Program} {T E : TypeId} {z : Value} {sz bytes : Nat} (hT : SlT P T E z sz bytes) {w : World} {ops : Array Oper} {rest : List Oper} {o : Oper} {a : Act} {Q : Exit → Act → World → Prop} (hgd : o.guard = none) (s : Operand)
    (ho : o.op = .call { callee := .builtin .clear, args := #[s], argTypes := #[T] }) (g off n c : Nat) (hs : a.eval s = .slice (some ⟨g, off, none⟩) n c) (hn : 0 < n)
    (cur : List Value) (hg : w.heap[g]? = some (.cells cur.toArray E (0, 0))) (hfit : off + n * sz ≤ cur.length) (h1 : ∀ u ∈ z.cells.toList, u.oneCell' = true)
    (h : ∀ (w' : World) (cur' : List Value), Hid (w'.heap[g]? = some (.cells cur'.toArray E (0, 0))) → Hid (cur'.take off = cur.take off) → Hid (cur'.length = cur.length) → w.grownBy w' (some g) → wpList P ops Q rest (a.put o.dst (.tuple #[])) w') :
    wpList P ops Q (o :: rest) a w := by
  obtain ⟨i0, hi, hz, hsz, hby⟩ := hT.inf
  have hzs := hT.zs
  have hzl : (Builtin.zeroCells z.cells n).size = n * sz := by simp [Builtin.zeroCells, hzs]
  have h1z : ∀ u ∈ (Builtin.zeroCells z.cells n).toList, u.oneCell' = true := by
    intro u hu
    simp only [Builtin.zeroCells, Array.toList_map, List.mem_map] at hu
    obtain ⟨k, hk, rfl⟩ := hu
    have hk' : k < n * z.cells.size := by simpa using hk
    have hlt : k % z.cells.size < z.cells.size := Nat.mod_lt _ (by have := hT.pos; omega)
    rw [getElem!_pos z.cells _ hlt]
    exact h1 _ (by simp)
  have hst := run_storeCells_at P g off E (Builtin.zeroCells z.cells n).toList 0 cur.toArray w hg (by simp [hzl]; omega) h1z
  simp only [Nat.add_zero] at hst
  obtain ⟨m, rfl⟩ : ∃ m, n = m + 1 := ⟨n - 1, by omega⟩
  refine wpList_plain hgd fun K hK => ?_
  unfold Oper.wp
  simp [execOp, ho, resolve, invoke, builtin, hs, Builtin.clear_, run_underlying hT.und, zeroValue, typeInfo, hi, hz, hst, Result.andThen]
  refine hK _ _ (h _ (splice cur off (Builtin.zeroCells z.cells (m + 1)).toList) (show _ = _ from ?_) (show _ = _ from ?_) (show _ = _ from ?_) (grown_setRow _ _ _))
  · have := setRow_heap w g cur.toArray (cur.toArray.toList.take off ++ (Builtin.zeroCells z.cells (m + 1)).toList ++ cur.toArray.toList.drop (off + (Builtin.zeroCells z.cells (m + 1)).toList.length)).toArray E _ hg
    simpa [splice] using this
  · unfold splice
    rw [List.take_append_of_le_length (by rw [List.length_take]; omega), List.take_take, Nat.min_self]
  · rw [splice_len]; simp [hzl]; omega
theorem filter_all {α : Type} {p : α → Bool} {l : List α} (h : idxI p l = -1) : (l.filter fun x => !p x) = l := by
  rw [List.filter_eq_self]
  intro x hx
  have := idxI_any p l
  rw [h] at this
  simp at this
  simpa using this x hx
theorem idxI_first {α : Type} {p : α → Bool} {l : List α} (h : idxI p l ≠ -1) : ∃ q : Nat, idxI p l = (q : Int) ∧ ∃ hq : q < l.length, p l[q] = true ∧ ∀ j (hj : j < l.length), j < q → p l[j] = false := by
  unfold idxI at h ⊢
  cases hf : l.findIdx? p with
  | none => rw [hf] at h; exact absurd rfl h
  | some i =>
    rw [List.findIdx?_eq_some_iff_getElem] at hf
    obtain ⟨hi, hp, hn⟩ := hf
    exact ⟨i, rfl, hi, hp, fun j hj hji => by simpa using hn j hji⟩
theorem len_two {c : List Value} (h : c.length = 2) : ∃ a b, c = [a, b] := by
  match c, h with
  | [a, b], _ => exact ⟨a, b, rfl⟩
set_option maxRecDepth 100000 in
set_option maxHeartbeats 6400000 in
theorem deleteFuncFact_any (B : Nat) (K : Nat) (hK : Plain Tryz.prog K) (caps : Array Value) (A : FactD → Value → Array Value) (hA : ∀ (x : FactD) (v : Value), #[.agg #[.int .i64 x.rel, v]] ++ caps = A x v) (p : FactD → Bool) (v : Value) (l : List FactD) (f : List Nat) (w : World) (h : grR 79 2 factR B w v l f) (hB : B ≤ w.heap.size) (hn : l.length ≤ 1048576)
    (hcall : ∀ (x : FactD), x ∈ l → ∀ (w' : World) (vx : Value) (fx : List Nat), Below B w w' → ints w' vx x.vals fx → Calls Tryz.prog K (A x vx) w' fun e w'' => e = .returned (.bool (p x)) ∧ Below w'.heap.size w' w'') :
    Calls Tryz.prog 157 #[v, .func (.func K) #[] caps] w fun e w' => ∃ v' f', e = .returned v' ∧ grR 79 2 factR B w' v' (l.filter fun x => !p x) f' ∧ Below B w w' := by
  obtain ⟨a, cap, rfl⟩ := slR.form h.sl
  have hidx := indexFuncFact_any K hK caps A hA p _ l f w h.sl (fun i hi w' vx fx hb hx => hcall _ (List.getElem_mem hi) w' vx fx (hb.mono hB) hx)
  by_cases hq : idxI p l = -1
  · have Hf := Lib.hid (filter_all hq)
    rw [hq] at hidx
    have Hidx := Lib.hid hidx
    have HK := Lib.hid hK
    clear hidx hq hcall hA hK
    go_enter Tryz.func157, Tryz.ntmps157
    go_wp2_with (go_at_call 160; refine Hidx.out.mono ?_; rintro e w2 ⟨rfl, hb2⟩)
    have hfin := h.below' good_fact hb2
    have hbf : Below B w w2 := hb2.mono hB
    go_ret
    exact ⟨.slice a l.length cap, f, rfl, by rw [Hf.out]; exact hfin, hbf⟩
  · obtain ⟨q, hq', hql, hpq, hpn⟩ := idxI_first hq
    rw [hq'] at hidx
    have Hidx := Lib.hid hidx
    have HC := Lib.hid hcall
    have HA := Lib.hid hA
    clear hidx hq hq' hcall hA
    unfold Plain at hK
    obtain ⟨g, rfl⟩ : ∃ g, a = some ⟨g, 0, none⟩ := by
      obtain ⟨g, _, _, hg, _⟩ := slR.at h.sl q hql
      exact ⟨g, hg⟩
    have hq0 : ((q : Int) == -1) = false := by simp <;> omega
    have hq1 : ¬ ((q : Int) = -1) := by omega
    go_enter Tryz.func157, Tryz.ntmps157
    go_wp2_with (go_at_call 160; refine Hidx.out.mono ?_; rintro e w2 ⟨rfl, hb2⟩)
    have h2 := h.below' good_fact hb2
    have hb2B : Below B w w2 := hb2.mono hB
    have hsz2 := hb2.size
    obtain ⟨rows, fs, ha, hl2, hown, hfe, hfr⟩ := h2
    have hrow := own_row hown
    have hgB := (own_lt hown g rfl)
    obtain ⟨z, rfl, hlz, rfl, hz⟩ := ha.zip
    have hzl : z.length = l.length := by rw [hlz]; simp
    have hz2 : ∀ t ∈ z, t.1.length = 2 := fun t ht => hl2 _ (List.mem_map.2 ⟨t, ht, rfl⟩)
    have hzd : ∀ j (hj : j < z.length) (hj' : j < l.length), z[j].2.1 = l[j] := fun j hj hj' => by simp [hlz]
    have hst : DelSt 2 (fun x => !p x) z q (q + 1) (z.map (·.1)) := DelSt.start (by omega) hz2 (fun t ht htq => by rw [hzd t ht (by omega), hpn t (by omega) htq]; rfl) (by rw [hzd q (by omega) hql, hpq]; rfl)
    have hnd : (g :: (z.map (·.2.2)).flatten).Nodup := by have := hfr.1; rw [hfe] at this; exact this
    have hfB : ∀ k ∈ g :: (z.map (·.2.2)).flatten, B ≤ k := by have := hfr.2; rw [hfe] at this; exact this
    have hzlt : ∀ k ∈ (z.map (·.2.2)).flatten, k < w2.heap.size := fun k hk => ha.lt good_fact k hk
    have Hst := Lib.hid hst
    have Hlz := Lib.hid hlz
    have Hzl := Lib.hid hzl
    have Hz := Lib.hid hz
    have Hz2 := Lib.hid hz2
    have Hzd := Lib.hid hzd
    have Hnd := Lib.hid hnd
    have HfB := Lib.hid hfB
    have Hzlt := Lib.hid hzlt
    have Hrow := Lib.hid hrow
    have hgw2 := hgB.2
    have hgBB := hgB.1
    clear hst hzl hz hz2 hzd hnd hfB hzlt hrow hown ha hl2 hfr hfe hgB hpq hpn h hlz
    go_wp2
    go_loopw [5, 6, 7] (fun s5 s6 s7 wr => ∃ (i j : Nat) (cur : List (List Value)), s5 = .int .i64 i ∧ s6 = .int .i64 j ∧ i < j ∧ j ≤ l.length ∧ Hid (DelSt 2 (fun x => !p x) z i j cur) ∧ Hid (Row wr 79 2 (.slice (some ⟨g, 0, none⟩) l.length cap) l.length cur.flatten (some g)) ∧ Wrote [g] w2 wr) (fun _ s6 _ _ => l.length - (intOf s6).toNat)
    case atStart => exact ⟨q, q + 1, z.map (·.1), rfl, by go_num, by omega, by omega, Hst, Hrow, Wrote.refl _ _⟩
    case round =>
      obtain ⟨i, j, cur, rfl, rfl, hij, hjl, HD, HR, hwr⟩ := hrel
      have hbr : Below B w2 wr := hwr.below (by omega) (fun k hk => by rw [List.mem_singleton.1 hk]; exact hgBB)
      by_cases hlt : j < l.length
      · have hjz : j < z.length := by rw [Hzl.out]; exact hlt
        obtain ⟨vy, hcy, iy, hvy⟩ := Hz.out z[j] (List.getElem_mem hjz)
        have hfj : ∀ k ∈ z[j].2.2, k < w2.heap.size ∧ k ≠ g := fun k hk => by
          have hm : k ∈ (z.map (·.2.2)).flatten := List.mem_flatten.2 ⟨z[j].2.2, List.mem_map.2 ⟨z[j], List.getElem_mem hjz, rfl⟩, hk⟩
          exact ⟨Hzlt.out k hm, fun e => (List.nodup_cons.1 Hnd.out).1 (e ▸ hm)⟩
        have hvr : ints wr vy z[j].2.1.vals z[j].2.2 := hvy.frame fun k hk => hwr.block k (hfj k hk).1 (by simp; exact (hfj k hk).2)
        have hdj := Hzd.out j hjz hlt
        rw [hdj] at hvr hcy
        obtain ⟨ay, cy, rfl⟩ := slR.form hvr
        have hcj := HD.out.at hjz
        rw [hcy] at hcj
        have hgr := HR.out.at (by omega)
        obtain ⟨g', hg', _, hcell, hfz⟩ := hgr
        cases hg'
        have hc0 : wr.cell? ⟨g, j * 2, none⟩ = some (.int .i64 l[j].rel) := hcell _ _ (flat_get (HD.out.two) j _ 0 _ hcj rfl)
        have hc1 : wr.cell? ⟨g, j * 2 + 1, none⟩ = some (.slice ay l[j].vals.length cy) := hcell _ _ (flat_get (HD.out.two) j _ 1 _ hcj rfl)
        have hil : i < cur.length := by rw [HD.out.len]; omega
        obtain ⟨u0, u1, hu⟩ := len_two (HD.out.two cur[i] (List.getElem_mem hil))
        have hci : cur[i]? = some [u0, u1] := by rw [List.getElem?_eq_getElem hil, hu]
        have hd0 : wr.cell? ⟨g, i * 2, none⟩ = some u0 := hcell _ _ (flat_get (HD.out.two) i _ 0 _ hci rfl)
        have hd1 : wr.cell? ⟨g, i * 2 + 1, none⟩ = some u1 := hcell _ _ (flat_get (HD.out.two) i _ 1 _ hci rfl)
        have hz0 := hfz (i * 2)
        have hz1 := hfz (i * 2 + 1)
        have hgw := HR.out.lt g rfl
        have Hcy := Lib.hid hcy
        have Hci := Lib.hid hci
        have Hdj := Lib.hid hdj
        clear hcell hfz hcj hci hu hil hcy hdj hvy
        have hba : Below wr.heap.size wr (wr.alloc (.cells #[.int .i64 l[j].rel, .slice ay l[j].vals.length cy] 79)) := ba (Below.refl _ _)
        have hB2 : B ≤ w2.heap.size := by omega
        have hbw : Below B w (wr.alloc (.cells #[.int .i64 l[j].rel, .slice ay l[j].vals.length cy] 79)) := (hb2B.trans hbr).trans (hba.mono (Nat.le_trans hB2 hwr.size))
        have hvr1 := hvr.below' hba
        have hpj : p z[j].2.1 = p l[j] := by rw [Hdj.out]
        cases hp : p l[j] with
        | true =>
          have HD2 := Lib.hid (HD.out.skip hjz (show (!p z[j].2.1) = false by rw [hpj, hp]; rfl))
          have Hp := Lib.hid hp
          clear hp hpj
          go_wp2_with fail
          have hAk := HA.out l[j] (.slice ay l[j].vals.length cy)
          rw [hAk]
          clear hAk
          refine (HC.out l[j] (List.getElem_mem hlt) _ _ _ hbw hvr1).mono ?_
          rintro e w3 ⟨rfl, hb3⟩
          rw [Hp.out]
          have hb13 := bt hba hb3
          have HR3 := Lib.hid (HR.out.below' hb13)
          have hwr3 : Wrote [g] w2 w3 := hwr.trans (Wrote.of_below hb13)
          go_wp2
          go_roundw
          case rel => exact ⟨i, j + 1, cur, rfl, by go_num, by omega, by omega, HD2, HR3, hwr3⟩
          case measure => simp [intOf]; omega
        | false =>
          have HD2 := Lib.hid (HD.out.keep hjz hij (Hz2.out _ (List.getElem_mem hjz)) (show (!p z[j].2.1) = true by rw [hpj, hp]; rfl))
          have Hp := Lib.hid hp
          clear hp hpj
          go_wp2_with fail
          have hAk := HA.out l[j] (.slice ay l[j].vals.length cy)
          rw [hAk]
          clear hAk
          refine (HC.out l[j] (List.getElem_mem hlt) _ _ _ hbw hvr1).mono ?_
          rintro e w3 ⟨rfl, hb3⟩
          rw [Hp.out]
          have hb13 := bt hba hb3
          have HR3 := HR.out.below' hb13
          have hwr3 : Wrote [g] w2 w3 := hwr.trans (Wrote.of_below hb13)
          have e0 : w3.cell? ⟨wr.heap.size, 0, none⟩ = some (.int .i64 l[j].rel) := cell_below (cell_new wr _ _ 0 _ rfl) hb3
          have e1 : w3.cell? ⟨wr.heap.size, 1, none⟩ = some (.slice ay l[j].vals.length cy) := cell_below (cell_new wr _ _ 1 _ rfl) hb3
          have d0 := cell_below hd0 hb13
          have d1 := cell_below hd1 hb13
          have hzz := (bcell hb13).2
          have y0 : w3.frozen? ⟨g, i * 2, none⟩ = false := (hzz _ _ hgw).trans hz0
          have y1 : w3.frozen? ⟨g, i * 2 + 1, none⟩ = false := (hzz _ _ hgw).trans hz1
          have hne : ¬ (wr.heap.size = g) := by omega
          have hst := row_storeAll (sz := 2) (by decide) [.int .i64 l[j].rel, .slice ay l[j].vals.length cy] cur w3 i 0 [u0, u1] HD.out.two Hci.out rfl HR3
          have hs2 : storeAll w3 g (i * 2 + 0) [.int .i64 l[j].rel, .slice ay l[j].vals.length cy] = (w3.setCell ⟨g, i * 2, none⟩ (.int .i64 l[j].rel)).setCell ⟨g, i * 2 + 1, none⟩ (.slice ay l[j].vals.length cy) := rfl
          rw [hs2] at hst
          have e2 : cur.set i ([u0, u1].take 0 ++ [.int .i64 l[j].rel, .slice ay l[j].vals.length cy]) = cur.set i z[j].1 := by rw [Hcy.out]; rfl
          rw [e2] at hst
          have hwr4 : Wrote [g] w2 ((w3.setCell ⟨g, i * 2, none⟩ (.int .i64 l[j].rel)).setCell ⟨g, i * 2 + 1, none⟩ (.slice ay l[j].vals.length cy)) := (hwr3.setCell (by simp) _).setCell (by simp) _
          have HR4 := Lib.hid hst
          clear hst hs2 e2 HR3 hzz
          go_wp2
          go_roundw
          case rel => exact ⟨i + 1, j + 1, cur.set i z[j].1, by go_num, by go_num, by omega, by omega, HD2, HR4, hwr4⟩
          case measure => simp [intOf]; omega
      · have hjl2 : j = l.length := by omega
        subst hjl2
        obtain ⟨hrl, hrr⟩ := HR.out
        rcases hrr with ⟨_, _, _, ho⟩ | ⟨g', cap', X, hv, ho, hgX, hcap, hcm, hXs, hXt⟩
        · cases ho
        · cases hv
          obtain ⟨X, rfl⟩ : ∃ cl : List Value, X = cl.toArray := ⟨X.toList, by simp⟩
          have hXs' : X.length = cap * 2 := by simpa using hXs
          have hXt' : X.take (l.length * 2) = cur.flatten := by simpa using hXt
          have hD := HD.out
          have hkl : keptT (fun x => !p x) z l.length = z.filter fun t => !p t.2.1 := by
            unfold keptT; rw [List.take_of_length_le (Nat.le_of_eq Hzl.out)]
          have hkd : (keptT (fun x => !p x) z l.length).map (·.2.1) = l.filter fun x => !p x := by
            have h1 := keptT_data (fun x => !p x) z l.length
            rw [← Hlz.out, List.take_length] at h1
            exact h1
          have hki : i = (l.filter fun x => !p x).length := by rw [← hkd, List.length_map]; exact hD.cnt
          have hXi : X.take (i * 2) = ((keptT (fun x => !p x) z l.length).map (·.1)).flatten := by
            rw [← hD.head, ← flat_take hD.two (by rw [hD.len, Hzl.out]; omega), ← hXt', List.take_take, Nat.min_eq_left (by omega)]
          have HX := Lib.hid hXi
          have Hki := Lib.hid hki
          have Hkd := Lib.hid hkd
          have HgX := Lib.hid hgX
          have hni : i < l.length := hij
          have hci : ¬ (cap = i) := by omega
          have hcm' : cap ≤ 9223372036854775807 := hcm
          have hil : (i : Int) ≤ (l.length : Int) := by omega
          have HXs := Lib.hid hXs'
          clear hD hkl hkd hki hXi hgX hXs hXt hXs' hXt' hcm hrl ho
          go_wp2_with ((with_reducible refine (show wpList _ _ _ (⟨none, _, _, _, _, _⟩ :: _) _ _ from ?_)); refine wpList_clear_z slFactS rfl (.tmp 38) rfl g (i * 2) (l.length - i) (cap - i) rfl (by omega) X HgX.out (by rw [HXs.out]; omega) (by simp [Value.cells, Value.oneCell']) ?_; intro w4 X4 HG4 HT4 HL4 hgr4)
          have hwr4 : Wrote [g] w2 w4 := hwr.trans ⟨hgr4.os, hgr4.tape, hgr4.output, hgr4.size, fun k hk hkn => hgr4.block k hk (fun e => hkn (by cases e; simp))⟩
          have hsub := keptT_sub (fun x => !p x) z l.length
          have hall : All factR w4 ((keptT (fun x => !p x) z l.length).map (·.1)) ((keptT (fun x => !p x) z l.length).map (·.2.1)) ((keptT (fun x => !p x) z l.length).map (·.2.2)) := All.unzip _ fun t ht => by
            have htz := hsub.subset ht
            refine good_fact.frame (Hz.out t htz) fun k hk => ?_
            have hm : k ∈ (z.map (·.2.2)).flatten := List.mem_flatten.2 ⟨t.2.2, List.mem_map.2 ⟨t, htz, rfl⟩, hk⟩
            exact hwr4.block k (Hzlt.out k hm) (by simp; exact fun e => (List.nodup_cons.1 Hnd.out).1 (e ▸ hm))
          rw [Hkd.out] at hall
          have hnd2 := List.nodup_cons.1 Hnd.out
          have hfin : grR 79 2 factR B w4 (.slice (some ⟨g, 0, none⟩) i cap) (l.filter fun x => !p x) (g :: ((keptT (fun x => !p x) z l.length).map (·.2.2)).flatten) := by
            refine ⟨_, _, hall, fun c hc => ?_, ?_, by simp [Value.ownBlock], List.nodup_cons.2 ⟨fun hm => hnd2.1 (flat_sub hsub g hm), nodup_sub hsub hnd2.2⟩, fun k hk => ?_⟩
            · obtain ⟨t, ht, rfl⟩ := List.mem_map.1 hc
              exact Hz2.out t (hsub.subset ht)
            · rw [← Hki.out]
              refine ⟨?_, .inr ⟨g, cap, X4.toArray, rfl, hgBB, HG4.out, by omega, by unfold maxLen; omega, by have := HL4.out; have := HXs.out; simp; omega, by have := HT4.out; have := HX.out; simp; rw [HT4.out, HX.out]⟩⟩
              have h1 := congrArg List.length HX.out
              rw [List.length_take, HXs.out, Nat.min_eq_left (by omega)] at h1
              exact h1.symm
            · rcases List.mem_cons.1 hk with rfl | hk
              · exact hgBB
              · exact HfB.out k (by simp only [List.mem_cons]; exact .inr (flat_sub hsub k hk))
          have hbf : Below B w w4 := hb2B.trans (hwr4.below (by omega) fun k hk => by rw [List.mem_singleton.1 hk]; exact hgBB)
          go_wp2
          go_ret
          exact ⟨.slice (some ⟨g, 0, none⟩) i cap, _, rfl, hfin, hbf⟩
set_option maxRecDepth 100000 in
set_option maxHeartbeats 1600000 in
theorem matches1_any (m : MethD) (vals : List Int) (y : FactD) (vi vv vx : Value) (fi fv fx : List Nat) (gm ga : Nat) (w : World) (hi : ints w vi m.inputs fi) (hv : ints w vv vals fv) (hx : ints w vx y.vals fx) (H : Fit m vals y)
    (m0 : w.cell? ⟨gm, 0, none⟩ = some (.int .i64 m.rel)) (m1 : w.cell? ⟨gm, 1, none⟩ = some vi) (a1 : w.cell? ⟨ga, 1, none⟩ = some vv) :
    Calls Tryz.prog 158 #[.agg #[.int .i64 y.rel, vx], .pointer (some ⟨gm, 0, none⟩), .pointer (some ⟨ga, 0, none⟩)] w fun e w' => e = .returned (.bool (!fitB m vals y)) ∧ Below w.heap.size w w' := by
  obtain ⟨rel, inputs, limit, cost, quota⟩ := m
  obtain ⟨r, xs⟩ := y
  obtain ⟨p, cp, rfl⟩ := slR.form hi
  obtain ⟨v, cv, rfl⟩ := slR.form hv
  obtain ⟨x, cx, rfl⟩ := slR.form hx
  have hla := slR.le_max hi
  have HF := Lib.hid H
  clear H
  have hi2 := hi.al (.cells #[.int .i64 r, .slice x xs.length cx] 79)
  have hv2 := hv.al (.cells #[.int .i64 r, .slice x xs.length cx] 79)
  have hx2 := hx.al (.cells #[.int .i64 r, .slice x xs.length cx] 79)
  have n0 := fun o => cell_al m0 o
  have n1 := fun o => cell_al m1 o
  have b1 := fun o => cell_al a1 o
  have hgm := lt_of_cell m0
  have hga := lt_of_cell a1
  have hb0 : Below w.heap.size w (w.alloc (.cells #[.int .i64 r, .slice x xs.length cx] 79)) := ba (Below.refl _ _)
  by_cases hr : r = rel
  · have Hr := Lib.hid hr
    have hne : (r != rel) = false := by simp [hr]
    clear hr
    go_enter Tryz.func158, Tryz.ntmps158
    go_wp2
    go_loopw [5, 6, 15] (fun s5 s6 i wr => ∃ k n : Nat, i = .int .i64 k ∧ k ≤ inputs.length ∧ Hid (∀ j, j < k → fitBad ⟨rel, inputs, limit, cost, quota⟩ vals ⟨r, xs⟩ j = false) ∧ wr = (w.alloc (.cells #[.int .i64 r, .slice x xs.length cx] 79)).drewN n) (fun _ _ i _ => inputs.length - (intOf i).toNat)
    case atStart => exact ⟨0, 0, rfl, Nat.zero_le _, Lib.hid (fun j h0 => by omega), rfl⟩
    case round =>
      obtain ⟨k, n, rfl, hk, HN, rfl⟩ := hrel
      by_cases hlt : k < inputs.length
      · obtain ⟨hl1, hq1⟩ := HF.out
        obtain ⟨q, hq, hqx⟩ := hq1 Hr.out k hlt
        have hkv : k < vals.length := Nat.lt_of_lt_of_le hlt hl1
        have Hb := Lib.hid (fitBad_at (m := ⟨rel, inputs, limit, cost, quota⟩) (vals := vals) (x := ⟨r, xs⟩) hlt hkv hq hqx)
        obtain ⟨g1, hg1, hc1, _, _, _⟩ := hi2.get k hlt
        obtain ⟨g2, hg2, hc2, _, _, _⟩ := hv2.get k hkv
        obtain ⟨g3, hg3, hc3, _, _, _⟩ := hx2.get q hqx
        rw [show inputs[k] = (q : Int) from hq] at hc1
        clear hl1 hq1 hq
        have hk1 : (k : Int) < (inputs.length : Int) := by omega
        have hk2 : (k : Int) < (vals.length : Int) := by omega
        have hk3 : (q : Int) < (xs.length : Int) := Int.ofNat_lt.2 hqx
        have hk0 : (0 : Int) ≤ (k : Int) := Int.natCast_nonneg _
        have hk00 : (0 : Int) ≤ (q : Int) := Int.natCast_nonneg _
        subst hg1 hg2 hg3
        cases hb : (xs[q] != vals[k]) with
        | true =>
          have Hf := Lib.hid (fitB_bad (m := ⟨rel, inputs, limit, cost, quota⟩) (vals := vals) (x := ⟨r, xs⟩) hlt (Hb.out.trans hb))
          go_wp2
          go_quiet (fail)
          go_wp2
          go_ret
          exact ⟨ret_bool (by rw [Hf.out]; rfl), by repeat (first | exact Below.refl _ _ | refine bdn ?_ | refine ba ?_)⟩
        | false =>
          have HN2 := Lib.hid (anyN_step HN.out (Hb.out.trans hb))
          go_wp2
          go_quiet (fail)
          go_wp2
          go_roundw
          case rel => exact ⟨k + 1, _, by go_num, by omega, HN2, rfl⟩
          case measure => simp [intOf]; omega
      · have hkl : k = inputs.length := by omega
        have Hf := Lib.hid (fitB_end (m := ⟨rel, inputs, limit, cost, quota⟩) (vals := vals) (x := ⟨r, xs⟩) Hr.out hkl HN.out)
        clear hkl
        go_wp2
        go_ret
        exact ⟨ret_bool (by rw [Hf.out]; rfl), by repeat (first | exact Below.refl _ _ | refine bdn ?_ | refine ba ?_)⟩
  · have Hf := Lib.hid (fitB_rel (m := ⟨rel, inputs, limit, cost, quota⟩) (vals := vals) (x := ⟨r, xs⟩) hr)
    have hne : (r != rel) = true := by simp [hr]
    go_enter Tryz.func158, Tryz.ntmps158
    go_wp2
    go_ret
    exact ⟨ret_bool (by rw [Hf.out]; rfl), hb0⟩
set_option maxRecDepth 100000 in
set_option maxHeartbeats 3200000 in
theorem matches_any (l : List MethD) (fa : List FactD) (q : Nat) (vals : List Int) (vl vf vx : Value) (fl ff fx : List Nat) (w : World) (hl : meths w vl l fl) (hf : facts w vf fa ff) (hx : ints w vx vals fx) (hq : q < l.length) (H : ∀ y ∈ fa, Fit l[q] vals y) (hn : fa.length ≤ 1048576) (hln : ∀ y ∈ fa, y.vals.length ≤ 1048576) :
    Calls Tryz.prog 84 #[vl, vf, .agg #[.int .i64 q, vx]] w fun e w' => ∃ v' f', e = .returned v' ∧ grR 79 2 factR w.heap.size w' v' (fa.filter (fitB l[q] vals)) f' ∧ Below w.heap.size w w' := by
  obtain ⟨pl, cl, rfl⟩ := slR.form hl
  obtain ⟨pf, cf, rfl⟩ := slR.form hf
  obtain ⟨px, cx, rfl⟩ := slR.form hx
  have hP := plain_of Tryz.func158 (by kernel_rfl) (by kernel_rfl)
  have hla := slR.le_max hl
  obtain ⟨g, vi, fi, rfl, c0, c1, c2, c3, c4, hvi⟩ := hl.get q hq
  obtain ⟨pi, ci, rfl⟩ := slR.form hvi
  have hk0 : (0 : Int) ≤ (q : Int) := Int.natCast_nonneg _
  have hk1 : (q : Int) < (l.length : Int) := by omega
  have HH := Lib.hid H
  have Hln := Lib.hid hln
  have hgw := lt_of_cell c0
  clear H hln
  have d0 := fun o => cell_al c0 o
  have d1 := fun o => cell_al c1 o
  have d2 := fun o => cell_al c2 o
  have d3 := fun o => cell_al c3 o
  have d4 := fun o => cell_al c4 o
  have hff : (fa.filter fun x => !!fitB l[q] vals x) = fa.filter (fitB l[q] vals) := by congr 1; funext x; simp
  have Hff := Lib.hid hff
  have hW : Below w.heap.size w ((w.alloc (.cells #[.int .i64 (q : Int), .slice px vals.length cx] 28)).alloc (.cells #[.int .i64 l[q].rel, .slice pi l[q].inputs.length ci, .int .i64 l[q].limit, .int .i64 l[q].cost, .int .i64 l[q].quota] 38)) := ba (ba (Below.refl _ _))
  have hm0 : ((w.alloc (.cells #[.int .i64 (q : Int), .slice px vals.length cx] 28)).alloc (.cells #[.int .i64 l[q].rel, .slice pi l[q].inputs.length ci, .int .i64 l[q].limit, .int .i64 l[q].cost, .int .i64 l[q].quota] 38)).cell? ⟨w.heap.size + 1, 0, none⟩ = some (.int .i64 l[q].rel) := cell_at _ _ (by simp) _ _ 0 _ rfl
  have hm1 : ((w.alloc (.cells #[.int .i64 (q : Int), .slice px vals.length cx] 28)).alloc (.cells #[.int .i64 l[q].rel, .slice pi l[q].inputs.length ci, .int .i64 l[q].limit, .int .i64 l[q].cost, .int .i64 l[q].quota] 38)).cell? ⟨w.heap.size + 1, 1, none⟩ = some (.slice pi l[q].inputs.length ci) := cell_at _ _ (by simp) _ _ 1 _ rfl
  have ha1 : ((w.alloc (.cells #[.int .i64 (q : Int), .slice px vals.length cx] 28)).alloc (.cells #[.int .i64 l[q].rel, .slice pi l[q].inputs.length ci, .int .i64 l[q].limit, .int .i64 l[q].cost, .int .i64 l[q].quota] 38)).cell? ⟨w.heap.size, 1, none⟩ = some (.slice px vals.length cx) := cell_al (cell_new w _ _ 1 _ rfl) _
  obtain ⟨W, hWe⟩ : ∃ W, W = ((w.alloc (.cells #[.int .i64 (q : Int), .slice px vals.length cx] 28)).alloc (.cells #[.int .i64 l[q].rel, .slice pi l[q].inputs.length ci, .int .i64 l[q].limit, .int .i64 l[q].cost, .int .i64 l[q].quota] 38)) := ⟨_, rfl⟩
  rw [← hWe] at hW hm0 hm1 ha1
  have HW := Lib.hid hWe
  clear hWe
  have hfW := hf.below' hW
  have hxW := hx.below' hW
  have hiW := hvi.below' hW
  go_enter Tryz.func84, Tryz.ntmps84
  go_wp2_with fail
  rw [← HW.out]
  refine (copyFacts_any _ fa ff _ hfW hn Hln.out).mono ?_
  rintro e w1 ⟨v1, f1, rfl, hg1, hb1⟩
  go_wp2_with fail
  refine (deleteFuncFact_any W.heap.size _ hP #[.pointer (some ⟨w.heap.size + 1, 0, none⟩), .pointer (some ⟨w.heap.size, 0, none⟩)] (fun y vy => #[.agg #[.int .i64 y.rel, vy], .pointer (some ⟨w.heap.size + 1, 0, none⟩), .pointer (some ⟨w.heap.size, 0, none⟩)]) (fun _ _ => rfl) (fun y => !fitB l[q] vals y) _ fa f1 _ hg1 hb1.size hn
    (fun y hy w' vy fy hb hvy => matches1_any l[q] vals y _ _ _ fi fx fy _ _ w' (hiW.below' (hb1.trans hb)) (hxW.below' (hb1.trans hb)) hvy (HH.out y hy) (cell_below hm0 (hb1.trans hb)) (cell_below hm1 (hb1.trans hb)) (cell_below ha1 (hb1.trans hb)))).mono ?_
  rintro e w2 ⟨v2, f2, rfl, hg2, hb2⟩
  rw [Hff.out] at hg2
  have hszW := hW.size
  obtain ⟨rows, fs, r1, r2, r3, r4, r5⟩ := hg2
  have hfin : grR 79 2 factR w.heap.size w2 v2 (fa.filter (fitB l[q] vals)) f2 := ⟨rows, fs, r1, r2, ⟨r3.1, r3.2.imp id fun ⟨g, cap, cur, a1, a2, a3⟩ => ⟨g, cap, cur, a1, Nat.le_trans hszW a2, a3⟩⟩, r4, r5.mono hszW⟩
  have hbf := hW.trans ((hb1.trans hb2).mono hszW)
  clear r1 r2 r3 r4 r5
  go_wp2
  go_ret
  exact ⟨v2, f2, rfl, hfin, hbf⟩
end Go.Proofs.YtpdmdfkcaabnaaaGreatDoor
/- MatchesOf, of the reference and of the program. Condition: sizes up to 2^20. -/
namespace Go.Proofs.YtpdmdfkcaabnaaaGreatDoor
open Go.RowKit
set_option linter.unusedVariables false
set_option linter.unusedSimpArgs false
theorem matchesL_no1 {s : List Int} {l : List MethD} {fa : List FactD} {a : AccD} (h : accB s l a = false) : matchesL s l fa a = [] := by unfold matchesL; rw [h]; rfl
theorem matchesL_no2 {s : List Int} {l : List MethD} {fa : List FactD} {a : AccD} (h : factsB s fa = false) : matchesL s l fa a = [] := by unfold matchesL; rw [h]; simp
theorem matchesL_yes {s : List Int} {l : List MethD} {fa : List FactD} {vals : List Int} {q : Nat} (hq : q < l.length) (h : accB s l ⟨q, vals⟩ = true) (h2 : factsB s fa = true) : matchesL s l fa ⟨q, vals⟩ = fa.filter (fitB l[q] vals) := by
  unfold matchesL; rw [h, h2, methAt_nat hq]; rfl

set_option maxRecDepth 100000 in
set_option maxHeartbeats 3200000 in
theorem specMatchesOf_any (vs : Value) (s : List Int) (fs : List Nat) (vl : Value) (l : List MethD) (fl : List Nat) (vf : Value) (fa : List FactD) (ff : List Nat) (x : AccD) (vx : Value) (fx : List Nat) (w : World) (hs : ints w vs s fs) (hl : meths w vl l fl) (hf : facts w vf fa ff) (hx : ints w vx x.vals fx) (hn : fa.length ≤ 1048576) (hln : ∀ y ∈ fa, y.vals.length ≤ 1048576) :
    Calls Tryz.prog 12 #[vs, vl, vf, .agg #[.int .i64 x.meth, vx]] w fun e w' => ∃ v' f', e = .returned v' ∧ facts w' v' (matchesL s l fa x) f' ∧ Fresh w.heap.size f' ∧ Below w.heap.size w w' := by
  obtain ⟨m, vals⟩ := x
  obtain ⟨ps, cs, rfl⟩ := slR.form hs
  obtain ⟨pl, cl, rfl⟩ := slR.form hl
  obtain ⟨pf, cf, rfl⟩ := slR.form hf
  obtain ⟨px, cx, rfl⟩ := slR.form hx
  have hla := slR.le_max hl
  have Hln := Lib.hid hln
  have hb0 : Below w.heap.size w (w.alloc (.cells #[.int .i64 m, .slice px vals.length cx] 28)) := ba (Below.refl _ _)
  have hs0 := hs.below' hb0
  have hl0 := hl.below' hb0
  have hf0 := hf.below' hb0
  have hx0 := hx.below' hb0
  have c0 : (w.alloc (.cells #[.int .i64 m, .slice px vals.length cx] 28)).cell? ⟨w.heap.size, 0, none⟩ = some (.int .i64 m) := cell_new w _ _ 0 _ rfl
  have c1 : (w.alloc (.cells #[.int .i64 m, .slice px vals.length cx] 28)).cell? ⟨w.heap.size, 1, none⟩ = some (.slice px vals.length cx) := cell_new w _ _ 1 _ rfl
  clear hln
  cases hA : accB s l ⟨m, vals⟩ with
  | false =>
    have Hf := Lib.hid (matchesL_no1 (fa := fa) hA)
    have HIA := Lib.hid (show Calls Tryz.prog 14 #[.slice ps s.length cs, .slice pl l.length cl, .agg #[.int .i64 m, .slice px vals.length cx]] (w.alloc (.cells #[.int .i64 m, .slice px vals.length cx] 28)) (fun e w' => e = .returned (.bool false) ∧ Below (w.alloc (.cells #[.int .i64 m, .slice px vals.length cx] 28)).heap.size (w.alloc (.cells #[.int .i64 m, .slice px vals.length cx] 28)) w') from retBB (specIsAccess_any _ s fs _ l fl ⟨m, vals⟩ _ fx _ hs0 hl0 hx0) hA)
    go_enter Tryz.func12, Tryz.ntmps12
    go_wp2_with (first
      | (go_at_call 14; refine HIA.out.mono ?_; rintro e w2 ⟨rfl, hb2⟩; have e0 := cell_below c0 hb2; have e1 := cell_below c1 hb2))
    have hbw := bt hb0 hb2
    have hg0 := grR.lit (w := w2) (B := w.heap.size) (E := 79) (sz := 2) factR hbw.size (Nat.le_refl _)
    go_ret
    exact ⟨.slice (some ⟨w2.heap.size, 0, none⟩) 0 0, _, rfl, by rw [Hf.out]; exact hg0.sl, hg0.fresh, ba hbw⟩
  | true =>
    have HIA := Lib.hid (show Calls Tryz.prog 14 #[.slice ps s.length cs, .slice pl l.length cl, .agg #[.int .i64 m, .slice px vals.length cx]] (w.alloc (.cells #[.int .i64 m, .slice px vals.length cx] 28)) (fun e w' => e = .returned (.bool true) ∧ Below (w.alloc (.cells #[.int .i64 m, .slice px vals.length cx] 28)).heap.size (w.alloc (.cells #[.int .i64 m, .slice px vals.length cx] 28)) w') from retBB (specIsAccess_any _ s fs _ l fl ⟨m, vals⟩ _ fx _ hs0 hl0 hx0) hA)
    cases hF : factsB s fa with
    | false =>
      have Hf := Lib.hid (matchesL_no2 (l := l) (a := ⟨m, vals⟩) hF)
      go_enter Tryz.func12, Tryz.ntmps12
      go_wp2_with (first
        | (go_at_call 14; refine HIA.out.mono ?_; rintro e w2 ⟨rfl, hb2⟩; have e0 := cell_below c0 hb2; have e1 := cell_below c1 hb2)
        | (go_at_call 15; refine (retBB (specAreFacts_any _ s fs _ fa ff _ (hs0.below' hb2) (hf0.below' hb2)) hF).mono ?_; rintro e w3 ⟨rfl, hb3⟩; have hb23 := bt hb2 hb3; have e2 := cell_below c0 hb23; have e3 := cell_below c1 hb23))
      have hbw := bt hb0 hb23
      have hg0 := grR.lit (w := w3) (B := w.heap.size) (E := 79) (sz := 2) factR hbw.size (Nat.le_refl _)
      go_ret
      exact ⟨.slice (some ⟨w3.heap.size, 0, none⟩) 0 0, _, rfl, by rw [Hf.out]; exact hg0.sl, hg0.fresh, ba hbw⟩
    | true =>
      obtain ⟨q, hm, hq, hzz1, hzz2, hfit⟩ := fit_of hA
      clear hzz1 hzz2
      have hm' : m = (q : Int) := hm
      subst hm'
      have Hf := Lib.hid (matchesL_yes hq hA hF)
      have hH : ∀ y ∈ fa, Fit l[q] vals y := fun y hy => hfit y (factB_of_facts hF y hy)
      have HH := Lib.hid hH
      have hk0 : (0 : Int) ≤ (q : Int) := Int.natCast_nonneg _
      have hk1 : (q : Int) < (l.length : Int) := by omega
      obtain ⟨g, vi, fi, rfl, m0, m1, m2, m3, m4, hvi⟩ := hl0.get q hq
      obtain ⟨pi, ci, rfl⟩ := slR.form hvi
      have HF := Lib.hid hF
      have hIA2 := HIA.out
      clear hfit hH hm hA hF HIA
      have HIA := Lib.hid hIA2
      clear hIA2
      go_enter Tryz.func12, Tryz.ntmps12
      go_wp2_with (first
        | (go_at_call 14; refine HIA.out.mono ?_; rintro e w2 ⟨rfl, hb2⟩; have e0 := cell_below c0 hb2; have e1 := cell_below c1 hb2)
        | (go_at_call 15; refine (retBB (specAreFacts_any _ s fs _ fa ff _ (hs0.below' hb2) (hf0.below' hb2)) HF.out).mono ?_; rintro e w3 ⟨rfl, hb3⟩; have hb23 := bt hb2 hb3; have e2 := cell_below c0 hb23; have e3 := cell_below c1 hb23))
      have hb03 := bt hb0 hb23
      have uc0 : w3.cell? ⟨w.heap.size, 0, none⟩ = some (.int .i64 (q : Int)) := cell_below c0 hb23
      have uc1 : w3.cell? ⟨w.heap.size, 1, none⟩ = some (.slice px vals.length cx) := cell_below c1 hb23
      have um0 : w3.cell? ⟨g, q * 5, none⟩ = some (.int .i64 l[q].rel) := cell_below m0 hb23
      have um1 : w3.cell? ⟨g, q * 5 + 1, none⟩ = some (.slice pi l[q].inputs.length ci) := cell_below m1 hb23
      have um2 : w3.cell? ⟨g, q * 5 + 2, none⟩ = some (.int .i64 l[q].limit) := cell_below m2 hb23
      have um3 : w3.cell? ⟨g, q * 5 + 3, none⟩ = some (.int .i64 l[q].cost) := cell_below m3 hb23
      have um4 : w3.cell? ⟨g, q * 5 + 4, none⟩ = some (.int .i64 l[q].quota) := cell_below m4 hb23
      go_region_held3 (fun w' => w'.cell? ⟨w.heap.size, 0, none⟩ = some (.int .i64 (q : Int)) ∧ w'.cell? ⟨w.heap.size, 1, none⟩ = some (.slice px vals.length cx) ∧ w'.cell? ⟨g, q * 5, none⟩ = some (.int .i64 l[q].rel) ∧ w'.cell? ⟨g, q * 5 + 1, none⟩ = some (.slice pi l[q].inputs.length ci) ∧ w'.cell? ⟨g, q * 5 + 2, none⟩ = some (.int .i64 l[q].limit) ∧ w'.cell? ⟨g, q * 5 + 3, none⟩ = some (.int .i64 l[q].cost) ∧ w'.cell? ⟨g, q * 5 + 4, none⟩ = some (.int .i64 l[q].quota)) (first | exact ⟨uc0, uc1, um0, um1, um2, um3, um4⟩ | exact ⟨zc0, zc1, zm0, zm1, zm2, zm3, zm4⟩)
        (first
          | (go_at_call 85
             refine (l5Matches_any l[q] vals _ _ fi fx _ fa ff _ (hvi.below' ?_) (hx0.below' ?_) (hf0.below' ?_) HH.out hn Hln.out).mono ?_
             · (repeat (first | exact hb23 | refine bdr ?_))
             · (repeat (first | exact hb23 | refine bdr ?_))
             · (repeat (first | exact hb23 | refine bdr ?_))
             rintro e w4 ⟨v4, f4, rfl, hu4, hfr4, hb4⟩
             have D34 : Below w3.heap.size w3 w4 := bt (by (repeat (first | exact Below.refl _ _ | refine bdr ?_))) hb4
             have D4 := bt hb23 D34
             have zc0 : w4.cell? ⟨w.heap.size, 0, none⟩ = some (.int .i64 (q : Int)) := cell_below c0 D4
             have zc1 : w4.cell? ⟨w.heap.size, 1, none⟩ = some (.slice px vals.length cx) := cell_below c1 D4
             have zm0 : w4.cell? ⟨g, q * 5, none⟩ = some (.int .i64 l[q].rel) := cell_below m0 D4
             have zm1 : w4.cell? ⟨g, q * 5 + 1, none⟩ = some (.slice pi l[q].inputs.length ci) := cell_below m1 D4
             have zm2 : w4.cell? ⟨g, q * 5 + 2, none⟩ = some (.int .i64 l[q].limit) := cell_below m2 D4
             have zm3 : w4.cell? ⟨g, q * 5 + 3, none⟩ = some (.int .i64 l[q].cost) := cell_below m3 D4
             have zm4 : w4.cell? ⟨g, q * 5 + 4, none⟩ = some (.int .i64 l[q].quota) := cell_below m4 D4
             have hfr5 : Fresh w3.heap.size f4 := hfr4.mono (Nat.le_of_eq rfl)))
      have hfr6 := hfr5.mono hb03.size
      have hbf := bt hb03 D34
      have hfin : facts w4 v4 (matchesL s l fa ⟨(q : Int), vals⟩) f4 := by rw [Hf.out]; exact hu4
      go_wp2
      go_ret
      exact ⟨v4, f4, rfl, hfin, hfr6, hbf⟩
set_option maxRecDepth 100000 in
set_option maxHeartbeats 3200000 in
theorem implMatchesOf_any (vs : Value) (s : List Int) (fs : List Nat) (vl : Value) (l : List MethD) (fl : List Nat) (vf : Value) (fa : List FactD) (ff : List Nat) (x : AccD) (vx : Value) (fx : List Nat) (w : World) (hs : ints w vs s fs) (hl : meths w vl l fl) (hf : facts w vf fa ff) (hx : ints w vx x.vals fx) (hn : fa.length ≤ 1048576) (hln : ∀ y ∈ fa, y.vals.length ≤ 1048576) :
    Calls Tryz.prog 9 #[vs, vl, vf, .agg #[.int .i64 x.meth, vx]] w fun e w' => ∃ v' f', e = .returned v' ∧ facts w' v' (matchesL s l fa x) f' ∧ Fresh w.heap.size f' ∧ Below w.heap.size w w' := by
  obtain ⟨m, vals⟩ := x
  obtain ⟨ps, cs, rfl⟩ := slR.form hs
  obtain ⟨pl, cl, rfl⟩ := slR.form hl
  obtain ⟨pf, cf, rfl⟩ := slR.form hf
  obtain ⟨px, cx, rfl⟩ := slR.form hx
  have hla := slR.le_max hl
  have Hln := Lib.hid hln
  have hb0 : Below w.heap.size w (w.alloc (.cells #[.int .i64 m, .slice px vals.length cx] 28)) := ba (Below.refl _ _)
  have hs0 := hs.below' hb0
  have hl0 := hl.below' hb0
  have hf0 := hf.below' hb0
  have hx0 := hx.below' hb0
  have c0 : (w.alloc (.cells #[.int .i64 m, .slice px vals.length cx] 28)).cell? ⟨w.heap.size, 0, none⟩ = some (.int .i64 m) := cell_new w _ _ 0 _ rfl
  have c1 : (w.alloc (.cells #[.int .i64 m, .slice px vals.length cx] 28)).cell? ⟨w.heap.size, 1, none⟩ = some (.slice px vals.length cx) := cell_new w _ _ 1 _ rfl
  clear hln
  cases hA : accB s l ⟨m, vals⟩ with
  | false =>
    have Hf := Lib.hid (matchesL_no1 (fa := fa) hA)
    have HIA := Lib.hid (show Calls Tryz.prog 34 #[.slice ps s.length cs, .slice pl l.length cl, .agg #[.int .i64 m, .slice px vals.length cx]] (w.alloc (.cells #[.int .i64 m, .slice px vals.length cx] 28)) (fun e w' => e = .returned (.bool false) ∧ Below (w.alloc (.cells #[.int .i64 m, .slice px vals.length cx] 28)).heap.size (w.alloc (.cells #[.int .i64 m, .slice px vals.length cx] 28)) w') from retBB (implIsAccess_any _ s fs _ l fl ⟨m, vals⟩ _ fx _ hs0 hl0 hx0) hA)
    go_enter Tryz.func9, Tryz.ntmps9
    go_wp2_with (first
      | (go_at_call 34; refine HIA.out.mono ?_; rintro e w2 ⟨rfl, hb2⟩; have e0 := cell_below c0 hb2; have e1 := cell_below c1 hb2))
    have hbw := bt hb0 hb2
    go_ret
    exact ⟨.slice none 0 0, [], rfl, by rw [Hf.out]; exact slR.nilv _ _ _ _, Fresh.nil _, hbw⟩
  | true =>
    have HIA := Lib.hid (show Calls Tryz.prog 34 #[.slice ps s.length cs, .slice pl l.length cl, .agg #[.int .i64 m, .slice px vals.length cx]] (w.alloc (.cells #[.int .i64 m, .slice px vals.length cx] 28)) (fun e w' => e = .returned (.bool true) ∧ Below (w.alloc (.cells #[.int .i64 m, .slice px vals.length cx] 28)).heap.size (w.alloc (.cells #[.int .i64 m, .slice px vals.length cx] 28)) w') from retBB (implIsAccess_any _ s fs _ l fl ⟨m, vals⟩ _ fx _ hs0 hl0 hx0) hA)
    cases hF : factsB s fa with
    | false =>
      have Hf := Lib.hid (matchesL_no2 (l := l) (a := ⟨m, vals⟩) hF)
      go_enter Tryz.func9, Tryz.ntmps9
      go_wp2_with (first
        | (go_at_call 34; refine HIA.out.mono ?_; rintro e w2 ⟨rfl, hb2⟩; have e0 := cell_below c0 hb2; have e1 := cell_below c1 hb2)
        | (go_at_call 75; refine (retBB (implAreFacts_any _ s fs _ fa ff _ (hs0.below' hb2) (hf0.below' hb2)) hF).mono ?_; rintro e w3 ⟨rfl, hb3⟩; have hb23 := bt hb2 hb3; have e2 := cell_below c0 hb23; have e3 := cell_below c1 hb23))
      have hbw := bt hb0 hb23
      go_ret
      exact ⟨.slice none 0 0, [], rfl, by rw [Hf.out]; exact slR.nilv _ _ _ _, Fresh.nil _, hbw⟩
    | true =>
      obtain ⟨q, hm, hq, hzz1, hzz2, hfit⟩ := fit_of hA
      clear hzz1 hzz2
      have hm' : m = (q : Int) := hm
      subst hm'
      have Hf := Lib.hid (matchesL_yes hq hA hF)
      have hH : ∀ y ∈ fa, Fit l[q] vals y := fun y hy => hfit y (factB_of_facts hF y hy)
      have HH := Lib.hid hH
      have hk0 : (0 : Int) ≤ (q : Int) := Int.natCast_nonneg _
      have hk1 : (q : Int) < (l.length : Int) := by omega
      obtain ⟨g, vi, fi, rfl, m0, m1, m2, m3, m4, hvi⟩ := hl0.get q hq
      obtain ⟨pi, ci, rfl⟩ := slR.form hvi
      have HF := Lib.hid hF
      have hIA2 := HIA.out
      clear hfit hH hm hA hF HIA
      have HIA := Lib.hid hIA2
      clear hIA2
      go_enter Tryz.func9, Tryz.ntmps9
      go_wp2_with (first
        | (go_at_call 34; refine HIA.out.mono ?_; rintro e w2 ⟨rfl, hb2⟩; have e0 := cell_below c0 hb2; have e1 := cell_below c1 hb2)
        | (go_at_call 75; refine (retBB (implAreFacts_any _ s fs _ fa ff _ (hs0.below' hb2) (hf0.below' hb2)) HF.out).mono ?_; rintro e w3 ⟨rfl, hb3⟩; have hb23 := bt hb2 hb3; have e2 := cell_below c0 hb23; have e3 := cell_below c1 hb23)
        | (go_at_call 84; refine (matches_any l fa q vals _ _ _ fl ff fx _ (hl0.below' hb23) (hf0.below' hb23) (hx0.below' hb23) hq HH.out hn Hln.out).mono ?_; rintro e w4 ⟨v4, f4, rfl, hg4, hb4⟩))
      have hb03 := bt hb0 hb23
      have hfr6 := hg4.fresh.mono hb03.size
      have hbf := bt hb03 hb4
      have hfin : facts w4 v4 (matchesL s l fa ⟨(q : Int), vals⟩) f4 := by rw [Hf.out]; exact hg4.sl
      go_ret
      exact ⟨v4, f4, rfl, hfin, hfr6, hbf⟩
end Go.Proofs.YtpdmdfkcaabnaaaGreatDoor
/- respond and RespondTo of the program. Conditions: sizes up to 2^20. -/
namespace Go.Proofs.YtpdmdfkcaabnaaaGreatDoor
open Go.RowKit
set_option linter.unusedVariables false
set_option linter.unusedSimpArgs false
/-- append of one element, with what is told of the blocks. -/
theorem wpList_gr2 {α : Type} {E : TypeId} {sz : Nat} {R : Rd α} {w : World} {v : Value} {l : List α} {f : List Nat} {P : Program} {T : TypeId} {z : Value} {bytes : Nat} (hT : SlT P T E z sz bytes) (hR : Good R) {w0 : World} {ops : Array Oper} {rest : List Oper} {o : Oper} {a : Act} {Q : Exit → Act → World → Prop}
    (hgd : o.guard = none) (s x : Operand) (ho : o.op = .call { callee := .builtin .append, args := #[s, x], argTypes := #[T, T] })
    (h : grR E sz R w0.heap.size w v l f) (hbel : Below w0.heap.size w0 w) (hs : a.eval s = v)
    (cs : Array Value) (d : α) (fx : List Nat) (hd : R w cs.toList d fx) (hcs : cs.size = sz) (hfx : Fresh w0.heap.size fx) (hdis : ∀ g ∈ fx, g ∉ f)
    (H : Nat) (hH : w.heap.size = H) (hx : a.eval x = .slice (some ⟨H, 0, none⟩) 1 1) (h1 : ∀ u ∈ cs.toList, u.oneCell' = true) (hn : (l.length + 1) * bytes ≤ 140737488355328) (hm : l.length + 1 ≤ maxLen)
    (k : ∀ g cap w' f', grR E sz R w0.heap.size w' (.slice (some ⟨g, 0, none⟩) (l.length + 1) cap) (l ++ [d]) f' → Below w0.heap.size w0 w' → w.grownBy w' v.ownBlock → Hid (v.ownBlock = some g ∨ w.heap.size ≤ g) → Hid (∀ j ∈ f', j ∈ f ∨ j ∈ fx ∨ w.heap.size ≤ j) → wpList P ops Q rest (a.put o.dst (.slice (some ⟨g, 0, none⟩) (l.length + 1) cap)) w') :
    wpList P ops Q (o :: rest) a (w.alloc (.cells cs E)) := by
  subst hH
  obtain ⟨i, hi, hz, hsz, hby⟩ := hT.inf
  obtain ⟨rows, fs, ha, hl, hown, rfl, hfr⟩ := h
  have hown1 : (w.alloc (.cells cs E)).ownsRow w0.heap.size E sz v l.length rows.flatten := hown.alloc _
  have hw1 : Below w.heap.size w (w.alloc (.cells cs E)) := ba (Below.refl _ _)
  have hlt := own_lt hown
  refine wpList_append_lies _ hgd s x T ho w0.heap.size E i z sz bytes hT.und hi hz hsz hby hT.zs hT.pos v l.length rows.flatten hs hown1 ⟨w.heap.size, 0, none⟩ 1 1 cs.toList hx (by simp [hcs])
    (World.news_of_block (heap_alloc_new w _)) h1 (by omega) hm hn (by simp; have := hbel.size; omega) (w.heap.size + 1) (by simp) ?_
  intro g cap w' h2 h3 h4 h5
  obtain ⟨f', hf', hsub⟩ := gr_mk hR ha hl hown hfr hd (by simp [hcs]) hfx hdis hw1 h3 h2 h4 (by omega)
  refine k g cap w' f' hf' (hbel.trans (below_of_grown (grownBy_trans (World.grownBy_alloc _ _ _) h3) hbel.size fun k hk => (hlt k hk).1)) (grownBy_trans (World.grownBy_alloc _ _ _) h3) (show _ ∨ _ from ?_) (show ∀ j ∈ f', _ from fun j hj => ?_)
  · rcases h4 with h | h
    · exact .inl h
    · exact .inr (by omega)
  · rcases hsub j hj with h | h | h
    · exact .inl h
    · exact .inr (.inl h)
    · exact .inr (.inr (by omega))
theorem max_nat (c : Int) : (if 0 < c then c else 0) = (c.toNat : Int) := by
  split <;> omega
set_option maxRecDepth 100000 in
set_option maxHeartbeats 6400000 in
theorem respond_any (l : List MethD) (fa : List FactD) (q : Nat) (vals : List Int) (c : Int) (vl vf vx : Value) (fl ff fx : List Nat) (w : World) (hl : meths w vl l fl) (hf : facts w vf fa ff) (hx : ints w vx vals fx) (hq : q < l.length) (H : ∀ y ∈ fa, Fit l[q] vals y) (hn : fa.length ≤ 1048576) (hln : ∀ y ∈ fa, y.vals.length ≤ 1048576)
    (x : List FactD) (hxe : fa.filter (fitB l[q] vals) = x) (L : Nat) (hL : l[q].limit = (L : Int)) (hL9 : L ≤ 9) (hasc : AscC cmpFact x) (res : List FactD) (hres : (if L = 0 ∨ x.length ≤ L then x else respS x (c.toNat % x.length) L) = res) :
    Calls Tryz.prog 83 #[vl, vf, .agg #[.int .i64 q, vx], .int .i64 c] w fun e w' => ∃ v' f', e = .returned v' ∧ facts w' v' res f' ∧ Fresh w.heap.size f' ∧ Below w.heap.size w w' := by
  obtain ⟨pl, cl, rfl⟩ := slR.form hl
  obtain ⟨pf, cf, rfl⟩ := slR.form hf
  obtain ⟨px, cx, rfl⟩ := slR.form hx
  have hla := slR.le_max hl
  have hxn : x.length ≤ 1048576 := by rw [← hxe]; exact Nat.le_trans (List.length_filter_le _ _) hn
  have HH := Lib.hid H
  have Hln := Lib.hid hln
  have Hxe := Lib.hid hxe
  have Hasc := Lib.hid hasc
  have Hres := Lib.hid hres
  obtain ⟨W1, hW1⟩ : ∃ W1, W1 = w.alloc (.cells #[.int .i64 (q : Int), .slice px vals.length cx] 28) := ⟨_, rfl⟩
  have hb0 : Below w.heap.size w W1 := by rw [hW1]; exact ba (Below.refl _ _)
  have b0 : W1.cell? ⟨w.heap.size, 0, none⟩ = some (.int .i64 (q : Int)) := by rw [hW1]; exact cell_new w _ _ 0 _ rfl
  have b1 : W1.cell? ⟨w.heap.size, 1, none⟩ = some (.slice px vals.length cx) := by rw [hW1]; exact cell_new w _ _ 1 _ rfl
  have hl1 := hl.below' hb0
  have hf1 := hf.below' hb0
  have hx1 := hx.below' hb0
  obtain ⟨g, vi, fi, hg, _, _, m2, _, _, _⟩ := hl1.get q hq
  subst hg
  rw [hL] at m2
  have HW1 := Lib.hid hW1
  have hk0 : (0 : Int) ≤ (q : Int) := Int.natCast_nonneg _
  have hk1 : (q : Int) < (l.length : Int) := by omega
  clear H hln hxe hasc hL hW1 hres
  have hm := fun (W : World) (hb : Below W1.heap.size W1 W) => matches_any l fa q vals _ _ _ fl ff fx W (hl1.below' hb) (hf1.below' hb) (hx1.below' hb) hq HH.out hn Hln.out
  rw [Hxe.out] at hm
  have Hm := Lib.hid hm
  clear hm
  go_enter Tryz.func83, Tryz.ntmps83
  go_wp2_with fail
  rw [← HW1.out]
  refine (Hm.out W1 (Below.refl _ _)).mono ?_
  rintro e w2 ⟨v2, f2, rfl, hg2, hb2⟩
  have hbw := bt hb0 hb2
  have hfr2 := hg2.fresh.mono hb0.size
  obtain ⟨a2, c2, rfl⟩ := slR.form hg2.sl
  have e0 := cell_below b0 hb2
  have e1 := cell_below b1 hb2
  have e2 := cell_below m2 hb2
  have hsz2 := hbw.size
  by_cases hL0 : L = 0
  · subst hL0
    have hfin : facts w2 (.slice a2 x.length c2) res f2 := by rw [show res = x by rw [← Hres.out]; exact if_pos (.inl rfl)]; exact hg2.sl
    go_wp2
    go_ret
    first | exact ⟨.slice a2 x.length c2, f2, rfl, hfin, hfr2, hbw⟩ | exact ⟨.slice a2 x.length c2, rfl, f2, hfin, hfr2, hbw⟩
  · have hl0 : ((L : Int) == 0) = false := by simp; omega
    have hl1 : ¬ ((L : Int) = 0) := by omega
    by_cases hnl : x.length ≤ L
    · have hfin : facts w2 (.slice a2 x.length c2) res f2 := by rw [show res = x by rw [← Hres.out]; exact if_pos (.inr hnl)]; exact hg2.sl
      go_wp2
      go_ret
      first | exact ⟨.slice a2 x.length c2, f2, rfl, hfin, hfr2, hbw⟩ | exact ⟨.slice a2 x.length c2, rfl, f2, hfin, hfr2, hbw⟩
    · have hx0 : 0 < x.length := by omega
      have hc0 : c.toNat % x.length < x.length := Nat.mod_lt _ hx0
      have HS := Lib.hid (show res = respI x (c.toNat % x.length) L x.length by
        rw [← Hres.out, if_neg (by rintro (h | h) <;> omega)]; exact resp_eq Hasc.out hc0 (by omega))
      have hnl1 : (L : Int) < (x.length : Int) := by omega
      have hn0 : ¬ ((x.length : Int) = 0) := by omega
      obtain ⟨ch, hche⟩ : ∃ ch : Nat, ch = c.toNat := ⟨_, rfl⟩
      have hmx : (if 0 < c then c else 0) = (ch : Int) := by split <;> omega
      have hmx2 : max c 0 = (ch : Int) := by omega
      have hmx3 : max 0 c = (ch : Int) := by omega
      have hmd : ((ch : Int)) % (x.length : Int) = ((ch % x.length : Nat) : Int) := by simp
      rw [← hche] at hc0
      obtain ⟨k0, hk0e⟩ : ∃ k0, k0 = ch % x.length := ⟨_, rfl⟩
      have HS2 := Lib.hid (show res = respI x k0 L x.length by rw [HS.out, hk0e, hche])
      rw [← hk0e] at hmd hc0
      clear hk0e hche HS
      obtain ⟨rows, fs, ha, htwo, hown, hfe, hfr⟩ := hg2
      have hnd : (a2.elim [] (fun a => [a.block]) ++ fs.flatten).Nodup := by have := hfr.1; rw [hfe] at this; cases a2 <;> exact this
      have Hnd := Lib.hid (List.nodup_append.1 hnd).2.1
      have HfB := Lib.hid (show ∀ k ∈ fs.flatten, w.heap.size ≤ k from fun k hk => Nat.le_trans hb0.size (hfr.2 k (by rw [hfe, List.mem_append]; exact .inr hk)))
      have hlt2 := ha.lt good_fact
      have Hlt2 := Lib.hid hlt2
      have hsl : facts w2 (.slice a2 x.length c2) x f2 := ⟨rows, fs, _, ha, htwo, own_row hown, hfe⟩
      have hall := ha
      have Hall := Lib.hid hall
      have Htwo := Lib.hid htwo
      have hrow := own_row hown
      have Hrow := Lib.hid hrow
      have hch0 : (0 : Int) ≤ (ch : Int) := Int.natCast_nonneg _
      clear hnd hlt2 ha hall htwo hrow hown hfe hfr
      have hg0 := grR.lit (w := w2) (B := w.heap.size) (E := 79) (sz := 2) factR hbw.size (Nat.le_refl _)
      go_wp2
      simp only [hmd]
      clear hmd hmx hmx2 hmx3
      go_loopw [12, 13, 14, 42] (fun u s13 s14 i wr => ∃ (k gu cu : Nat) (lo : List FactD) (fo : List Nat), i = .int .i64 k ∧ k ≤ x.length ∧ u = .slice (some ⟨gu, 0, none⟩) lo.length cu ∧ w2.heap.size ≤ gu ∧ Hid (lo = respI x k0 L k) ∧ grR 79 2 factR w.heap.size wr u lo fo ∧ Hid (∀ j ∈ fo, w2.heap.size ≤ j ∨ ∃ t, t < k ∧ j ∈ fs.getD t []) ∧ Below w2.heap.size w2 wr) (fun _ _ _ i _ => x.length - (intOf i).toNat)
      case atStart => exact ⟨0, _, _, [], _, rfl, Nat.zero_le _, rfl, Nat.le_refl _, Lib.hid rfl, hg0, Lib.hid (fun j hj => .inl (by rw [List.mem_singleton.1 hj]; exact Nat.le_refl _)), ba (Below.refl _ _)⟩
      case round =>
        obtain ⟨k, gu, cu, lo, fo, rfl, hk, rfl, hgu, Hlo, hgr, Hfo, hbel⟩ := hrel
        have hbwr := bt hbw hbel
        have hll : lo.length ≤ k := by rw [Hlo.out]; exact respI_length _ _ _ _
        by_cases hlt : k < x.length
        · obtain ⟨ck, fk, hck, hfk, hRk⟩ := Hall.out.get k hlt
          obtain ⟨vk, rfl, ik, hvk⟩ := hRk
          obtain ⟨ak, qk, rfl⟩ := slR.form hvk
          obtain ⟨gx, hgx, hgx2, hcell, _⟩ := Hrow.out.at (by omega)
          subst hgx
          have hc0' : wr.cell? ⟨gx, k * 2, none⟩ = some (.int .i64 x[k].rel) := cell_below (hcell _ _ (flat_get Htwo.out k _ 0 _ hck rfl)) hbel
          have hc1' : wr.cell? ⟨gx, k * 2 + 1, none⟩ = some (.slice ak x[k].vals.length qk) := cell_below (hcell _ _ (flat_get Htwo.out k _ 1 _ hck rfl)) hbel
          have hkl : (k : Int) < (x.length : Int) := by omega
          have hk00 : (0 : Int) ≤ (k : Int) := Int.natCast_nonneg _
          have hvr := hvk.below' hbel
          have Hvk := Lib.hid hvk
          have Hfk := Lib.hid hfk
          clear hcell hck hvk hfk
          obtain ⟨r, hr⟩ : ∃ r, r = (k + x.length - k0) % x.length := ⟨_, rfl⟩
          have hmod : ((k : Int) - (k0 : Int) + (x.length : Int)) % (x.length : Int) = (r : Int) := by
            rw [hr, Int.natCast_emod]; congr 1; omega
          have hpos : (0 : Int) ≤ (k : Int) - (k0 : Int) + (x.length : Int) := by omega
          have Hr := Lib.hid hr
          clear hr
          have hdisj : ∀ j ∈ fk, j ∉ fo := fun j hj hm => by
            have hjf : j ∈ fs.flatten := List.mem_flatten.2 ⟨fk, List.mem_of_getElem? Hfk.out, hj⟩
            rcases Hfo.out j hm with h | ⟨t, ht, h⟩
            · have := Hlt2.out j hjf; omega
            · have hft : fs[t]? = some (fs.getD t []) := by
                cases hq : fs[t]? with
                | none => simp [List.getD, hq] at h
                | some y => simp [List.getD, hq]
              exact nodup_apart Hnd.out hft Hfk.out (by omega) hj h
          have Hdisj := Lib.hid hdisj
          have hfkF : Fresh w.heap.size fk := ⟨(List.pairwise_flatten.1 Hnd.out).1 fk (List.mem_of_getElem? Hfk.out), fun j hj => HfB.out j (List.mem_flatten.2 ⟨fk, List.mem_of_getElem? Hfk.out, hj⟩)⟩
          have hgetk : fs.getD k [] = fk := by simp [List.getD, Hfk.out]
          have Hgetk := Lib.hid hgetk
          clear hdisj hgetk
          have hba : Below wr.heap.size wr (wr.alloc (.cells #[.int .i64 x[k].rel, .slice ak x[k].vals.length qk] 79)) := ba (Below.refl _ _)
          have q0 : (wr.alloc (.cells #[.int .i64 x[k].rel, .slice ak x[k].vals.length qk] 79)).cell? ⟨wr.heap.size, 0, none⟩ = some (.int .i64 x[k].rel) := cell_new wr _ _ 0 _ rfl
          have q1 : (wr.alloc (.cells #[.int .i64 x[k].rel, .slice ak x[k].vals.length qk] 79)).cell? ⟨wr.heap.size, 1, none⟩ = some (.slice ak x[k].vals.length qk) := cell_new wr _ _ 1 _ rfl
          have hgr1 := hgr.below' good_fact hba
          have hbwr1 := bt hbwr hba
          have hvr1 := hvr.below' hba
          have hll1 : lo.length ≤ 1048576 := by omega
          cases hin : inWin x.length k0 L k with
          | false =>
            have hrL : ¬ ((r : Int) < (L : Int)) := by
              have h := hin; unfold inWin at h; rw [← Hr.out] at h; simp at h; omega
            have HN := Lib.hid (show lo = respI x k0 L (k + 1) by rw [respI_no hin]; exact Hlo.out)
            have HF2 := Lib.hid (show ∀ j ∈ fo, w2.heap.size ≤ j ∨ ∃ t, t < k + 1 ∧ j ∈ fs.getD t [] from fun j hj => (Hfo.out j hj).imp id fun ⟨t, ht, h⟩ => ⟨t, by omega, h⟩)
            have hbel1 := bt hbel hba
            clear hin
            go_wp2
            go_roundw
            case rel => exact ⟨k + 1, gu, cu, lo, fo, by go_num, by omega, rfl, hgu, HN, hgr1, HF2, hbel1⟩
            case measure => simp [intOf]; omega
          | true =>
            have hrL : (r : Int) < (L : Int) := by
              have h := hin; unfold inWin at h; rw [← Hr.out] at h; simp at h; omega
            have HN := Lib.hid (show lo ++ [x[k]] = respI x k0 L (k + 1) by rw [respI_yes hlt hin, ← Hlo.out])
            clear hin
            go_wp2_with (at_builtin; refine wpList_gr2 slFactS good_fact rfl _ _ rfl hgr1 hbwr1 rfl #[.int .i64 x[k].rel, .slice ak x[k].vals.length qk] x[k] fk ⟨_, rfl, ik, hvr1⟩ rfl hfkF Hdisj.out (wr.heap.size + 1) (by simp) rfl (by simp [Value.oneCell']) (by omega) (by unfold maxLen; omega) ?_; intro g3 cap3 w4 f3 hgr3 hb4 hgw4 Hat4 Hf4)
            have hbel4 : Below w2.heap.size w2 w4 := (bt hbel hba).trans (below_of_grown hgw4 (by have := hbel.size; have := hba.size; omega) fun j hj => by simp [Value.ownBlock] at hj; omega)
            have hgu4 : w2.heap.size ≤ g3 := by
              have h1 := hbel.size; have h2 := hba.size
              rcases Hat4.out with h | h
              · simp [Value.ownBlock] at h; omega
              · omega
            have HF3 := Lib.hid (show ∀ j ∈ f3, w2.heap.size ≤ j ∨ ∃ t, t < k + 1 ∧ j ∈ fs.getD t [] from fun j hj => by
              rcases Hf4.out j hj with h | h | h
              · exact (Hfo.out j h).imp id fun ⟨t, ht, h⟩ => ⟨t, by omega, h⟩
              · exact .inr ⟨k, by omega, by rw [Hgetk.out]; exact h⟩
              · have h1 := hbel.size; have h2 := hba.size; exact .inl (by omega))
            go_roundw
            case rel => exact ⟨k + 1, g3, cap3, lo ++ [x[k]], f3, by go_num, by omega, by simp, hgu4, HN, by simpa using hgr3, HF3, hbel4⟩
            case measure => simp [intOf]; omega
        · have hkl : k = x.length := by omega
          have HE := Lib.hid (show respI x k0 L x.length = lo by rw [Hlo.out, hkl])
          clear hkl
          have hfin : facts wr (.slice (some ⟨gu, 0, none⟩) lo.length cu) res fo := by rw [HS2.out, HE.out]; exact hgr.sl
          have hfr := hgr.fresh
          go_wp2
          go_ret
          first | exact ⟨.slice (some ⟨gu, 0, none⟩) lo.length cu, fo, rfl, hfin, hfr, hbwr⟩ | exact ⟨.slice (some ⟨gu, 0, none⟩) lo.length cu, rfl, fo, hfin, hfr, hbwr⟩
end Go.Proofs.YtpdmdfkcaabnaaaGreatDoor
/- RespondTo, of the program and of the reference. Conditions: sizes up to 2^20. -/
namespace Go.Proofs.YtpdmdfkcaabnaaaGreatDoor
open Go.RowKit
set_option linter.unusedVariables false
set_option linter.unusedSimpArgs false
theorem matchesL_sub {s : List Int} {l : List MethD} {fa : List FactD} {a : AccD} : ∀ y ∈ matchesL s l fa a, y ∈ fa := by
  intro y hy
  unfold matchesL at hy
  split at hy
  · exact (List.mem_filter.1 hy).1
  · simp at hy
theorem matchesL_len {s : List Int} {l : List MethD} {fa : List FactD} {a : AccD} : (matchesL s l fa a).length ≤ fa.length := by
  unfold matchesL
  split
  · exact List.length_filter_le _ _
  · simp
theorem matchesL_valid {s : List Int} {l : List MethD} {fa : List FactD} {a : AccD} (h : matchesL s l fa a ≠ []) : accB s l a = true ∧ factsB s fa = true := by
  unfold matchesL at h
  cases h1 : accB s l a <;> cases h2 : factsB s fa <;> simp [h1, h2] at h ⊢

set_option maxRecDepth 100000 in
set_option maxHeartbeats 3200000 in
theorem implRespondTo_any (vs : Value) (s : List Int) (fs : List Nat) (vl : Value) (l : List MethD) (fl : List Nat) (vf : Value) (fa : List FactD) (ff : List Nat) (x : AccD) (vx : Value) (fx : List Nat) (c : Int) (w : World) (hs : ints w vs s fs) (hl : meths w vl l fl) (hf : facts w vf fa ff) (hx : ints w vx x.vals fx) (hn : fa.length ≤ 1048576) (hln : ∀ y ∈ fa, y.vals.length ≤ 1048576) :
    Calls Tryz.prog 8 #[vs, vl, vf, .agg #[.int .i64 x.meth, vx], .int .i64 c] w fun e w' => ∃ v' f', e = .returned v' ∧ facts w' v' (respondL s l fa x c) f' ∧ Fresh w.heap.size f' ∧ Below w.heap.size w w' := by
  obtain ⟨m, vals⟩ := x
  obtain ⟨ps, cs, rfl⟩ := slR.form hs
  obtain ⟨pl, cl, rfl⟩ := slR.form hl
  obtain ⟨pf, cf, rfl⟩ := slR.form hf
  obtain ⟨px, cx, rfl⟩ := slR.form hx
  have hla := slR.le_max hl
  have Hln := Lib.hid hln
  have hb0 : Below w.heap.size w (w.alloc (.cells #[.int .i64 m, .slice px vals.length cx] 28)) := ba (Below.refl _ _)
  have hs0 := hs.below' hb0
  have hl0 := hl.below' hb0
  have hf0 := hf.below' hb0
  have hx0 := hx.below' hb0
  have c0 : (w.alloc (.cells #[.int .i64 m, .slice px vals.length cx] 28)).cell? ⟨w.heap.size, 0, none⟩ = some (.int .i64 m) := cell_new w _ _ 0 _ rfl
  have c1 : (w.alloc (.cells #[.int .i64 m, .slice px vals.length cx] 28)).cell? ⟨w.heap.size, 1, none⟩ = some (.slice px vals.length cx) := cell_new w _ _ 1 _ rfl
  clear hln
  cases hA : accB s l ⟨m, vals⟩ with
  | false =>
    have Hf := Lib.hid (respondL_none (c := c) (matchesL_no1 (fa := fa) hA))
    have HIA := Lib.hid (show Calls Tryz.prog 34 #[.slice ps s.length cs, .slice pl l.length cl, .agg #[.int .i64 m, .slice px vals.length cx]] (w.alloc (.cells #[.int .i64 m, .slice px vals.length cx] 28)) (fun e w' => e = .returned (.bool false) ∧ Below (w.alloc (.cells #[.int .i64 m, .slice px vals.length cx] 28)).heap.size (w.alloc (.cells #[.int .i64 m, .slice px vals.length cx] 28)) w') from retBB (implIsAccess_any _ s fs _ l fl ⟨m, vals⟩ _ fx _ hs0 hl0 hx0) hA)
    go_enter Tryz.func8, Tryz.ntmps8
    go_wp2_with (first
      | (go_at_call 34; refine HIA.out.mono ?_; rintro e w2 ⟨rfl, hb2⟩; have e0 := cell_below c0 hb2; have e1 := cell_below c1 hb2))
    have hbw := bt hb0 hb2
    have hfin : facts w2 (.slice none 0 0) (respondL s l fa ⟨m, vals⟩ c) [] := by rw [Hf.out]; exact slR.nilv _ _ _ _
    go_ret
    first | exact ⟨.slice none 0 0, [], rfl, hfin, Fresh.nil _, hbw⟩ | exact ⟨.slice none 0 0, rfl, [], hfin, Fresh.nil _, hbw⟩
  | true =>
    have HIA := Lib.hid (show Calls Tryz.prog 34 #[.slice ps s.length cs, .slice pl l.length cl, .agg #[.int .i64 m, .slice px vals.length cx]] (w.alloc (.cells #[.int .i64 m, .slice px vals.length cx] 28)) (fun e w' => e = .returned (.bool true) ∧ Below (w.alloc (.cells #[.int .i64 m, .slice px vals.length cx] 28)).heap.size (w.alloc (.cells #[.int .i64 m, .slice px vals.length cx] 28)) w') from retBB (implIsAccess_any _ s fs _ l fl ⟨m, vals⟩ _ fx _ hs0 hl0 hx0) hA)
    cases hF : factsB s fa with
    | false =>
      have Hf := Lib.hid (respondL_none (c := c) (matchesL_no2 (l := l) (a := ⟨m, vals⟩) hF))
      go_enter Tryz.func8, Tryz.ntmps8
      go_wp2_with (first
        | (go_at_call 34; refine HIA.out.mono ?_; rintro e w2 ⟨rfl, hb2⟩; have e0 := cell_below c0 hb2; have e1 := cell_below c1 hb2)
        | (go_at_call 75; refine (retBB (implAreFacts_any _ s fs _ fa ff _ (hs0.below' hb2) (hf0.below' hb2)) hF).mono ?_; rintro e w3 ⟨rfl, hb3⟩; have hb23 := bt hb2 hb3; have e2 := cell_below c0 hb23; have e3 := cell_below c1 hb23))
      have hbw := bt hb0 hb23
      have hfin : facts w3 (.slice none 0 0) (respondL s l fa ⟨m, vals⟩ c) [] := by rw [Hf.out]; exact slR.nilv _ _ _ _
      go_ret
      first | exact ⟨.slice none 0 0, [], rfl, hfin, Fresh.nil _, hbw⟩ | exact ⟨.slice none 0 0, rfl, [], hfin, Fresh.nil _, hbw⟩
    | true =>
      obtain ⟨q, hm, hq, hmb, hzz2, hfit⟩ := fit_of hA
      clear hzz2
      have hm' : m = (q : Int) := hm
      subst hm'
      obtain ⟨L, hL, hL9⟩ := limit_of hmb
      have hxe := matchesL_yes hq hA hF
      have hres : (if L = 0 ∨ (fa.filter (fitB l[q] vals)).length ≤ L then fa.filter (fitB l[q] vals) else respS (fa.filter (fitB l[q] vals)) (c.toNat % (fa.filter (fitB l[q] vals)).length) L) = respondL s l fa ⟨(q : Int), vals⟩ c := by
        by_cases h : L = 0 ∨ (fa.filter (fitB l[q] vals)).length ≤ L
        · rw [if_pos h, respondL_all hq hxe hL h]
        · rw [if_neg h, respondL_win hq hxe hL (fun e => h (.inl e)) (fun e => h (.inr e))]
      have hasc := factsB_filter hF (fitB l[q] vals)
      have hH : ∀ y ∈ fa, Fit l[q] vals y := fun y hy => hfit y (factB_of_facts hF y hy)
      have hresp := fun (W : World) (hb : Below (w.alloc (.cells #[.int .i64 (q : Int), .slice px vals.length cx] 28)).heap.size (w.alloc (.cells #[.int .i64 (q : Int), .slice px vals.length cx] 28)) W) => respond_any l fa q vals c _ _ _ fl ff fx W (hl0.below' hb) (hf0.below' hb) (hx0.below' hb) hq hH hn Hln.out _ rfl L hL hL9 hasc _ hres
      generalize hR : respondL s l fa ⟨(q : Int), vals⟩ c = R at hresp ⊢
      have Hresp := Lib.hid hresp
      have HF := Lib.hid hF
      have hIA2 := HIA.out
      clear hfit hH hm hA hF HIA hmb hL hL9 hxe hres hasc hresp hR
      have HIA := Lib.hid hIA2
      clear hIA2
      go_enter Tryz.func8, Tryz.ntmps8
      go_wp2_with (first
        | (go_at_call 34; refine HIA.out.mono ?_; rintro e w2 ⟨rfl, hb2⟩; have e0 := cell_below c0 hb2; have e1 := cell_below c1 hb2)
        | (go_at_call 75; refine (retBB (implAreFacts_any _ s fs _ fa ff _ (hs0.below' hb2) (hf0.below' hb2)) HF.out).mono ?_; rintro e w3 ⟨rfl, hb3⟩; have hb23 := bt hb2 hb3; have e2 := cell_below c0 hb23; have e3 := cell_below c1 hb23)
        | (go_at_call 83; refine (Hresp.out _ hb23).mono ?_; rintro e w4 ⟨v4, f4, rfl, hu4, hfr4, hb4⟩))
      have hb03 := bt hb0 hb23
      have hfr6 := hfr4.mono hb03.size
      have hbf := bt hb03 hb4
      go_ret
      first | exact ⟨v4, f4, rfl, hu4, hfr6, hbf⟩ | exact ⟨v4, rfl, f4, hu4, hfr6, hbf⟩
set_option maxRecDepth 100000 in
set_option maxHeartbeats 3200000 in
theorem specRespondTo_any (vs : Value) (s : List Int) (fs : List Nat) (vl : Value) (l : List MethD) (fl : List Nat) (vf : Value) (fa : List FactD) (ff : List Nat) (x : AccD) (vx : Value) (fx : List Nat) (c : Int) (w : World) (hs : ints w vs s fs) (hl : meths w vl l fl) (hf : facts w vf fa ff) (hx : ints w vx x.vals fx) (hn : fa.length ≤ 1048576) (hln : ∀ y ∈ fa, y.vals.length ≤ 1048576) :
    Calls Tryz.prog 11 #[vs, vl, vf, .agg #[.int .i64 x.meth, vx], .int .i64 c] w fun e w' => ∃ v' f', e = .returned v' ∧ facts w' v' (respondL s l fa x c) f' ∧ Fresh w.heap.size f' ∧ Below w.heap.size w w' := by
  obtain ⟨m, vals⟩ := x
  obtain ⟨ps, cs, rfl⟩ := slR.form hs
  obtain ⟨pl, cl, rfl⟩ := slR.form hl
  obtain ⟨pf, cf, rfl⟩ := slR.form hf
  obtain ⟨px, cx, rfl⟩ := slR.form hx
  have hla := slR.le_max hl
  have Hln := Lib.hid hln
  have hb0 : Below w.heap.size w (w.alloc (.cells #[.int .i64 m, .slice px vals.length cx] 28)) := ba (Below.refl _ _)
  have hs0 := hs.below' hb0
  have hl0 := hl.below' hb0
  have hf0 := hf.below' hb0
  have hx0 := hx.below' hb0
  have c0 : (w.alloc (.cells #[.int .i64 m, .slice px vals.length cx] 28)).cell? ⟨w.heap.size, 0, none⟩ = some (.int .i64 m) := cell_new w _ _ 0 _ rfl
  have c1 : (w.alloc (.cells #[.int .i64 m, .slice px vals.length cx] 28)).cell? ⟨w.heap.size, 1, none⟩ = some (.slice px vals.length cx) := cell_new w _ _ 1 _ rfl
  clear hln
  have hsub := matchesL_sub (s := s) (l := l) (fa := fa) (a := ⟨m, vals⟩)
  have hlen := matchesL_len (s := s) (l := l) (fa := fa) (a := ⟨m, vals⟩)
  have HM := Lib.hid (show Calls Tryz.prog 12 #[.slice ps s.length cs, .slice pl l.length cl, .slice pf fa.length cf, .agg #[.int .i64 m, .slice px vals.length cx]] (w.alloc (.cells #[.int .i64 m, .slice px vals.length cx] 28)) (fun e w' => ∃ v' f', e = .returned v' ∧ facts w' v' (matchesL s l fa ⟨m, vals⟩) f' ∧ Fresh (w.alloc (.cells #[.int .i64 m, .slice px vals.length cx] 28)).heap.size f' ∧ Below (w.alloc (.cells #[.int .i64 m, .slice px vals.length cx] 28)).heap.size (w.alloc (.cells #[.int .i64 m, .slice px vals.length cx] 28)) w') from specMatchesOf_any _ s fs _ l fl _ fa ff ⟨m, vals⟩ _ fx _ hs0 hl0 hf0 hx0 hn Hln.out)
  have hval := matchesL_valid (s := s) (l := l) (fa := fa) (a := ⟨m, vals⟩)
  have hasc0 : matchesL s l fa ⟨m, vals⟩ ≠ [] → AscC cmpFact (matchesL s l fa ⟨m, vals⟩) := fun h => by
    obtain ⟨h1, h2⟩ := hval h
    unfold matchesL; rw [h1, h2]; exact factsB_filter h2 _
  have hnone := respondL_none (s := s) (l := l) (fa := fa) (a := ⟨m, vals⟩) (c := c)
  obtain ⟨X, hX⟩ : ∃ X, X = matchesL s l fa ⟨m, vals⟩ := ⟨_, rfl⟩
  rw [← hX] at hsub hlen hval hasc0 hnone
  have HM2 := HM.out
  rw [← hX] at HM2
  have HM3 := Lib.hid HM2
  have hXn : X.length ≤ 1048576 := by omega
  clear HM HM2
  by_cases hXe : X = []
  · have Hf := Lib.hid (show respondL s l fa ⟨m, vals⟩ c = X by rw [hXe]; exact hnone hXe)
    have hX0 : X.length = 0 := by rw [hXe]; rfl
    have hX1 : ((X.length : Int) == 0) = true := by simp [hXe]
    have hX2 : (X.length : Int) = 0 := by omega
    generalize hR : respondL s l fa ⟨m, vals⟩ c = R at Hf ⊢
    have HX0 := Lib.hid hX0
    clear hX0 hXe hX hsub hlen hval hasc0 hnone hR hX2
    go_enter Tryz.func11, Tryz.ntmps11
    go_wp2_with fail
    refine HM3.out.mono ?_
    rintro e w2 ⟨v2, f2, rfl, hu2, hfr2', hb2⟩
    obtain ⟨a2, c2, rfl⟩ := slR.form hu2
    have hbw := bt hb0 hb2
    have hfr2 := hfr2'.mono hb0.size
    have hfin : facts w2 (.slice a2 X.length c2) R f2 := by rw [Hf.out]; exact hu2
    have hX2 : (X.length : Int) = 0 := by have := HX0.out; omega
    go_wp2
    go_ret
    first | exact ⟨.slice a2 X.length c2, f2, rfl, hfin, hfr2, hbw⟩ | exact ⟨.slice a2 X.length c2, rfl, f2, hfin, hfr2, hbw⟩
  · obtain ⟨hA, hF⟩ := hval hXe
    obtain ⟨q, hm, hq, hmb, hzz2, hfit⟩ := fit_of hA
    clear hzz2 hfit
    have hm' : m = (q : Int) := hm
    subst hm'
    obtain ⟨L, hL, hL9⟩ := limit_of hmb
    have Hall := Lib.hid (fun h => respondL_all (c := c) hq hX.symm hL h)
    have Hwin := Lib.hid (fun h0 h => respondL_win (c := c) hq hX.symm hL h0 h)
    have Hasc := Lib.hid (hasc0 hXe)
    have Hsub := Lib.hid hsub
    have hX0 : 0 < X.length := by
      cases X with
      | nil => exact absurd rfl hXe
      | cons _ _ => simp
    have hXne : ((X.length : Int) == 0) = false := by simp; omega
    have hXne2 : ¬ ((X.length : Int) = 0) := by omega
    have hk0 : (0 : Int) ≤ (q : Int) := Int.natCast_nonneg _
    have hk1 : (q : Int) < (l.length : Int) := by omega
    obtain ⟨g, vi, fi, hg, _, _, m2, _, _, _⟩ := hl0.get q hq
    subst hg
    rw [hL] at m2
    generalize hR : respondL s l fa ⟨(q : Int), vals⟩ c = R at Hall Hwin ⊢
    have HM4 := HM3.out
    clear hA hF hm hmb hL hX hXe hsub hval hasc0 hnone hR HM3
    have HM3 := Lib.hid HM4
    clear HM4
    go_enter Tryz.func11, Tryz.ntmps11
    go_wp2_with fail
    refine HM3.out.mono ?_
    rintro e w2 ⟨v2, f2, rfl, hu2, hfr2', hb2⟩
    obtain ⟨a2, c2, rfl⟩ := slR.form hu2
    have hbw := bt hb0 hb2
    have hfr2 := hfr2'.mono hb0.size
    have e0 := cell_below c0 hb2
    have e2 := cell_below m2 hb2
    by_cases hL0 : L = 0
    · subst hL0
      have hfin : facts w2 (.slice a2 X.length c2) R f2 := by rw [Hall.out (.inl rfl)]; exact hu2
      go_wp2
      go_ret
      first | exact ⟨.slice a2 X.length c2, f2, rfl, hfin, hfr2, hbw⟩ | exact ⟨.slice a2 X.length c2, rfl, f2, hfin, hfr2, hbw⟩
    · have hl0 : ((L : Int) == 0) = false := by simp; omega
      have hl1 : ¬ ((L : Int) = 0) := by omega
      by_cases hnl : X.length ≤ L
      · have hfin : facts w2 (.slice a2 X.length c2) R f2 := by rw [Hall.out (.inr hnl)]; exact hu2
        have hnl1 : (X.length : Int) ≤ (L : Int) := by omega
        go_wp2
        go_ret
        first | exact ⟨.slice a2 X.length c2, f2, rfl, hfin, hfr2, hbw⟩ | exact ⟨.slice a2 X.length c2, rfl, f2, hfin, hfr2, hbw⟩
      · have hc0 : c.toNat % X.length < X.length := Nat.mod_lt _ hX0
        have hnl1 : (L : Int) < (X.length : Int) := by omega
        have hnl2 : ¬ ((X.length : Int) ≤ (L : Int)) := by omega
        have HS := Lib.hid (Hwin.out hL0 hnl)
        obtain ⟨ch, hche⟩ : ∃ ch : Nat, ch = c.toNat := ⟨_, rfl⟩
        have hmx : (if c < 0 then 0 else c) = (ch : Int) := by split <;> omega
        have hmx2 : max c 0 = (ch : Int) := by omega
        have hmx3 : max 0 c = (ch : Int) := by omega
        have hmd : ((ch : Int)) % (X.length : Int) = ((ch % X.length : Nat) : Int) := by simp
        obtain ⟨k0, hk0e⟩ : ∃ k0, k0 = ch % X.length := ⟨_, rfl⟩
        have HS2 := Lib.hid (show R = respS X k0 L by rw [HS.out, hk0e, hche])
        have hc0' : k0 < X.length := by rw [hk0e, hche]; exact hc0
        rw [← hk0e] at hmd
        clear hk0e hche HS hc0 Hall Hwin
        have hch0 : (0 : Int) ≤ (ch : Int) := Int.natCast_nonneg _
        have hg0 := grR.lit (w := w2) (B := w.heap.size) (E := 79) (sz := 2) factR hbw.size (Nat.le_refl _)
        have hg1 : facts (w2.alloc (.cells #[] 79)) (.slice (some ⟨w2.heap.size, 0, none⟩) 0 0) [] [w2.heap.size] := hg0.sl
        go_wp2
        simp only [hmd]
        clear hmd hmx hmx2 hmx3
        go_loopw [12, 14] (fun u i wr => ∃ (j : Nat) (lo : List FactD) (fo : List Nat), i = .int .i64 j ∧ j ≤ L ∧ facts wr u lo fo ∧ Hid (lo = respS X k0 j) ∧ Hid (Fresh w.heap.size fo) ∧ Below w2.heap.size w2 wr) (fun _ i _ => L - (intOf i).toNat)
        case atStart => exact ⟨0, [], _, rfl, Nat.zero_le _, hg1, Lib.hid rfl, Lib.hid hg0.fresh, ba (Below.refl _ _)⟩
        case round =>
          obtain ⟨j, lo, fo, rfl, hj, hlo, Hlo, Hfr, hbel⟩ := hrel
          obtain ⟨ao, co, rfl⟩ := slR.form hlo
          have hbwr := bt hbw hbel
          have d0 := cell_below e0 hbel
          have d2 := cell_below e2 hbel
          have hll : lo.length ≤ j := by rw [Hlo.out]; exact respS_length _ _ _
          by_cases hlt : j < L
          · obtain ⟨r, hr⟩ : ∃ r, r = winAt X.length k0 j := ⟨_, rfl⟩
            have hrn : r < X.length := by rw [hr]; exact Nat.mod_lt _ hX0
            have hmod : ((k0 : Int) + (j : Int)) % (X.length : Int) = (r : Int) := by rw [hr]; unfold winAt; simp
            have hjl : (j : Int) < (L : Int) := by omega
            have hpos : (0 : Int) ≤ (k0 : Int) + (j : Int) := by omega
            have hr0 : (0 : Int) ≤ (r : Int) := Int.natCast_nonneg _
            have hrn' : (r : Int) < (X.length : Int) := by omega
            obtain ⟨gx, cc, fk, hgx, ⟨vy, rfl, iy, hy⟩, _, hc, _, _, _⟩ := slR.at (hu2.below' hbel) r hrn
            subst hgx
            obtain ⟨a', c', rfl⟩ := slR.form hy
            have x0 : wr.cell? ⟨gx, r * 2, none⟩ = some (.int .i64 X[r].rel) := hc 0 _ rfl
            have x1 : wr.cell? ⟨gx, r * 2 + 1, none⟩ = some (.slice a' X[r].vals.length c') := hc 1 _ rfl
            have HN := Lib.hid (show addFactL lo X[r] = respS X k0 (j + 1) by
              show _ = addFactL (respS X k0 j) (X.getD (winAt X.length k0 j) ⟨0, []⟩)
              rw [← hr, getD_lt hrn, ← Hlo.out])
            have Hlv := Lib.hid (show ∀ y ∈ lo, y.vals.length ≤ 1048576 from fun y hy => by
              rw [Hlo.out, respS_mem] at hy
              obtain ⟨t, _, rfl⟩ := hy
              have ht : winAt X.length k0 t < X.length := Nat.mod_lt _ hX0
              rw [getD_lt ht]
              exact Hln.out _ (Hsub.out _ (List.getElem_mem ht)))
            have hvn : X[r].vals.length ≤ 1048576 := Hln.out _ (Hsub.out _ (List.getElem_mem hrn))
            clear hc hr
            go_wp2_with fail
            refine (specAddFact_any _ lo fo X[r] _ fk _ hlo hy iy (by omega) Hlv.out hvn).mono ?_
            rintro e w4 ⟨v4, f4, rfl, hu4, hfr4, hb4⟩
            have hbel4 := bt hbel hb4
            have HF4 := Lib.hid (hfr4.mono hbwr.size)
            rw [HN.out] at hu4
            go_wp2
            go_roundw
            case rel => exact ⟨j + 1, _, f4, by go_num, by omega, hu4, Lib.hid rfl, HF4, hbel4⟩
            case measure => simp [intOf]; omega
          · have hjl : j = L := by omega
            have hfin : facts wr (.slice ao lo.length co) R fo := by rw [HS2.out, ← hjl, ← Hlo.out]; exact hlo
            have hfr := Hfr.out
            have hjl2 : ¬ ((j : Int) < (L : Int)) := by omega
            clear hjl
            go_wp2
            go_ret
            first | exact ⟨.slice ao lo.length co, fo, rfl, hfin, hfr, hbwr⟩ | exact ⟨.slice ao lo.length co, rfl, fo, hfin, hfr, hbwr⟩
end Go.Proofs.YtpdmdfkcaabnaaaGreatDoor
