/- slices.Concat of two lists of ints. Condition: lengths within 2^20. -/
import Derived.Test.YtpdmdfkcaabnaaaGreatInsL
import Derived.Test.YtpdmdfkcaabnaaaGreatCopy
import Derived.Test.YtpdmdfkcaabnaaaGreatSX
import Derived.Test.YtpdmdfkcaabnaaaGreatHInts
import Derived.Test.YtpdmdfkcaabnaaaGreatTypes
namespace Go.Proofs.YtpdmdfkcaabnaaaGreat
open Go.RowKit
set_option linter.unusedVariables false
set_option linter.unusedSimpArgs false
/-- append(nil, make(S, k)...): a new row of so many elements. -/
theorem wpList_append_zeros_nil {P : Program} {T E : TypeId} {z : Value} {sz bytes : Nat} (hT : SlT P T E z sz bytes) {tn : TypeId} {kn kq : IntKind} (htn : P.underlying tn = some (.int kn)) {w : World} {ops : Array Oper} {rest : List Oper} {o : Oper} {a : Act} {Q : Exit → Act → World → Prop} (hgd : o.guard = none) (s x : Operand)
    (ho : o.op = .call { callee := .builtin .append, args := #[s, x], argTypes := #[T, tn] })
    (k : Nat) (K0 : Int) (hs : a.eval s = .slice none 0 0) (hx : a.eval x = .int kq K0) (hK : K0 = (k : Int))
    (h0 : 0 < k) (h63 : k ≤ maxLen) (hfit : k * bytes ≤ 140737488355328)
    (h : ∀ (G cap' : Nat) (w' : World) (cur' : List Value), Hid (G = w.heap.size) → Hid (w'.heap[G]? = some (.cells cur'.toArray E (0, 0))) → Hid (cur'.length = cap' * sz) → k ≤ cap' → cap' ≤ 9223372036854775807 → w.grownBy w' none → Hid (w'.heap.size = w.heap.size + 1) →
      wpList P ops Q rest (a.put o.dst (.slice (some ⟨G, 0, none⟩) k cap')) w') :
    wpList P ops Q (o :: rest) a w := by
  subst hK
  obtain ⟨i0, hi, hz, hsz, hby⟩ := hT.inf
  have hzs := hT.zs
  have hpos := hT.pos
  unfold maxLen at h63
  have hold : (Builtin.firstCells i0.size 0 (.slice none 0 0)).run P w.drew = .ok #[] w.drew := run_firstCells_none w.drew i0.size 0 0 0
  have hb : k * i0.bytes ≤ 281474976710656 := by rw [hby]; omega
  have hf := growslice_fits (bytes := bytes) (show 0 < 0 + k by omega) (show (0 + k) * bytes ≤ 140737488355328 by simpa using hfit)
  have hrun := Lib.run_append_grow_zeros (P := P) w T tn o.type E i0 z kq kn hT.und htn hi hz none 0 0 [] hold k h0 (by omega) (by omega) (by omega) hb (by rw [hby]; exact hf)
  refine Lib.wpList_append_run w hgd s x T tn ho _ _ hs hx _ _ hrun ?_
  have hge := grownCap_ge w (0 + k) 0 E
  have hlm := grownCap_le_maxLen w (0 + k) 0 E (by unfold maxLen; omega)
  unfold maxLen at hlm
  have hzl : ∀ m, (Builtin.zeroCells z.cells m).size = m * sz := fun m => by simp [Builtin.zeroCells, hzs]
  rw [Nat.zero_add] at *
  refine h w.heap.size _ (w.drew.alloc (.cells (#[] ++ Builtin.zeroCells z.cells k ++ Builtin.zeroCells z.cells (grownCap w k 0 E - k)) E)) ((Builtin.zeroCells z.cells k).toList ++ (Builtin.zeroCells z.cells (grownCap w k 0 E - k)).toList)
    (show _ = _ from rfl) (show _ = _ from ?_) (show _ = _ from ?_) hge hlm ?_ (show _ = _ from ?_)
  · have := heap_alloc_new w.drew (.cells (#[] ++ Builtin.zeroCells z.cells k ++ Builtin.zeroCells z.cells (grownCap w k 0 E - k)) E)
    refine Eq.trans this ?_
    congr 2
    apply Array.ext'
    simp
  · rw [List.length_append, Array.length_toList, Array.length_toList, hzl, hzl, ← Nat.add_mul]
    congr 1; omega
  · exact grownBy_trans (b := w.drew) ⟨rfl, rfl, rfl, Nat.le_refl _, fun _ _ _ => rfl⟩ (World.grownBy_alloc w.drew _ _)
  · show (w.heap.push _).size = _
    simp
set_option maxRecDepth 100000 in
set_option maxHeartbeats 1600000 in
theorem growNil_any (n : Nat) (w : World) (hn : n ≤ 4194304) :
    Calls Tryz.prog 67 #[.slice none 0 0, .int .i64 (n : Int)] w fun e w' => ∃ v', e = .returned v' ∧ w'.ownsRow w.heap.size 3 1 v' 0 [] ∧ Below w.heap.size w w' := by
  by_cases h0 : 0 < n
  · have h0i : (0 : Int) < (n : Int) := by omega
    have h0n : ¬ (n : Int) < 0 := by omega
    go_enter Tryz.func67, Tryz.ntmps67
    go_wp2_with (at_builtin; refine wpList_append_zeros_nil slInt Tryz.underlying3 rfl _ _ rfl n _ rfl rfl (by go_num) h0 (by unfold maxLen; omega) (by omega) ?_; intro G cap' w1 cur' HG HgG Hcur hkc hc9 hgr HS)
    go_ret
    refine ⟨_, rfl, ⟨by simp, .inr ⟨G, cap', cur'.toArray, rfl, by rw [HG.out]; exact Nat.le_refl _, HgG.out, by omega, by unfold maxLen; omega, by simpa using Hcur.out, by simp⟩⟩, below_of_grown hgr (Nat.le_refl _) fun k hk => by cases hk⟩
  · have hz : n = 0 := by omega
    subst hz
    go_enter Tryz.func67, Tryz.ntmps67
    go_wp2
    go_ret
    exact ⟨_, rfl, World.ownsRow_nil _ _ _ _, Below.refl _ _⟩
theorem icells_oneC (l : List Int) : ∀ u ∈ icells l, u.oneCell' = true := by
  intro u hu
  simp only [icells, List.mem_map] at hu
  obtain ⟨_, _, rfl⟩ := hu
  rfl
theorem icells_appC (a b : List Int) : icells (a ++ b) = icells a ++ icells b := by simp [icells]
theorem own_fresh {w : World} {B : Nat} {E : TypeId} {sz : Nat} {v : Value} {n : Nat} {xs : List Value} (h : w.ownsRow B E sz v n xs) : Fresh B v.ownBlock.toList := by
  have hlt := own_lt h
  refine ⟨by cases v.ownBlock <;> simp, fun j hj => ?_⟩
  cases hv : v.ownBlock with
  | none => rw [hv] at hj; simp at hj
  | some q => rw [hv] at hj; simp at hj; subst hj; exact (hlt j hv).1
/-- What a concatenation ends in. -/
def CatE (l : List Int) (w : World) (e : Ending) (w' : World) : Prop := ∃ v' f', e = .returned v' ∧ ints w' v' l f' ∧ Fresh w.heap.size f' ∧ Below w.heap.size w w'
theorem CatE.mk {l : List Int} {w : World} {e : Ending} {w' : World} (v' : Value) (f' : List Nat) (he : e = .returned v') (h1 : ints w' v' l f') (h2 : Fresh w.heap.size f') (h3 : Below w.heap.size w w') : CatE l w e w' := ⟨v', f', he, h1, h2, h3⟩
def sel2 (k : Nat) (a b : Int) : Int := if k = 0 then 0 else if k = 1 then a else a + b
def cat2 (k : Nat) (a b : List Int) : List Int := if k = 0 then [] else if k = 1 then a else a ++ b
set_option maxRecDepth 100000 in
set_option maxHeartbeats 3200000 in
theorem concat2_any (H : Nat) (a b : List Int) (va vb : Value) (fa fb : List Nat) (w : World) (c0 : w.cell? ⟨H, 0, none⟩ = some va) (c1 : w.cell? ⟨H, 1, none⟩ = some vb) (ha : ints w va a fa) (hb : ints w vb b fb) (hna : a.length ≤ 1048576) (hnb : b.length ≤ 1048576) :
    Calls Tryz.prog 45 #[.slice (some ⟨H, 0, none⟩) 2 2] w (CatE (a ++ b) w) := by
  obtain ⟨pa, ca, rfl⟩ := slR.form ha
  obtain ⟨pb, cb, rfl⟩ := slR.form hb
  go_enter Tryz.func45, Tryz.ntmps45
  go_wp2
  go_loop [3, 11] (fun n i => ∃ k : Nat, i = .int .i64 (k : Int) ∧ k ≤ 2 ∧ n = .int .i64 (sel2 k a.length b.length)) (fun _ i => 2 - (intOf i).toNat)
  case atStart => exact ⟨0, rfl, by omega, rfl⟩
  case round =>
    obtain ⟨k, rfl, hk, rfl⟩ := hrel
    match k, hk with
    | 0, _ =>
      have h9 : ¬ (a.length : Int) < 0 := by omega
      simp only [sel2, if_true]
      go_wp2
      go_round
      case rel => exact ⟨1, by go_num, by omega, by simp [sel2]⟩
      case measure => simp [intOf]
    | 1, _ =>
      have h9 : ¬ (a.length : Int) + (b.length : Int) < 0 := by omega
      have hs : sel2 1 a.length b.length = (a.length : Int) := rfl
      rw [hs]
      go_wp2
      go_round
      case rel => exact ⟨2, by go_num, by omega, by simp [sel2]⟩
      case measure => simp [intOf]
    | 2, _ =>
      have hs : sel2 2 a.length b.length = ((a.length + b.length : Nat) : Int) := by simp [sel2]
      rw [hs]
      go_wp2_with fail
      refine (growNil_any (a.length + b.length) w (by omega)).mono ?_
      rintro e w1 ⟨v1, rfl, hown, hb1⟩
      have ha1 := ha.below' hb1
      have hbb1 := hb.below' hb1
      have d0 := cell_below c0 hb1
      have d1 := cell_below c1 hb1
      go_wp2
      go_loopw [6, 27] (fun v i wr => ∃ (k : Nat) (q : Value), v = q ∧ i = .int .i64 (k : Int) ∧ k ≤ 2 ∧ wr.ownsRow w.heap.size 3 1 q (cat2 k a b).length (icells (cat2 k a b)) ∧ Below w.heap.size w wr) (fun _ i _ => 2 - (intOf i).toNat)
      case atStart => exact ⟨0, _, rfl, rfl, by omega, hown, hb1⟩
      case round =>
        obtain ⟨k, v, rfl, rfl, hk, ho, hbel⟩ := hrel
        have hsz := hbel.size
        match k, hk with
        | 0, _ =>
          have e0 := cell_below c0 hbel
          have hra := ha.below' hbel
          obtain ⟨oa, hrow, _, hI⟩ := row_of_ints hra
          have ho2 : wr.ownsRow w.heap.size 3 1 _ 0 [] := ho
          have hlt := own_lt ho2
          go_wp2_with (at_builtin; refine wpList_append_row slInt rfl _ _ rfl w.heap.size _ 0 [] rfl ho2 _ a.length (icells a) oa rfl hrow (icells_oneC a) (by omega) (by unfold maxLen; omega) hsz ?_; intro v5 w5 ho5 hg5 hat5)
          go_roundw
          case rel => exact ⟨1, _, rfl, by go_num, by omega, by simpa [cat2] using ho5, hbel.trans (below_of_grown hg5 hsz fun j hj => (hlt j hj).1)⟩
          case measure => simp [intOf]
        | 1, _ =>
          have e1 := cell_below c1 hbel
          have hrb := hb.below' hbel
          obtain ⟨oa, hrow, _, hI⟩ := row_of_ints hrb
          have ho2 : wr.ownsRow w.heap.size 3 1 _ a.length (icells a) := ho
          have hlt := own_lt ho2
          go_wp2_with (at_builtin; refine wpList_append_row slInt rfl _ _ rfl w.heap.size _ a.length (icells a) rfl ho2 _ b.length (icells b) oa rfl hrow (icells_oneC b) (by omega) (by unfold maxLen; omega) hsz ?_; intro v5 w5 ho5 hg5 hat5)
          go_roundw
          case rel => exact ⟨2, _, rfl, by go_num, by omega, by simpa [cat2, icells_appC] using ho5, hbel.trans (below_of_grown hg5 hsz fun j hj => (hlt j hj).1)⟩
          case measure => simp [intOf]
        | 2, _ =>
          have ho2 : wr.ownsRow w.heap.size 3 1 _ (a ++ b).length (icells (a ++ b)) := ho
          have hlt := own_lt ho2
          obtain ⟨_, _, _, hIa⟩ := row_of_ints ha
          obtain ⟨_, _, _, hIb⟩ := row_of_ints hb
          have hfin := ints_of_row (own_row ho2) (fun x hx => (List.mem_append.1 hx).elim (hIa x) (hIb x))
          go_wp2
          go_ret
          exact CatE.mk _ _ rfl hfin (own_fresh ho2) hbel
end Go.Proofs.YtpdmdfkcaabnaaaGreat
