/- append of a whole slice (nil, empty or not) onto a row of the call's own; a copy of a slice of ints. Over any program; no condition. -/
import Derived.Test.YtpdmdfkcaabnaaaGreatDoorMB
import Derived.Maps.AppendAt
import Derived.Laws.AppendOwnNone
namespace Go.Proofs.YtpdmdfkcaabnaaaGreatDoor
open Go.RowKit
set_option linter.unusedVariables false
set_option linter.unusedSimpArgs false
theorem wpList_append_row {P : Program} {T E : TypeId} {z : Value} {size bytes : Nat} (hT : SlT P T E z size bytes) {w : World} {ops : Array Oper} {rest : List Oper} {o : Oper} {a : Act} {Q : Exit → Act → World → Prop}
    (hgd : o.guard = none) (s x : Operand) (ho : o.op = .call { callee := .builtin .append, args := #[s, x], argTypes := #[T, T] })
    (base : Nat) (v : Value) (n : Nat) (xs : List Value) (hs : a.eval s = v) (hown : w.ownsRow base E size v n xs) (y : Value) (m : Nat) (news : List Value) (ob : Option Nat) (hx : a.eval x = y) (hr : Row w E size y m news ob)
    (h1 : ∀ u ∈ news, u.oneCell' = true) (hb : (n + m) * bytes ≤ 140737488355328) (h63 : n + m ≤ maxLen) (hbase : base ≤ w.heap.size)
    (h : ∀ v' w', w'.ownsRow base E size v' (n + m) (xs ++ news) → w.grownBy w' v.ownBlock → (v'.ownBlock = v.ownBlock ∨ v'.ownBlock = some w.heap.size) → wpList P ops Q rest (a.put o.dst v') w') :
    wpList P ops Q (o :: rest) a w := by
  obtain ⟨i, hi, hz, hsz, hby⟩ := hT.inf
  obtain ⟨hl, hr⟩ := hr
  rcases hr with ⟨a', rfl, rfl, _⟩ | ⟨g, cap, cur, rfl, _, hg, hle, hcm, hcs, ht⟩
  · obtain rfl : news = [] := List.length_eq_zero_iff.1 (by simpa using hl)
    cases a' with
    | none =>
      refine wpList_append_own_none hgd s x T ho base E i size hT.und hi v n xs hs hown hx ?_
      exact h v w (by simpa using hown) ⟨rfl, rfl, rfl, Nat.le_refl _, fun _ _ _ => rfl⟩ (.inl rfl)
    | some ad =>
      refine wpList_append_own_at _ hgd s x T ho base E i z size bytes hT.und hi hz hsz hby hT.zs hT.pos v n xs hs hown ad 0 0 [] hx (by simp) (by simp) (by simp) h63 hb hbase ?_
      exact fun v' w' h2 h3 _ h5 => h v' w' h2 h3 h5
  · refine wpList_append_own_at _ hgd s x T ho base E i z size bytes hT.und hi hz hsz hby hT.zs hT.pos v n xs hs hown ⟨g, 0, none⟩ m cap news hx hl ?_ h1 h63 hb hbase ?_
    · intro j u hj
      have hadd : (⟨g, 0, none⟩ : Addr).add j = ⟨g, j, none⟩ := by unfold Addr.add; split <;> simp_all
      rw [hadd, cell_of_row w g j cur _ (0, 0) hg]
      rw [← ht, List.getElem?_take] at hj
      split at hj
      · simpa using hj
      · cases hj
    · exact fun v' w' h2 h3 _ h5 => h v' w' h2 h3 h5
/-- A copy of a slice of ints, made by append onto a new empty literal. -/
theorem wpList_copy_ints {w : World} {ops : Array Oper} {rest : List Oper} {o : Oper} {a : Act} {Q : Exit → Act → World → Prop} (hT : SlT Tryz.prog 24 3 (.int .i64 0) 1 8)
    (hgd : o.guard = none) (s x : Operand) (ho : o.op = .call { callee := .builtin .append, args := #[s, x], argTypes := #[24, 24] })
    (hs : a.eval s = .slice (some ⟨w.heap.size, 0, none⟩) 0 0) (y : Value) (l : List Int) (f : List Nat) (hx : a.eval x = y) (hy : ints w y l f) (hn : l.length ≤ 1048576)
    (h : ∀ v' w' f', ints w' v' l f' → Fresh w.heap.size f' → Below w.heap.size w w' → wpList Tryz.prog ops Q rest (a.put o.dst v') w') :
    wpList Tryz.prog ops Q (o :: rest) a (w.alloc (.cells #[] 3)) := by
  have hy1 := hy.al (.cells #[] 3)
  obtain ⟨ob, hr, _, hw⟩ := row_of_ints hy1
  have hlit : (w.alloc (.cells #[] 3)).ownsRow w.heap.size 3 1 (.slice (some ⟨w.heap.size, 0, none⟩) 0 0) 0 [] := World.ownsRow_lit _ _ _ (Nat.le_refl _) (by simp) (by simp)
  refine wpList_append_row hT hgd s x ho w.heap.size _ 0 [] hs hlit y l.length (icells l) ob hx hr ?_ (by omega) (by unfold maxLen; omega) (by simp) ?_
  · intro u hu
    simp only [icells, List.mem_map] at hu
    obtain ⟨k, _, rfl⟩ := hu
    rfl
  · intro v' w' h2 h3 h5
    rw [Nat.zero_add, List.nil_append] at h2
    have hlt := own_lt h2
    refine h v' w' v'.ownBlock.toList (ints_of_row (own_row h2) hw) ⟨?_, ?_⟩ ?_
    · cases v'.ownBlock <;> simp
    · intro g hg
      cases hv : v'.ownBlock with
      | none => rw [hv] at hg; simp at hg
      | some k => rw [hv] at hg; simp at hg; subst hg; exact (hlt g hv).1
    · exact below_of_grown (grownBy_trans (World.grownBy_alloc _ _ _) h3) (Nat.le_refl _) fun k hk => by simp [Value.ownBlock] at hk; omega
end Go.Proofs.YtpdmdfkcaabnaaaGreatDoor
