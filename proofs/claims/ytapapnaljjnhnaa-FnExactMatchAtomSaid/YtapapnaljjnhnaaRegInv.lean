/- Regions that draw their order, by an invariant; append of a whole row at an operation. Over any program; no condition. -/
import Derived.Test.YtapapnaljjnhnaaCopy
import Derived.Orders
namespace Go.Proofs.Ytapapnaljjnhnaa
open Go.RowKit
set_option linter.unusedVariables false
set_option linter.unusedSimpArgs false
theorem count_set_false {l : List Bool} {i : Nat} (h : i < l.length) (hf : l[i] = false) : (l.set i true).count false + 1 = l.count false := by
  induction l generalizing i with
  | nil => simp at h
  | cons b t ih =>
    cases i with
    | zero => simp at hf; subst hf; simp
    | succ i =>
      have := ih (i := i) (by simpa using h) (by simpa using hf)
      simp only [List.set_cons_succ, List.count_cons]
      omega
theorem ready_iff {md : Region.Mode} {ops : Array Oper} {L : Array Bool} {i : Nat} (h : i ∈ Region.ready md ops L) :
    i < ops.size ∧ L.getD i true = false ∧ ((ops[i]?).map (·.after.all fun e => !Region.binds md e || L.getD e.on false)).getD false = true := by
  unfold Region.ready at h
  rw [List.mem_filter, List.mem_range, Bool.and_eq_true, Bool.not_eq_true'] at h
  exact ⟨h.1, h.2.1, h.2.2⟩
theorem wpAny_inv {P : Program} {md : Region.Mode} {ops : Array Oper} {Q : Exit → Act → World → Prop} (I : Array Bool → Act → World → Prop)
    (hsz : ∀ L a w, I L a w → L.size = ops.size)
    (hs : ∀ L a w i, I L a w → i ∈ Region.ready md ops L → wpOp P ops Q i (I (L.setIfInBounds i true)) a w)
    (he : ∀ L a w, I L a w → Region.ready md ops L = [] → Q .normal a w) :
    ∀ (fuel : Nat) (L : Array Bool) (a : Act) (w : World), I L a w → L.toList.count false ≤ fuel → wpAny P md ops Q fuel L a w := by
  intro fuel
  induction fuel with
  | zero =>
    intro L a w hI hc
    have hr : Region.ready md ops L = [] := by
      rw [List.eq_nil_iff_forall_not_mem]
      intro i hi
      obtain ⟨h1, h2, _⟩ := ready_iff hi
      have h3 := hsz L a w hI
      have h4 : i < L.size := by omega
      have h5 : L[i] = false := by simpa [Array.getD, h4] using h2
      have h6 : false ∈ L.toList := by rw [← h5]; simp
      have h7 := List.count_pos_iff.2 h6
      omega
    exact ⟨hr, he L a w hI hr⟩
  | succ fuel ih =>
    intro L a w hI hc
    refine ⟨he L a w hI, fun i hi => wpOp_mono (fun a' w' h => ih _ a' w' h ?_) (hs L a w i hI hi)⟩
    obtain ⟨h1, h2, _⟩ := ready_iff hi
    have h3 := hsz L a w hI
    have h4 : i < L.size := by omega
    have h5 : L[i] = false := by simpa [Array.getD, h4] using h2
    have h6 := count_set_false (l := L.toList) (i := i) (by simpa using h4) (by simpa using h5)
    rw [Array.toList_setIfInBounds]
    omega
theorem all_listed {md : Region.Mode} {ops : Array Oper} {L : Array Bool} (hsz : L.size = ops.size) (hlow0 : ((List.range ops.size).all fun i => ((ops[i]?).map fun o => o.after.all fun e => decide (e.on < i)).getD false) = true) (hr : Region.ready md ops L = []) :
    ∀ i, i < ops.size → L.getD i false = true := by
  have hlow : ∀ i, (h : i < ops.size) → ops[i].after.all (fun e => decide (e.on < i)) = true := by
    intro i h
    have h1 := (List.all_eq_true.1 hlow0) i (List.mem_range.2 h)
    simpa only [Array.getElem?_eq_getElem h, Option.map_some, Option.getD_some] using h1
  intro i
  induction i using Nat.strongRecOn with
  | ind i ih =>
    intro hi
    cases hb : L.getD i false with
    | true => rfl
    | false =>
      exfalso
      have h1 : i ∈ Region.ready md ops L := by
        unfold Region.ready
        rw [List.mem_filter, List.mem_range, Bool.and_eq_true, Bool.not_eq_true']
        have h4 : i < L.size := by omega
        refine ⟨hi, ?_, ?_⟩
        · simpa [Array.getD, h4] using hb
        · have h2 := hlow i hi
          rw [Array.all_eq_true'] at h2
          simp only [Array.getElem?_eq_getElem hi, Option.map_some, Option.getD_some]
          rw [Array.all_eq_true']
          intro e he
          have h3 : e.on < i := by simpa using h2 e he
          rw [ih e.on h3 (by omega), Bool.or_true]
      rw [hr] at h1
      simp at h1
/-- append of a whole row (nil, empty or not) onto a row of the call's own, at the operation. -/
theorem wp_append_row {P : Program} {T E : TypeId} {z : Value} {size bytes : Nat} (hT : SlT P T E z size bytes) {w : World} {o : Oper} {a : Act} {K : Act → World → Prop} {Q : Exit → Act → World → Prop}
    (hgd : o.guard = none) (s x : Operand) (ho : o.op = .call { callee := .builtin .append, args := #[s, x], argTypes := #[T, T] })
    (base : Nat) (v : Value) (n : Nat) (xs : List Value) (hs : a.eval s = v) (hown : w.ownsRow base E size v n xs) (y : Value) (m : Nat) (news : List Value) (ob : Option Nat) (hx : a.eval x = y) (hr : Row w E size y m news ob)
    (h1 : ∀ u ∈ news, u.oneCell' = true) (hb : (n + m) * bytes ≤ 140737488355328) (h63 : n + m ≤ maxLen) (hbase : base ≤ w.heap.size)
    (h : ∀ v' w', w'.ownsRow base E size v' (n + m) (xs ++ news) → w.grownBy w' v.ownBlock → (v'.ownBlock = v.ownBlock ∨ v'.ownBlock = some w.heap.size) → K (a.put o.dst v') w') :
    o.wp P a w K Q := by
  obtain ⟨i, hi, hz, hsz, hby⟩ := hT.inf
  obtain ⟨hl, hr⟩ := hr
  have fin : ∀ v' w', (Builtin.append_ #[T, T] o.type #[v, y]).run P w = .ok v' w' → K (a.put o.dst v') w' → o.wp P a w K Q := by
    intro v' w' hrun hk
    unfold Oper.wp execOp
    simp only [ho, resolve, invoke, builtin, Sem.run_bind, Sem.run_pure, Result.andThen_ok, List.map_toArray, List.map_cons, List.map_nil, hs, hx, hrun]
    exact hk
  have mk : ∀ (ad : Addr) (m' c : Nat) (ns : List Value), y = .slice (some ad) m' c → ns.length = m' * size → (∀ j u, ns[j]? = some u → w.cell? (ad.add j) = some u) → m' = m → ns = news → o.wp P a w K Q := by
    intro ad m' c ns hy hln hns hm' hns'
    subst hm' hns'
    obtain ⟨v', w', hrun, h2, h3, _, h5⟩ := run_append_own_at (P := P) w base T o.type E i z size bytes hT.und hi hz hsz hby hT.zs hT.pos v n xs hown ad m' c ns hln hns h1 h63 hb hbase
    exact fin v' w' (by rw [hy]; exact hrun) (h v' w' h2 h3 h5)
  rcases hr with ⟨a', rfl, rfl, _⟩ | ⟨g, cap, cur, rfl, _, hg, hle, hcm, hcs, ht⟩
  · obtain rfl : news = [] := List.length_eq_zero_iff.1 (by simpa using hl)
    cases a' with
    | none => exact fin v w (run_append_owned_none (P := P) (w := w) base T o.type E i size hT.und hi v n xs hown) (h v w (by simpa using hown) ⟨rfl, rfl, rfl, Nat.le_refl _, fun _ _ _ => rfl⟩ (.inl rfl))
    | some ad => exact mk ad 0 0 [] rfl (by simp) (by simp) rfl rfl
  · refine mk ⟨g, 0, none⟩ m cap news rfl hl ?_ rfl rfl
    intro j u hj
    have hadd : (⟨g, 0, none⟩ : Addr).add j = ⟨g, j, none⟩ := by unfold Addr.add; split <;> simp_all
    rw [hadd, cell_of_row w g j cur _ (0, 0) hg]
    rw [← ht, List.getElem?_take] at hj
    split at hj
    · simpa using hj
    · cases hj
/-! ### Rows of ints that a region makes -/
def alive (con : Nat → Nat) (L : Array Bool) (i : Nat) : Prop := L.getD i false = true ∧ L.getD (con i) false = false
theorem getD_set {L : Array Bool} {i j : Nat} (hi : i < L.size) : (L.setIfInBounds i true).getD j false = if i = j then true else L.getD j false := by
  by_cases h : i = j
  · subst h; simp [Array.getD, hi]
  · rw [if_neg h]
    by_cases hj : j < L.size
    · simp [Array.getD, hj, Array.getElem_setIfInBounds, h]
    · simp [Array.getD, hj]
theorem eval_same {a : Act} {d : Nat} {v : Value} (h : d < a.tmps.size) : (a.put (some d) v).eval (.tmp d) = v := by simp [Act.put, Act.eval, Array.getD, h]
theorem eval_other {a : Act} {d s : Nat} {v : Value} (h : s ≠ d) : (a.put (some d) v).eval (.tmp s) = a.eval (.tmp s) := Act.eval_put fun d' hd e => by cases hd; cases e; exact h rfl
/-- What stands in the midst of a region: n operations, of which the i-th writes slot i + sh; rows of the region's own (Lst), what each is taken up by (con), values that do not hang on the order (V). -/
structure St (E : TypeId) (n N sh : Nat) (w0 : World) (a0 : Act) (Lst : Nat → Option (List Int)) (con : Nat → Nat) (V : Nat → Option Value) (L : Array Bool) (a : Act) (w : World) : Prop where
  size : L.size = n
  tsz : a.tmps.size = N
  bel : Below w0.heap.size w0 w
  old : ∀ s, s < sh → a.eval (.tmp s) = a0.eval (.tmp s)
  det : ∀ i v, L.getD i false = true → V i = some v → a.eval (.tmp (i + sh)) = v
  row : ∀ i l, alive con L i → Lst i = some l → w.ownsRow w0.heap.size E 1 (a.eval (.tmp (i + sh))) l.length (icells l)
  dis : ∀ i j g, alive con L i → alive con L j → i ≠ j → (Lst i).isSome = true → (Lst j).isSome = true → (a.eval (.tmp (i + sh))).ownBlock = some g → (a.eval (.tmp (j + sh))).ownBlock ≠ some g
section
variable {E : TypeId} {n N sh : Nat} {w0 : World} {a0 : Act} {Lst : Nat → Option (List Int)} {con : Nat → Nat} {V : Nat → Option Value} {L : Array Bool} {a : Act} {w w' : World}
theorem St.step (h : St E n N sh w0 a0 Lst con V L a w) (i : Nat) (hi : i < n) (hoff : L.getD i false = false) (hslot : i + sh < N) (v : Value) (gp : Option Nat)
    (hbel : Below w0.heap.size w0 w')
    (hkeep : ∀ u k xs, w.ownsRow w0.heap.size E 1 u k xs → (∀ g, u.ownBlock = some g → gp ≠ some g) → w'.ownsRow w0.heap.size E 1 u k xs)
    (hgp : ∀ j g, alive con L j → con j ≠ i → (Lst j).isSome = true → (a.eval (.tmp (j + sh))).ownBlock = some g → gp ≠ some g)
    (hdet : ∀ u, V i = some u → v = u)
    (hrow : ∀ l, Lst i = some l → w'.ownsRow w0.heap.size E 1 v l.length (icells l))
    (hnew : (Lst i).isSome = true → ∀ g, v.ownBlock = some g → gp = some g ∨ w.heap.size ≤ g) :
    St E n N sh w0 a0 Lst con V (L.setIfInBounds i true) (a.put (some (i + sh)) v) w' := by
  have hiL : i < L.size := by rw [h.size]; exact hi
  have hg : ∀ j, (L.setIfInBounds i true).getD j false = if i = j then true else L.getD j false := fun j => getD_set hiL
  have hal : ∀ j, alive con (L.setIfInBounds i true) j → j ≠ i → alive con L j ∧ con j ≠ i := by
    intro j hj hne
    obtain ⟨h1, h2⟩ := hj
    rw [hg, if_neg (Ne.symm hne)] at h1
    rw [hg] at h2
    by_cases hc : i = con j
    · rw [if_pos hc] at h2; cases h2
    · rw [if_neg hc] at h2; exact ⟨⟨h1, h2⟩, Ne.symm hc⟩
  have hs : i + sh < a.tmps.size := by rw [h.tsz]; exact hslot
  have hev : ∀ j, j ≠ i → (a.put (some (i + sh)) v).eval (.tmp (j + sh)) = a.eval (.tmp (j + sh)) := fun j hj => eval_other (by omega)
  refine ⟨by simp [h.size], by simp [Act.put, h.tsz], hbel, fun s hs => (eval_other (by omega)).trans (h.old s hs), ?_, ?_, ?_⟩
  · intro j u hj hu
    by_cases hji : j = i
    · subst hji; rw [eval_same hs]; exact hdet u hu
    · rw [hg, if_neg (Ne.symm hji)] at hj
      rw [hev j hji]; exact h.det j u hj hu
  · intro j l hj hl
    by_cases hji : j = i
    · subst hji; rw [eval_same hs]; exact hrow l hl
    · obtain ⟨h1, h2⟩ := hal j hj hji
      rw [hev j hji]
      exact hkeep _ _ _ (h.row j l h1 hl) fun g hg => hgp j g h1 h2 (by rw [hl]; rfl) hg
  · intro j k g hj hk hjk h1 h2 h3
    by_cases hji : j = i
    · subst hji
      obtain ⟨k1, k2⟩ := hal k hk (Ne.symm hjk)
      rw [eval_same hs] at h3
      rw [hev k (Ne.symm hjk)]
      intro h4
      rcases hnew h1 g h3 with h5 | h5
      · exact hgp k g k1 k2 h2 h4 h5
      · obtain ⟨l, hl⟩ := Option.isSome_iff_exists.1 h2
        have := (own_lt (h.row k l k1 hl) g h4).2
        omega
    · obtain ⟨j1, j2⟩ := hal j hj hji
      rw [hev j hji] at h3
      by_cases hki : k = i
      · subst hki
        rw [eval_same hs]
        intro h4
        rcases hnew h2 g h4 with h5 | h5
        · exact hgp j g j1 j2 h1 h3 h5
        · obtain ⟨l, hl⟩ := Option.isSome_iff_exists.1 h1
          have := (own_lt (h.row j l j1 hl) g h3).2
          omega
      · rw [hev k hki]
        exact h.dis j k g j1 (hal k hk hki).1 hjk h1 h2 h3
/-- A step that makes no row and changes nothing. -/
theorem St.still (h : St E n N sh w0 a0 Lst con V L a w) (i : Nat) (hi : i < n) (hoff : L.getD i false = false) (hslot : i + sh < N) (v : Value) (hV : ∀ u, V i = some u → v = u) (hL : Lst i = none) :
    St E n N sh w0 a0 Lst con V (L.setIfInBounds i true) (a.put (some (i + sh)) v) w :=
  h.step i hi hoff hslot v none h.bel (fun u k xs h1 _ => h1) (fun j g _ _ _ _ e => by cases e) hV (fun l hl => by rw [hL] at hl; cases hl) (fun hs => by rw [hL] at hs; cases hs)
/-- A literal. -/
theorem St.lit (h : St E n N sh w0 a0 Lst con V L a w) (i : Nat) (hi : i < n) (hoff : L.getD i false = false) (hslot : i + sh < N) (l : List Int) (hV : V i = none) (hL : Lst i = some l) (hlen : l.length ≤ 1) :
    St E n N sh w0 a0 Lst con V (L.setIfInBounds i true) (a.put (some (i + sh)) (.slice (some ⟨w.heap.size, 0, none⟩) l.length l.length)) (w.alloc (.cells (icells l).toArray E)) := by
  refine h.step i hi hoff hslot _ none (ba h.bel) (fun u k xs h1 _ => h1.alloc _) (fun j g _ _ _ _ e => by cases e) (fun u hu => by rw [hV] at hu; cases hu) (fun l' hl => ?_) (fun _ g hg => .inr ?_)
  · rw [hL] at hl; cases hl
    have hz : (icells l).length = l.length := by simp [icells]
    refine ⟨by simp [icells], .inr ⟨w.heap.size, l.length, (icells l).toArray, rfl, h.bel.size, heap_alloc_new w _, Nat.le_refl _, by unfold maxLen; omega, by simp [icells], ?_⟩⟩
    rw [List.take_of_length_le]
    simp [icells]
  · simp [Value.ownBlock] at hg; omega
/-- An append. p: the operation whose row is taken up. -/
theorem St.app (h : St E n N sh w0 a0 Lst con V L a w) (i p : Nat) (hi : i < n) (hoff : L.getD i false = false) (hslot : i + sh < N) (l : List Int) (hV : V i = none) (hL : Lst i = some l)
    (hp : L.getD p false = true) (hcp : con p = i) (hLp : (Lst p).isSome = true) (v' : Value) (h1 : w'.ownsRow w0.heap.size E 1 v' l.length (icells l)) (h2 : w.grownBy w' (a.eval (.tmp (p + sh))).ownBlock)
    (h3 : v'.ownBlock = (a.eval (.tmp (p + sh))).ownBlock ∨ v'.ownBlock = some w.heap.size) :
    St E n N sh w0 a0 Lst con V (L.setIfInBounds i true) (a.put (some (i + sh)) v') w' := by
  have hpa : alive con L p := ⟨hp, by rw [hcp]; exact hoff⟩
  obtain ⟨lp, hlp⟩ := Option.isSome_iff_exists.1 hLp
  have hown := h.row p lp hpa hlp
  refine h.step i hi hoff hslot v' (a.eval (.tmp (p + sh))).ownBlock ?_ (fun u k xs h4 h5 => ?_) (fun j g h4 h5 h6 h7 h8 => ?_) (fun u hu => by rw [hV] at hu; cases hu) (fun l' hl => by rw [hL] at hl; cases hl; exact h1) (fun _ g hg => ?_)
  · exact h.bel.trans (below_of_grown h2 h.bel.size fun k hk => (own_lt hown k hk).1)
  · refine ⟨h4.1, ?_⟩
    have hlt := own_lt h4
    rcases h4.2 with h0 | ⟨g, cap, cur, rfl, hb, hh, r⟩
    · exact .inl h0
    · exact .inr ⟨g, cap, cur, rfl, hb, (h2.block g (hlt g rfl).2 (fun e => h5 g rfl e.symm)).trans hh, r⟩
  · exact h.dis j p g h4 hpa (fun e => h5 (by rw [e]; exact hcp)) h6 hLp h7 h8
  · rcases h3 with h3 | h3
    · exact .inl (by rw [← h3]; exact hg)
    · rw [h3] at hg; cases hg; exact .inr (Nat.le_refl _)
end
end Go.Proofs.Ytapapnaljjnhnaa
