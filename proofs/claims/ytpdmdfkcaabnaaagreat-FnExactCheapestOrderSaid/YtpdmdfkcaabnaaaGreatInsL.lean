/- copy and append of zero values at rows of the call's own, elements of any size; one element laid into a slice of the call's own at a place. Over any program; no condition. -/
import Derived.Test.YtpdmdfkcaabnaaaGreatGrow
import Derived.Laws.CopyOwn
import Derived.Lib.AppendZerosOnto
import Derived.Lib.Overlaps
namespace Go.Proofs.YtpdmdfkcaabnaaaGreat
open Go.RowKit
set_option linter.unusedVariables false
set_option linter.unusedSimpArgs false
theorem run_copy_z {P : Program} (w : World) (dT sT ty elem : TypeId) (sz g o dLen dCap : Nat) (a : Addr) (sLen sCap : Nat) (cur : Array Value) (t : TypeId) (cs : List Value)
    (hu : P.underlying dT = some (.slice elem)) (hs : (P.info? elem).map (·.size) = some sz)
    (hg : w.heap[g]? = some (.cells cur t (0, 0))) (hn : cs.length = Nat.min sLen dLen * sz)
    (hsrc : ∀ j v, cs[j]? = some v → w.cell? (a.add j) = some v) (hfit : o + cs.length ≤ cur.size) (h1 : ∀ v ∈ cs, v.oneCell' = true) :
    (Builtin.copy_ #[dT, sT] ty #[.slice (some ⟨g, o, none⟩) dLen dCap, .slice (some a) sLen sCap]).run P w =
      .ok (goInt (Nat.min sLen dLen)) (w.setRow g (cur.toList.take o ++ cs ++ cur.toList.drop (o + cs.length)).toArray) := by
  have hl := run_loadCells_list (P := P) w a cs hsrc
  have hst := run_storeCells_at P g o t cs 0 cur w hg (by simpa using hfit) h1
  cases hq : P.info? elem with
  | none => simp [hq] at hs
  | some i =>
    have hi : i.size = sz := by simpa [hq] using hs
    simp [Builtin.copy_, run_underlying hu, Builtin.lenOf, Builtin.firstCells, sizeOf, typeInfo, hq, hi, ← hn, hl, hst]
theorem grown_setRow (w : World) (g : Nat) (cs : Array Value) : w.grownBy (w.setRow g cs) (some g) :=
  ⟨rfl, rfl, rfl, by simp [World.setRow], fun k _ hk => setRow_other w g k cs (fun e => hk (by rw [e]))⟩
theorem splice_eq (cur : Array Value) (o : Nat) (cs : List Value) : (cur.toList.take o ++ cs ++ cur.toList.drop (o + cs.length)).toArray = (splice cur.toList o cs).toArray := by
  unfold splice; rw [List.append_assoc]
section
variable {P : Program} {T E : TypeId} {z : Value} {sz bytes : Nat}
theorem SlT.szOf (hT : SlT P T E z sz bytes) : (P.info? E).map (·.size) = some sz := by
  obtain ⟨i, hi, _, hsz, _⟩ := hT.inf; rw [hi]; simp [hsz]
/-- copy(d, s) into a row that is known whole. -/
theorem wpList_copy_z (hT : SlT P T E z sz bytes) {w : World} {ops : Array Oper} {rest : List Oper} {o : Oper} {a : Act} {Q : Exit → Act → World → Prop} (hgd : o.guard = none) (d s : Operand)
    (ho : o.op = .call { callee := .builtin .copy, args := #[d, s], argTypes := #[T, T] })
    (g off dLen dCap : Nat) (ad : Addr) (sLen sCap : Nat) (hd : a.eval d = .slice (some ⟨g, off, none⟩) dLen dCap) (hs : a.eval s = .slice (some ad) sLen sCap)
    (cur : List Value) (hg : w.heap[g]? = some (.cells cur.toArray E (0, 0))) (cs : List Value) (hn : cs.length = Nat.min sLen dLen * sz)
    (hsrc : ∀ j v, cs[j]? = some v → w.cell? (ad.add j) = some v) (hfit : off + cs.length ≤ cur.length) (h1 : ∀ v ∈ cs, v.oneCell' = true)
    (h : ∀ w' n, Hid (w'.heap[g]? = some (.cells (splice cur off cs).toArray E (0, 0))) → w.grownBy w' (some g) → Hid (w'.heap.size = w.heap.size) → wpList P ops Q rest (a.put o.dst (goInt n)) w') :
    wpList P ops Q (o :: rest) a w := by
  refine wpList_plain hgd fun K hK => ?_
  have hrun := run_copy_z (P := P) w T T o.type E sz g off dLen dCap ad sLen sCap cur.toArray E cs hT.und hT.szOf hg hn hsrc (by simpa using hfit) h1
  unfold Oper.wp
  simp [execOp, ho, resolve, invoke, builtin, hd, hs, hrun, Result.andThen]
  refine hK _ _ (h _ _ (show _ = _ from ?_) (grown_setRow _ _ _) (show _ = _ by simp [World.setRow]))
  simpa [splice] using setRow_heap w g cur.toArray _ E _ hg
/-- .. as one step of a region that draws its order. -/
theorem step_copy_z (hT : SlT P T E z sz bytes) {ops : Array Oper} {o : Oper} {a : Act} {w : World} {K : Act → World → Prop} {Q : Exit → Act → World → Prop} {F : Prop} (hgd : o.guard = none) (d s : Operand)
    (ho : o.op = .call { callee := .builtin .copy, args := #[d, s], argTypes := #[T, T] })
    (g off dLen dCap : Nat) (ad : Addr) (sLen sCap : Nat) (hd : a.eval d = .slice (some ⟨g, off, none⟩) dLen dCap) (hs : a.eval s = .slice (some ad) sLen sCap)
    (cur : List Value) (hg : w.heap[g]? = some (.cells cur.toArray E (0, 0))) (cs : List Value) (hn : cs.length = Nat.min sLen dLen * sz)
    (hsrc : ∀ j v, cs[j]? = some v → w.cell? (ad.add j) = some v) (hfit : off + cs.length ≤ cur.length) (h1 : ∀ v ∈ cs, v.oneCell' = true)
    (h : ∀ w' n, Hid (w'.heap[g]? = some (.cells (splice cur off cs).toArray E (0, 0))) → w.grownBy w' (some g) → Hid (w'.heap.size = w.heap.size) → K (a.put o.dst (goInt n)) w') :
    if Region.wanted o (yielded ops a.tmps) = true then Oper.wp P o a w K Q else F := by
  have hw : Region.wanted o (yielded ops a.tmps) = true := by simp [Region.wanted, hgd]
  rw [if_pos hw]
  have hrun := run_copy_z (P := P) w T T o.type E sz g off dLen dCap ad sLen sCap cur.toArray E cs hT.und hT.szOf hg hn hsrc (by simpa using hfit) h1
  unfold Oper.wp
  simp [execOp, ho, resolve, invoke, builtin, hd, hs, hrun, Result.andThen]
  refine h _ _ (show _ = _ from ?_) (grown_setRow _ _ _) (show _ = _ by simp [World.setRow])
  simpa [splice] using setRow_heap w g cur.toArray _ E _ hg
/-- append(s[:i], make(S, k)...) where there is no room for k more: a new row. -/
theorem wpList_append_zeros (hT : SlT P T E z sz bytes) {tn : TypeId} {kn kq : IntKind} (htn : P.underlying tn = some (.int kn)) {w : World} {ops : Array Oper} {rest : List Oper} {o : Oper} {a : Act} {Q : Exit → Act → World → Prop} (hgd : o.guard = none) (s x : Operand)
    (ho : o.op = .call { callee := .builtin .append, args := #[s, x], argTypes := #[T, tn] })
    (g i cap k : Nat) (K0 : Int) (hs : a.eval s = .slice (some ⟨g, 0, none⟩) i cap) (hx : a.eval x = .int kq K0) (hK : K0 = (k : Int)) (cur : List Value) (hg : w.heap[g]? = some (.cells cur.toArray E (0, 0))) (hcur : i * sz ≤ cur.length)
    (h0 : 0 < k) (hroom : cap < i + k) (h63 : i + k ≤ maxLen) (hfit : (i + k) * bytes ≤ 140737488355328)
    (h : ∀ (G cap' : Nat) (w' : World) (cur' : List Value), Hid (G = w.heap.size) → Hid (w'.heap[G]? = some (.cells cur'.toArray E (0, 0))) → Hid (cur'.take (i * sz) = cur.take (i * sz)) → Hid (cur'.length = cap' * sz) → i + k ≤ cap' → cap' ≤ 9223372036854775807 → w.grownBy w' none → Hid (w'.heap.size = w.heap.size + 1) →
      wpList P ops Q rest (a.put o.dst (.slice (some ⟨G, 0, none⟩) (i + k) cap')) w') :
    wpList P ops Q (o :: rest) a w := by
  subst hK
  obtain ⟨i0, hi, hz, hsz, hby⟩ := hT.inf
  have hzs := hT.zs
  have hpos := hT.pos
  unfold maxLen at h63
  have hold : (Builtin.firstCells i0.size i (.slice (some ⟨g, 0, none⟩) i cap)).run P w.drew = .ok (cur.take (i * sz)).toArray w.drew := by
    rw [hsz]
    refine run_firstCells_some w.drew sz i ⟨g, 0, none⟩ i cap (cur.take (i * sz)) (by rw [List.length_take]; omega) (fun j v hj => ?_)
    have hadd : (⟨g, 0, none⟩ : Addr).add j = ⟨g, j, none⟩ := by unfold Addr.add; split <;> simp_all
    rw [hadd]
    show w.cell? _ = _
    rw [cell_of_row w g j cur.toArray E (0, 0) hg]
    rw [List.getElem?_take] at hj
    split at hj
    · simpa using hj
    · cases hj
  have hb : k * i0.bytes ≤ 281474976710656 := by
    rw [hby]
    have := Nat.mul_le_mul_right bytes (show k ≤ i + k by omega)
    omega
  have hrun := Lib.run_append_grow_zeros (P := P) w T tn o.type E i0 z kq kn hT.und htn hi hz (some ⟨g, 0, none⟩) i cap _ hold k h0 (by omega) hroom (by omega) hb (by rw [hby]; exact growslice_fits hroom hfit)
  refine Lib.wpList_append_run w hgd s x T tn ho _ _ hs hx _ _ hrun ?_
  have hge := grownCap_ge w (i + k) cap E
  have hlm := grownCap_le_maxLen w (i + k) cap E (by unfold maxLen; exact h63)
  unfold maxLen at hlm
  have hzl : ∀ m, (Builtin.zeroCells z.cells m).size = m * sz := fun m => by simp [Builtin.zeroCells, hzs]
  have hl1 : (cur.take (i * sz)).length = i * sz := by rw [List.length_take]; omega
  refine h w.heap.size _ (w.drew.alloc (.cells ((cur.take (i * sz)).toArray ++ Builtin.zeroCells z.cells k ++ Builtin.zeroCells z.cells (grownCap w (i + k) cap E - (i + k))) E)) (cur.take (i * sz) ++ (Builtin.zeroCells z.cells k).toList ++ (Builtin.zeroCells z.cells (grownCap w (i + k) cap E - (i + k))).toList)
    (show _ = _ from rfl) (show _ = _ from ?_) (show _ = _ from ?_) (show _ = _ from ?_) hge hlm ?_ (show _ = _ from ?_)
  · have := heap_alloc_new w.drew (.cells ((cur.take (i * sz)).toArray ++ Builtin.zeroCells z.cells k ++ Builtin.zeroCells z.cells (grownCap w (i + k) cap E - (i + k))) E)
    refine Eq.trans this ?_
    congr 2
    apply Array.ext'
    simp
  · rw [List.append_assoc, List.take_append_of_le_length (by omega), List.take_take, Nat.min_self]
  · rw [List.length_append, List.length_append, hl1, Array.length_toList, Array.length_toList, hzl, hzl, ← Nat.add_mul, ← Nat.add_mul]
    congr 1; omega
  · exact grownBy_trans (b := w.drew) ⟨rfl, rfl, rfl, Nat.le_refl _, fun _ _ _ => rfl⟩ (World.grownBy_alloc w.drew _ _)
  · show (w.heap.push _).size = _
    simp
end
/-! ### What the rows come to -/
theorem All.take {α : Type} {R : Rd α} {w : World} {rows : List (List Value)} {l : List α} {fs : List (List Nat)} (h : All R w rows l fs) : ∀ i, All R w (rows.take i) (l.take i) (fs.take i) := by
  induction h with
  | nil => intro i; simpa using All.nil
  | cons h1 _ ih =>
    intro i
    cases i with
    | zero => exact .nil
    | succ i => exact .cons h1 (ih i)
theorem All.drop {α : Type} {R : Rd α} {w : World} {rows : List (List Value)} {l : List α} {fs : List (List Nat)} (h : All R w rows l fs) : ∀ i, All R w (rows.drop i) (l.drop i) (fs.drop i) := by
  induction h with
  | nil => intro i; simpa using All.nil
  | cons h1 h2 ih =>
    intro i
    cases i with
    | zero => exact .cons h1 h2
    | succ i => exact ih i
theorem flat_len {sz : Nat} : ∀ (l : List (List Value)), (∀ c ∈ l, c.length = sz) → l.flatten.length = l.length * sz
  | [], _ => by simp
  | a :: t, hl => by rw [List.flatten_cons, List.length_append, flat_len t (fun c hc => hl c (by simp [hc])), hl a (by simp), List.length_cons, Nat.succ_mul]; omega
theorem flat_take {sz : Nat} {rows : List (List Value)} (hl : ∀ c ∈ rows, c.length = sz) {i : Nat} (hi : i ≤ rows.length) : rows.flatten.take (i * sz) = (rows.take i).flatten := by
  have h : rows.flatten = (rows.take i).flatten ++ (rows.drop i).flatten := by rw [← List.flatten_append, List.take_append_drop]
  have hlen : (rows.take i).flatten.length = i * sz := by
    rw [flat_len _ fun c hc => hl c (List.mem_of_mem_take hc), List.length_take, Nat.min_eq_left hi]
  rw [h, List.take_append_of_le_length (by omega), List.take_of_length_le (by omega)]
theorem flat_drop {sz : Nat} {rows : List (List Value)} (hl : ∀ c ∈ rows, c.length = sz) {i : Nat} (hi : i ≤ rows.length) : rows.flatten.drop (i * sz) = (rows.drop i).flatten := by
  have h : rows.flatten = (rows.take i).flatten ++ (rows.drop i).flatten := by rw [← List.flatten_append, List.take_append_drop]
  have hlen : (rows.take i).flatten.length = i * sz := by
    rw [flat_len _ fun c hc => hl c (List.mem_of_mem_take hc), List.length_take, Nat.min_eq_left hi]
  rw [h, List.drop_append_of_le_length (by omega), List.drop_of_length_le (by omega), List.nil_append]
theorem mem_ins {α : Type} {x y : α} {l : List α} {i : Nat} : y ∈ l.take i ++ x :: l.drop i ↔ y = x ∨ y ∈ l := by
  conv => rhs; rw [← List.take_append_drop i l]
  simp only [List.mem_append, List.mem_cons]
  constructor
  · rintro (h | h | h)
    · exact .inr (.inl h)
    · exact .inl h
    · exact .inr (.inr h)
  · rintro (h | h | h)
    · exact .inr (.inl h)
    · exact .inl h
    · exact .inr (.inr h)
theorem mem_flat_ins {fs : List (List Nat)} {fx : List Nat} {i k : Nat} : k ∈ (fs.take i ++ fx :: fs.drop i).flatten ↔ k ∈ fx ∨ k ∈ fs.flatten := by
  rw [List.mem_flatten, List.mem_flatten]
  constructor
  · rintro ⟨f, hf, hk⟩
    rcases mem_ins.1 hf with rfl | h
    · exact .inl hk
    · exact .inr ⟨f, h, hk⟩
  · rintro (h | ⟨f, hf, hk⟩)
    · exact ⟨fx, mem_ins.2 (.inl rfl), h⟩
    · exact ⟨f, mem_ins.2 (.inr hf), hk⟩
theorem nodup_flat_ins {fs : List (List Nat)} {fx : List Nat} (i : Nat) (h : fs.flatten.Nodup) (hx : fx.Nodup) (hd : ∀ g ∈ fx, g ∉ fs.flatten) : (fs.take i ++ fx :: fs.drop i).flatten.Nodup := by
  have hp : (fs.take i ++ fx :: fs.drop i).flatten.Perm (fx ++ fs.flatten) := by
    have e : (fx ++ fs.flatten) = (fx :: (fs.take i ++ fs.drop i)).flatten := by rw [List.take_append_drop]; rfl
    rw [e]
    exact List.Perm.flatten List.perm_middle
  refine hp.symm.nodup ?_
  exact List.nodup_append.2 ⟨hx, h, fun a ha b hb e => hd a ha (e ▸ hb)⟩
/-- One element is laid into a slice of the call's own, ahead of its i-th. -/
theorem gr_ins {α : Type} {E : TypeId} {sz : Nat} {R : Rd α} {B : Nat} {w w' : World} {v : Value} {l : List α} {x : α} {c : List Value} {fx : List Nat} {rows : List (List Value)} {fs : List (List Nat)} (hR : Good R) (ha : All R w rows l fs) (hl : ∀ c ∈ rows, c.length = sz) (hfr : Fresh B (v.ownBlock.toList ++ fs.flatten))
    (hx : R w c x fx) (hc : c.length = sz) (hfx : Fresh B fx) (hd : ∀ g ∈ fx, g ∉ v.ownBlock.toList ++ fs.flatten) {i : Nat} (hi : i ≤ l.length) {g cap : Nat} {cur : List Value}
    (hg : w'.heap[g]? = some (.cells cur.toArray E (0, 0))) (hcl : cur.length = cap * sz) (hcap : l.length + 1 ≤ cap) (hmax : cap ≤ maxLen) (hcur : cur.take ((l.length + 1) * sz) = (rows.take i ++ c :: rows.drop i).flatten)
    (hkeep : ∀ k, k < w.heap.size → v.ownBlock ≠ some k → w'.heap[k]? = w.heap[k]?) (hat : v.ownBlock = some g ∨ w.heap.size ≤ g) (hgB : B ≤ g) :
    ∃ f', grR E sz R B w' (.slice (some ⟨g, 0, none⟩) (l.length + 1) cap) (l.take i ++ x :: l.drop i) f' ∧ ∀ k ∈ f', k = g ∨ k ∈ fx ∨ k ∈ fs.flatten := by
  have hlt1 := ha.lt hR
  have hlt2 := hR.lt hx
  have hnd := List.nodup_append.1 hfr.1
  have h1 : All R w' rows l fs := ha.frame hR fun k hk => hkeep k (hlt1 k hk) (fun e => hnd.2.2 k (by simp [e]) k hk rfl)
  have h2 : R w' c x fx := hR.frame hx fun k hk => hkeep k (hlt2 k hk) (fun e => hd k hk (by simp [e]))
  have hgl : g ∉ fs.flatten ∧ g ∉ fx := by
    rcases hat with e | e
    · exact ⟨fun hm => hnd.2.2 g (by simp [e]) g hm rfl, fun hm => hd g hm (by simp [e])⟩
    · exact ⟨fun hm => by have := hlt1 _ hm; omega, fun hm => by have := hlt2 _ hm; omega⟩
  have hlen : (l.take i ++ x :: l.drop i).length = l.length + 1 := by simp; omega
  have htwo : ∀ r ∈ rows.take i ++ c :: rows.drop i, r.length = sz := by
    intro r hr
    rcases mem_ins.1 hr with rfl | h
    · exact hc
    · exact hl r h
  have hrl : (rows.take i ++ c :: rows.drop i).length = l.length + 1 := by
    have := ha.len.1
    simp; omega
  refine ⟨g :: (fs.take i ++ fx :: fs.drop i).flatten, ⟨rows.take i ++ c :: rows.drop i, fs.take i ++ fx :: fs.drop i, (h1.take i).append (.cons h2 (h1.drop i)), htwo, ?_, by simp [Value.ownBlock], ?_⟩, ?_⟩
  · rw [hlen]
    refine ⟨by rw [flat_len _ htwo, hrl], .inr ⟨g, cap, cur.toArray, rfl, hgB, hg, hcap, hmax, by simpa using hcl, ?_⟩⟩
    simpa using hcur
  · refine ⟨List.nodup_cons.2 ⟨?_, nodup_flat_ins i hnd.2.1 hfx.1 fun k hk hm => hd k hk (by rw [List.mem_append]; exact .inr hm)⟩, fun k hk => ?_⟩
    · intro hm
      rcases mem_flat_ins.1 hm with h | h
      · exact hgl.2 h
      · exact hgl.1 h
    · rcases List.mem_cons.1 hk with rfl | hk
      · exact hgB
      · rcases mem_flat_ins.1 hk with h | h
        · exact hfx.2 k h
        · exact hfr.2 k (by rw [List.mem_append]; exact .inr h)
  · intro k hk
    rcases List.mem_cons.1 hk with rfl | hk
    · exact .inl rfl
    · exact .inr (mem_flat_ins.1 hk)
/-- The cells behind the shift in place. -/
theorem shift_cells {sz n i : Nat} {rows : List (List Value)} {c : List Value} {cur : List Value} (hl : ∀ c ∈ rows, c.length = sz) (hr : rows.length = n) (hc : c.length = sz) (hi : i < n) (hcur : cur.take (n * sz) = rows.flatten) (hfit : (n + 1) * sz ≤ cur.length) :
    (splice (splice cur ((i + 1) * sz) (rows.drop i).flatten) (i * sz) c).take ((n + 1) * sz) = (rows.take i ++ c :: rows.drop i).flatten := by
  have hX : (rows.drop i).flatten.length = (n - i) * sz := by rw [flat_len _ fun c hc => hl c (List.mem_of_mem_drop hc), List.length_drop, hr]
  have e1 : (i + 1) * sz + (n - i) * sz = (n + 1) * sz := by rw [← Nat.add_mul]; congr 1; omega
  have e2 : i * sz + sz = (i + 1) * sz := by rw [Nat.succ_mul]
  have e3 : i * sz ≤ n * sz := Nat.mul_le_mul_right sz (by omega)
  have e4 : cur.take (i * sz) = (rows.take i).flatten := by
    rw [← flat_take hl (by omega), ← hcur, List.take_take, Nat.min_eq_left e3]
  have h1 : splice cur ((i + 1) * sz) (rows.drop i).flatten = cur.take ((i + 1) * sz) ++ ((rows.drop i).flatten ++ cur.drop ((n + 1) * sz)) := by unfold splice; rw [hX, e1]
  have e5 : (i + 1) * sz ≤ (n + 1) * sz := Nat.mul_le_mul_right sz (by omega)
  have h2 : splice (splice cur ((i + 1) * sz) (rows.drop i).flatten) (i * sz) c = (rows.take i).flatten ++ (c ++ ((rows.drop i).flatten ++ cur.drop ((n + 1) * sz))) := by
    rw [h1]
    unfold splice
    rw [List.take_append_of_le_length (by rw [List.length_take]; omega), List.take_take, Nat.min_eq_left (by omega), e4, hc, e2, List.drop_append_of_le_length (by rw [List.length_take]; omega), List.drop_of_length_le (by rw [List.length_take]; omega), List.nil_append]
  rw [h2, ← List.append_assoc, ← List.append_assoc, List.take_append_of_le_length, List.take_of_length_le]
  · simp
  · have := flat_len _ (fun c hc => hl c (List.mem_of_mem_take (i := i) hc))
    rw [List.length_append, List.length_append, this, hX, hc, List.length_take, Nat.min_eq_left (by omega)]; omega
  · have := flat_len _ (fun c hc => hl c (List.mem_of_mem_take (i := i) hc))
    rw [List.length_append, List.length_append, this, hX, hc, List.length_take, Nat.min_eq_left (by omega)]; omega
theorem splice_len {L : List Value} {o : Nat} {cs : List Value} (h : o + cs.length ≤ L.length) : (splice L o cs).length = L.length := length_splice L o cs h
/-- The cells of the new row. -/
theorem grow_cells {sz n i : Nat} {rows : List (List Value)} {c : List Value} {cur : List Value} (hl : ∀ c ∈ rows, c.length = sz) (hr : rows.length = n) (hc : c.length = sz) (hi : i < n) (hcur : cur.take (i * sz) = (rows.take i).flatten) (hfit : (n + 1) * sz ≤ cur.length) :
    (splice (splice cur (i * sz) c) ((i + 1) * sz) (rows.drop i).flatten).take ((n + 1) * sz) = (rows.take i ++ c :: rows.drop i).flatten := by
  have hX : (rows.drop i).flatten.length = (n - i) * sz := by rw [flat_len _ fun c hc => hl c (List.mem_of_mem_drop hc), List.length_drop, hr]
  have hT : (rows.take i).flatten.length = i * sz := by rw [flat_len _ fun c hc => hl c (List.mem_of_mem_take hc), List.length_take, Nat.min_eq_left (by omega)]
  have e1 : (i + 1) * sz + (n - i) * sz = (n + 1) * sz := by rw [← Nat.add_mul]; congr 1; omega
  have e2 : i * sz + sz = (i + 1) * sz := by rw [Nat.succ_mul]
  have h1 : splice cur (i * sz) c = ((rows.take i).flatten ++ c) ++ cur.drop ((i + 1) * sz) := by unfold splice; rw [hcur, hc, e2, List.append_assoc]
  have h2 : splice (splice cur (i * sz) c) ((i + 1) * sz) (rows.drop i).flatten = (((rows.take i).flatten ++ c) ++ (rows.drop i).flatten) ++ cur.drop ((n + 1) * sz) := by
    rw [h1]
    unfold splice
    rw [List.take_append_of_le_length (by rw [List.length_append, hT, hc]; omega), List.take_of_length_le (by rw [List.length_append, hT, hc]; omega), hX, e1]
    have e9 : ((rows.take i).flatten ++ c).drop ((n + 1) * sz) = [] := List.drop_of_length_le (by rw [List.length_append, hT, hc]; have := Nat.mul_le_mul_right sz (show i + 1 ≤ n + 1 by omega); omega)
    rw [List.drop_append, e9, List.nil_append, List.drop_drop, List.length_append, hT, hc]
    rw [List.append_assoc (_ ++ _)]
    congr 3
    have := Nat.mul_le_mul_right sz (show i + 1 ≤ n + 1 by omega)
    omega
  rw [h2, List.take_append_of_le_length, List.take_of_length_le]
  · simp
  · rw [List.length_append, List.length_append, hT, hX, hc]; omega
  · rw [List.length_append, List.length_append, hT, hX, hc]; omega
end Go.Proofs.YtpdmdfkcaabnaaaGreat
