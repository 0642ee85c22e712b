/- ParseMethod of the reference: it returns what 'MethIs' says. Condition: the text is no longer than 2^20. -/
import Derived.Test.YtojjojcmemifhaaDoorCutS
import Derived.Test.YtojjojcmemifhaaDoorSX
import Derived.Test.YtojjojcmemifhaaDoorIsMeth
import Derived.Test.YtojjojcmemifhaaDoorFmtMeth
import Derived.Deep.RegionHeld3
import Derived.Deep.RegionLaw
import Derived.Laws.ResultCell
import Derived.Deep.Cut
import Derived.Deep.CutRange
namespace Go.Proofs.YtojjojcmemifhaaDoor
open Go.RowKit
set_option linter.unusedVariables false
set_option linter.unusedSimpArgs false
theorem strs_at2 {B : Nat} {w : World} {g cap n : Nat} {l : List (List UInt8)} {f : List Nat} (h : grR 9 1 strR B w (.slice (some ⟨g, 0, none⟩) n cap) l f) (hn : n = l.length) (k : Nat) (hk : k < l.length) : w.cell? ⟨g, k, none⟩ = some (.string ⟨l[k].toArray⟩) := by
  have h1 := (strs_cells h hn).1 k ⟨l[k].toArray⟩ (by simp [hk])
  rwa [Nat.zero_add] at h1
theorem nine {l : List (List UInt8)} (h : l.length = 9) : ∃ a b c d e f g i j, l = [a, b, c, d, e, f, g, i, j] := by
  match l, h with
  | [a, b, c, d, e, f, g, i, j], _ => exact ⟨a, b, c, d, e, f, g, i, j, rfl⟩
/-- What parsing a method ends in. -/
def PmEnd (s : List Int) (t : List UInt8) (w : World) (e : Ending) (w' : World) : Prop :=
  ∃ (m : MethD) (k : Bool) (vi : Value) (fi : List Nat), e = .returned (.tuple #[.agg #[.int .i64 m.rel, vi, .int .i64 m.limit, .int .i64 m.cost, .int .i64 m.quota], .bool k]) ∧ MethIs s t m k ∧ ints w' vi m.inputs fi ∧ Fresh w.heap.size fi ∧ Below w.heap.size w w'
theorem PmEnd.no {s : List Int} {t : List UInt8} {w : World} {e : Ending} {w' : World} (he : e = .returned (.tuple #[.agg #[.int .i64 0, .slice none 0 0, .int .i64 0, .int .i64 0, .int .i64 0], .bool false])) (h : ∀ n, methB s n = true → methFB n = true → methFS n ≠ t) (hb : Below w.heap.size w w') : PmEnd s t w e w' :=
  ⟨⟨0, [], 0, 0, 0⟩, false, _, [], he, .inr ⟨h, rfl, rfl⟩, slR.nilv _ _ _ _, Fresh.nil _, hb⟩
theorem PmEnd.yes {s : List Int} {t : List UInt8} {w : World} {e : Ending} {w' : World} (m : MethD) (vi : Value) (fi : List Nat) (he : e = .returned (.tuple #[.agg #[.int .i64 m.rel, vi, .int .i64 m.limit, .int .i64 m.cost, .int .i64 m.quota], .bool true])) (h : methB s m = true) (h2 : methFB m = true) (h3 : methFS m = t) (hi : ints w' vi m.inputs fi) (hf : Fresh w.heap.size fi) (hb : Below w.heap.size w w') : PmEnd s t w e w' :=
  ⟨m, true, vi, fi, he, .inl ⟨h, h2, h3, rfl⟩, hi, hf, hb⟩
theorem load5 {P : Program} {w : World} {g ty : Nat} {a b c d e : Value} {ds : TypeDesc} (h : Five w g a b c d e)
    (hu : P.underlying ty = some ds) (hd : (match ds with | .struct _ | .array _ _ => true | _ => false) = true) (hi : (P.info? ty).map (·.size) = some 5) :
    (loadVar ty ⟨g, 0, none⟩).run P w = .ok (.agg #[a, b, c, d, e]) w := by
  obtain ⟨⟨h0, h1, h2, h3, h4⟩, _⟩ := h
  have hl : (loadCells ⟨g, 0, none⟩ 5).run P w = .ok #[a, b, c, d, e] w :=
    run_loadCells_list (P := P) w ⟨g, 0, none⟩ [a, b, c, d, e] (fun j v hv => by
      have hadd : (⟨g, 0, none⟩ : Addr).add j = ⟨g, j, none⟩ := by unfold Addr.add; split <;> simp_all
      rw [hadd]
      match j, hv with
      | 0, hv => simp at hv; rw [h0, hv]
      | 1, hv => simp at hv; rw [h1, hv]
      | 2, hv => simp at hv; rw [h2, hv]
      | 3, hv => simp at hv; rw [h3, hv]
      | 4, hv => simp at hv; rw [h4, hv])
  cases hq : P.info? ty with
  | none => simp [hq] at hi
  | some i =>
    have hs : i.size = 5 := by simpa [hq] using hi
    have hagg : (isAgg ty).run P w = .ok true w := by
      unfold isAgg
      rw [Sem.run_bind, run_underlying hu w]
      cases ds <;> simp_all
    simp [loadVar, Sem.run_bind, hagg, sizeOf, typeInfo, hq, hs, hl]
theorem load_meth {w : World} {g : Nat} {a b c d e : Value} (h : Five w g a b c d e) : (loadVar 24 ⟨g, 0, none⟩).run Tryd.prog w = .ok (.agg #[a, b, c, d, e]) w := load5 h Tryd.underlying24 rfl (by kernel_rfl)
theorem load_set5 {w : World} {g : Nat} {a b c d e : Value} (h : Five w g a b c d e) (a' b' c' d' e' : Value) : (loadVar 24 ⟨g, 0, none⟩).run Tryd.prog (((((w.setCell ⟨g, 0, none⟩ a').setCell ⟨g, 1, none⟩ b').setCell ⟨g, 2, none⟩ c').setCell ⟨g, 3, none⟩ d').setCell ⟨g, 4, none⟩ e') = .ok (.agg #[a', b', c', d', e']) (((((w.setCell ⟨g, 0, none⟩ a').setCell ⟨g, 1, none⟩ b').setCell ⟨g, 2, none⟩ c').setCell ⟨g, 3, none⟩ d').setCell ⟨g, 4, none⟩ e') := load_meth (h.set a' b' c' d' e')
theorem keep5 {w : World} {g g' k : Nat} {a b c d e v : Value} (h : w.cell? ⟨g, k, none⟩ = some v) (hne : g' ≠ g) : (((((w.setCell ⟨g', 0, none⟩ a).setCell ⟨g', 1, none⟩ b).setCell ⟨g', 2, none⟩ c).setCell ⟨g', 3, none⟩ d).setCell ⟨g', 4, none⟩ e).cell? ⟨g, k, none⟩ = some v :=
  SX.cell (SX.set5 (w := w) g' a b c d e) h (by simpa using fun e => hne e.symm)
theorem five_of {w w' : World} {T : TypeId} {a b c d e : Value} (hb : Below (w.alloc (.cells #[a, b, c, d, e] T)).heap.size (w.alloc (.cells #[a, b, c, d, e] T)) w') : Five w' w.heap.size a b c d e := (Five.new w T a b c d e).below hb
theorem five_of_d {w w' : World} {T : TypeId} {a b c d e : Value} (hb : Below (w.alloc (.cells #[a, b, c, d, e] T)).drew.heap.size (w.alloc (.cells #[a, b, c, d, e] T)).drew w') : Five w' w.heap.size a b c d e := (show Five (w.alloc (.cells #[a, b, c, d, e] T)).drew w.heap.size a b c d e from Five.new w T a b c d e).below hb
/-- The box of what is read so far. -/
def PmBox (w1 : World) (r l c q : Int) (bx : Value) (wx : World) : Prop := ∃ g, bx = .pointer (some ⟨g, 0, none⟩) ∧ Five wx g (.int .i64 r) (.slice none 0 0) (.int .i64 l) (.int .i64 c) (.int .i64 q) ∧ w1.heap.size ≤ g ∧ Below w1.heap.size w1 wx
theorem PmBox.new {w1 w5 : World} {r l c q : Int} {T : TypeId} (hb : Below w1.heap.size w1 w5) : PmBox w1 r l c q (.pointer (some ⟨w5.heap.size, 0, none⟩)) (w5.alloc (.cells #[.int .i64 r, .slice none 0 0, .int .i64 l, .int .i64 c, .int .i64 q] T)) :=
  ⟨_, rfl, Five.new _ _ _ _ _ _ _, hb.size, ba hb⟩
theorem PmBox.set {w1 w5 : World} {r l c q : Int} {g : Nat} {x0 x1 x2 x3 x4 : Value} (F : Five w5 g x0 x1 x2 x3 x4) (hb : Below w1.heap.size w1 w5) (hg : w1.heap.size ≤ g) : PmBox w1 r l c q (.pointer (some ⟨g, 0, none⟩)) (((((w5.setCell ⟨g, 0, none⟩ (.int .i64 r)).setCell ⟨g, 1, none⟩ (.slice none 0 0)).setCell ⟨g, 2, none⟩ (.int .i64 l)).setCell ⟨g, 3, none⟩ (.int .i64 c)).setCell ⟨g, 4, none⟩ (.int .i64 q)) :=
  ⟨g, rfl, F.set _ _ _ _ _, hg, below_set5 hb hg _ _ _ _ _⟩
theorem ints_set5 {w : World} {v : Value} {l : List Int} {f : List Nat} {g : Nat} (h : ints w v l f) (hg : g ∉ f) (a b c d e : Value) : ints (set5 w g a b c d e) v l f := ((((h.far hg a).far hg b).far hg c).far hg d).far hg e
theorem SX.of_grown {w w' : World} {o : Option Nat} (h : w.grownBy w' o) : SX o.toList w w' := ⟨h.size, fun j hj hn => h.block j hj (by intro e; subst e; simp at hn)⟩
theorem own_not {o : Option Nat} {B g : Nat} (h : ∀ j, o = some j → B ≤ j) (hg : g < B) : g ∉ o.toList := by
  intro hm
  cases o with
  | none => simp at hm
  | some j => simp at hm; subst hm; have := h _ rfl; omega
theorem gr_base {α : Type} {E : TypeId} {sz B : Nat} {R : Rd α} {w : World} {v : Value} {l : List α} {f : List Nat} (h : grR E sz R B w v l f) : ∀ j, v.ownBlock = some j → B ≤ j := by
  obtain ⟨_, _, _, _, ho, _, _⟩ := h
  exact fun j hj => (own_lt ho j hj).1
theorem arr_sz (l : List UInt8) (h : l.length ≤ 1048576) : (⟨l.toArray⟩ : ByteArray).size ≤ 1048576 := by simpa [ByteArray.size] using h
/-- What the reference reads off nine words comes to 'MethIs'. -/
theorem pm_yes {s : List Int} {t : List UInt8} {W : List (List UInt8)} (hW : cutL 32 t = W) (h9 : W.length = 9) (h2 : methFS (mOf W) = t) : methFB (mOf W) = true := by
  cases h : methFB (mOf W) with
  | true => rfl
  | false =>
    rw [methFS_no h] at h2
    subst h2
    rw [← hW] at h9
    simp [cutL] at h9
theorem pm_no {s : List Int} {t : List UInt8} {W : List (List UInt8)} (hW : cutL 32 t = W) (h : methB s (mOf W) = false ∨ methFS (mOf W) ≠ t) : ∀ n, methB s n = true → methFB n = true → methFS n ≠ t := by
  intro n h1 h2 e
  have h3 := (meth_words h2 e).2
  rw [hW] at h3
  rw [h3] at h
  rcases h with h | h
  · rw [h] at h1; cases h1
  · exact h e
set_option maxRecDepth 100000 in
set_option maxHeartbeats 6400000 in
theorem specParseMethod_any (vs : Value) (s : List Int) (fs : List Nat) (t : ByteArray) (w : World) (hs : ints w vs s fs) (ht : t.size ≤ 1048576) :
    Calls Tryd.prog 4 #[vs, .string t] w (PmEnd s t.data.toList w) := by
  have hb0 : Below w.heap.size w (w.alloc (.cells #[.int .i64 0, .slice none 0 0, .int .i64 0, .int .i64 0, .int .i64 0] 24)) := ba (Below.refl _ _)
  have h40 : Five (w.alloc (.cells #[.int .i64 0, .slice none 0 0, .int .i64 0, .int .i64 0, .int .i64 0] 24)) w.heap.size (.int .i64 0) (.slice none 0 0) (.int .i64 0) (.int .i64 0) (.int .i64 0) := Five.new _ _ _ _ _ _ _
  have hq : Calls Tryd.prog 12 #[.string t, .int .u8 32] (w.alloc (.cells #[.int .i64 0, .slice none 0 0, .int .i64 0, .int .i64 0, .int .i64 0] 24)) (CutEnd (cutL 32 t.data.toList) (w.alloc (.cells #[.int .i64 0, .slice none 0 0, .int .i64 0, .int .i64 0, .int .i64 0] 24))) := l2Cut_any t 32 _ ht
  obtain ⟨W, hW⟩ : ∃ W, cutL 32 t.data.toList = W := ⟨_, rfl⟩
  have HW := Lib.hid hW
  have Hpl := Lib.hid (show ∀ p ∈ W, p.length ≤ 1048576 from fun p hp => Nat.le_trans (cutL_piece 32 _ p (by rw [hW]; exact hp)) (by simpa using ht))
  have Hpl9 := Lib.hid (show W.length = 9 → ∀ p ∈ W, p.length ≤ 1048568 from fun h9 p hp => by
    have h1 := cutL_sum 32 t.data.toList
    have h2 := sum_ge_mem (f := List.length) hp
    rw [hW, h9] at h1
    have h3 : t.data.toList.length = t.size := by simp
    omega)
  rw [hW] at hq
  clear hW
  go_enter Tryd.func4, Tryd.ntmps4
  go_wp2_with fail
  refine hq.mono ?_
  rintro e w1 ⟨gw, cw, fw, rfl, hgw, hb1⟩
  have B1 := bt hb0 hb1
  have h41 := h40.below hb1
  have h40lt := Lib.hid h41.lt
  clear hq h40 hb1
  by_cases h9 : W.length = 9
  case neg =>
    have h9i : ((W.length : Int) == 9) = false := by rw [beq_eq_false_iff_ne]; omega
    have HN := Lib.hid (show ∀ n, methB s n = true → methFB n = true → methFS n ≠ t.data.toList from fun n h1 h2 e => h9 (by rw [← HW.out]; exact (meth_words h2 e).1))
    have H4 := Lib.hid h41
    obtain ⟨⟨c0, c1, c2, c3, c4⟩, z0, z1, z2, z3, z4⟩ := h41
    clear h9
    go_wp2
    (try simp only [Exit.inBlock, Exit.then])
    refine bodyPost_ret (v := .tuple #[.agg #[.int .i64 0, .slice none 0 0, .int .i64 0, .int .i64 0, .int .i64 0], .bool false]) ?_ rfl ?_
    · rw [results_cell_tmp rfl]
      simp [asAddr, Result.andThen, load_set5 H4.out]
    · exact PmEnd.no rfl HN.out (below_set5 B1 (Nat.le_refl _) _ _ _ _ _)
  have H9 := Lib.hid h9
  obtain ⟨a0, a1, a2, a3, a4, a5, a6, a7, a8, rfl⟩ := nine h9
  clear h9
  have p0 := strs_at2 hgw rfl 0 (by simp)
  have p2 := strs_at2 hgw rfl 2 (by simp)
  have p4 := strs_at2 hgw rfl 4 (by simp)
  have p6 := strs_at2 hgw rfl 6 (by simp)
  have p8 := strs_at2 hgw rfl 8 (by simp)
  simp only [List.getElem_cons_zero, List.getElem_cons_succ] at p0 p2 p4 p6 p8
  have hq0 : ∀ w, Calls Tryd.prog 13 #[.string ⟨a0.toArray⟩] w fun e w' => e = .returned (.int .i64 (relV a0)) ∧ Below w.heap.size w w' := fun w => l2Rel_any ⟨a0.toArray⟩ w (arr_sz _ (Hpl.out _ (by simp)))
  have hq4 : ∀ w, Calls Tryd.prog 14 #[.string ⟨a4.toArray⟩] w fun e w' => e = .returned (.int .i64 (numV a4)) ∧ Below w.heap.size w w' := fun w => l2Num_any ⟨a4.toArray⟩ w (arr_sz _ (Hpl.out _ (by simp)))
  have hq6 : ∀ w, Calls Tryd.prog 14 #[.string ⟨a6.toArray⟩] w fun e w' => e = .returned (.int .i64 (numV a6)) ∧ Below w.heap.size w w' := fun w => l2Num_any ⟨a6.toArray⟩ w (arr_sz _ (Hpl.out _ (by simp)))
  have hq8 : ∀ w, Calls Tryd.prog 14 #[.string ⟨a8.toArray⟩] w fun e w' => e = .returned (.int .i64 (numV a8)) ∧ Below w.heap.size w w' := fun w => l2Num_any ⟨a8.toArray⟩ w (arr_sz _ (Hpl.out _ (by simp)))
  have H4 := Lib.hid h41
  clear h41
  go_wp2_with fail
  go_cut [7] from 16 to 32 (fun bx wx => PmBox w1 (relV a0) (numV a4) (numV a6) (numV a8) bx wx)
  case first =>
    go_region_held3 (fun w' => w'.cell? ⟨gw, 0, none⟩ = some (.string ⟨a0.toArray⟩) ∧ w'.cell? ⟨gw, 4, none⟩ = some (.string ⟨a4.toArray⟩) ∧ w'.cell? ⟨gw, 6, none⟩ = some (.string ⟨a6.toArray⟩) ∧ w'.cell? ⟨gw, 8, none⟩ = some (.string ⟨a8.toArray⟩)) (first | with_reducible exact ⟨p0, p4, p6, p8⟩ | with_reducible exact ⟨q0, q4, q6, q8⟩ | with_reducible exact ⟨r0, r4, r6, r8⟩ | with_reducible exact ⟨s0, s4, s6, s8⟩ | with_reducible exact ⟨u0, u4, u6, u8⟩ | with_reducible exact ⟨cell_al p0 _, cell_al p4 _, cell_al p6 _, cell_al p8 _⟩ | with_reducible exact ⟨cell_al q0 _, cell_al q4 _, cell_al q6 _, cell_al q8 _⟩ | with_reducible exact ⟨cell_al r0 _, cell_al r4 _, cell_al r6 _, cell_al r8 _⟩ | with_reducible exact ⟨cell_al s0 _, cell_al s4 _, cell_al s6 _, cell_al s8 _⟩ | with_reducible exact ⟨cell_al u0 _, cell_al u4 _, cell_al u6 _, cell_al u8 _⟩ | with_reducible exact ⟨keep5 (cell_al u0 _) (Nat.ne_of_gt (lt_of_cell u0)), keep5 (cell_al u4 _) (Nat.ne_of_gt (lt_of_cell u4)), keep5 (cell_al u6 _) (Nat.ne_of_gt (lt_of_cell u6)), keep5 (cell_al u8 _) (Nat.ne_of_gt (lt_of_cell u8))⟩ | with_reducible exact ⟨keep5 u0 (Nat.ne_of_gt (lt_of_cell s0)), keep5 u4 (Nat.ne_of_gt (lt_of_cell s4)), keep5 u6 (Nat.ne_of_gt (lt_of_cell s6)), keep5 u8 (Nat.ne_of_gt (lt_of_cell s8))⟩ | with_reducible exact ⟨keep5 u0 (Nat.ne_of_gt (lt_of_cell r0)), keep5 u4 (Nat.ne_of_gt (lt_of_cell r4)), keep5 u6 (Nat.ne_of_gt (lt_of_cell r6)), keep5 u8 (Nat.ne_of_gt (lt_of_cell r8))⟩ | with_reducible exact ⟨keep5 u0 (Nat.ne_of_gt (lt_of_cell q0)), keep5 u4 (Nat.ne_of_gt (lt_of_cell q4)), keep5 u6 (Nat.ne_of_gt (lt_of_cell q6)), keep5 u8 (Nat.ne_of_gt (lt_of_cell q8))⟩ | with_reducible exact ⟨keep5 u0 (Nat.ne_of_gt (lt_of_cell p0)), keep5 u4 (Nat.ne_of_gt (lt_of_cell p4)), keep5 u6 (Nat.ne_of_gt (lt_of_cell p6)), keep5 u8 (Nat.ne_of_gt (lt_of_cell p8))⟩ | exact ⟨cell_al p0 _, cell_al p4 _, cell_al p6 _, cell_al p8 _⟩ | exact ⟨p0, p4, p6, p8⟩)
      (first
        | (go_at_call 13
           refine (hq0 _).mono ?_
           rintro e w2 ⟨rfl, hb2⟩
           have D2 : Below w1.heap.size w1 w2 := bt (by (repeat (first | exact Below.refl _ _ | refine bdr ?_ | refine ba ?_))) hb2
           have q0 : w2.cell? ⟨gw, 0, none⟩ = some (.string ⟨a0.toArray⟩) := cell_below p0 D2
           have q4 : w2.cell? ⟨gw, 4, none⟩ = some (.string ⟨a4.toArray⟩) := cell_below p4 D2
           have q6 : w2.cell? ⟨gw, 6, none⟩ = some (.string ⟨a6.toArray⟩) := cell_below p6 D2
           have q8 : w2.cell? ⟨gw, 8, none⟩ = some (.string ⟨a8.toArray⟩) := cell_below p8 D2
           (first
             | (with_reducible have F2 := five_of hb2)
             | (with_reducible have F2 := five_of_d hb2)
             | have F2 := True.intro)
           (have G2 := F2)
           (try (obtain ⟨⟨f20, f21, f22, f23, f24⟩, y20, y21, y22, y23, y24⟩ := G2)))
        | (go_at_call_of 14 (Value.string ⟨a4.toArray⟩)
           refine (hq4 _).mono ?_
           rintro e w3 ⟨rfl, hb3⟩
           have D3 : Below w2.heap.size w2 w3 := bt (by (repeat (first | exact Below.refl _ _ | refine bdr ?_ | refine ba ?_))) hb3
           have r0 : w3.cell? ⟨gw, 0, none⟩ = some (.string ⟨a0.toArray⟩) := cell_below q0 D3
           have r4 : w3.cell? ⟨gw, 4, none⟩ = some (.string ⟨a4.toArray⟩) := cell_below q4 D3
           have r6 : w3.cell? ⟨gw, 6, none⟩ = some (.string ⟨a6.toArray⟩) := cell_below q6 D3
           have r8 : w3.cell? ⟨gw, 8, none⟩ = some (.string ⟨a8.toArray⟩) := cell_below q8 D3
           (first
             | (with_reducible have F3 := five_of hb3)
             | (with_reducible have F3 := five_of_d hb3)
             | have F3 := F2.sx (SX.of_below hb3) (by simp)
             | have F3 := True.intro)
           (have G3 := F3)
           (try (obtain ⟨⟨f30, f31, f32, f33, f34⟩, y30, y31, y32, y33, y34⟩ := G3)))
        | (go_at_call_of 14 (Value.string ⟨a6.toArray⟩)
           refine (hq6 _).mono ?_
           rintro e w4 ⟨rfl, hb4⟩
           have D4 : Below w3.heap.size w3 w4 := bt (by (repeat (first | exact Below.refl _ _ | refine bdr ?_ | refine ba ?_))) hb4
           have s0 : w4.cell? ⟨gw, 0, none⟩ = some (.string ⟨a0.toArray⟩) := cell_below r0 D4
           have s4 : w4.cell? ⟨gw, 4, none⟩ = some (.string ⟨a4.toArray⟩) := cell_below r4 D4
           have s6 : w4.cell? ⟨gw, 6, none⟩ = some (.string ⟨a6.toArray⟩) := cell_below r6 D4
           have s8 : w4.cell? ⟨gw, 8, none⟩ = some (.string ⟨a8.toArray⟩) := cell_below r8 D4
           (first
             | (with_reducible have F4 := five_of hb4)
             | (with_reducible have F4 := five_of_d hb4)
             | have F4 := F3.sx (SX.of_below hb4) (by simp)
             | have F4 := True.intro)
           (have G4 := F4)
           (try (obtain ⟨⟨f40, f41, f42, f43, f44⟩, y40, y41, y42, y43, y44⟩ := G4)))
        | (go_at_call_of 14 (Value.string ⟨a8.toArray⟩)
           refine (hq8 _).mono ?_
           rintro e w5 ⟨rfl, hb5⟩
           have D5 : Below w4.heap.size w4 w5 := bt (by (repeat (first | exact Below.refl _ _ | refine bdr ?_ | refine ba ?_))) hb5
           have u0 : w5.cell? ⟨gw, 0, none⟩ = some (.string ⟨a0.toArray⟩) := cell_below s0 D5
           have u4 : w5.cell? ⟨gw, 4, none⟩ = some (.string ⟨a4.toArray⟩) := cell_below s4 D5
           have u6 : w5.cell? ⟨gw, 6, none⟩ = some (.string ⟨a6.toArray⟩) := cell_below s6 D5
           have u8 : w5.cell? ⟨gw, 8, none⟩ = some (.string ⟨a8.toArray⟩) := cell_below s8 D5
           (first
             | (with_reducible have F5 := five_of hb5)
             | (with_reducible have F5 := five_of_d hb5)
             | have F5 := F4.sx (SX.of_below hb5) (by simp)
             | have F5 := True.intro)
           (have G5 := F5)
           (try (obtain ⟨⟨f50, f51, f52, f53, f54⟩, y50, y51, y52, y53, y54⟩ := G5))
           obtain ⟨⟨n0, n1, n2, n3, n4⟩, y0, y1, y2, y3, y4⟩ := Five.new w5 24 (.int .i64 0) (.slice none 0 0) (.int .i64 0) (.int .i64 0) (.int .i64 0)))
    all_goals (go_wp2_with fail; go_meet)
    case rel => exact PmBox.new (bt (bt (bt D2 D3) D4) D5)
    case rel => exact PmBox.set F5 (bt (bt (bt D2 D3) D4) D5) (bt (bt D2 D3) D4).size
    case rel => exact PmBox.set F5 (bt (bt (bt D2 D3) D4) D5) (bt D2 D3).size
    case rel => exact PmBox.set F5 (bt (bt (bt D2 D3) D4) D5) D2.size
    case rel => exact PmBox.set F5 (bt (bt (bt D2 D3) D4) D5) (Nat.le_refl _)
  case rest =>
    obtain ⟨g, rfl, F, hgl, Bx0⟩ := hcut
    have Bx := bt B1 Bx0
    have c2 := cell_below p2 Bx0
    have H4x := Lib.hid (H4.out.below Bx0)
    by_cases hfree : a2 = [102, 114, 101, 101]
    · have hfb : (a2 == [102, 114, 101, 101]) = true := by simp [hfree]
      have HI := Lib.hid (show inpV a2 = [] by unfold inpV; rw [if_pos hfree])
      clear hfree
      have F2 := F
      obtain ⟨⟨f0, f1, f2, f3, f4⟩, y0, y1, y2, y3, y4⟩ := F2
      have hin0 := slR.nilv wc 3 1 intR
      have Hnot := Lib.hid (show w.heap.size ∉ ([] : List Nat) by simp)
      have Hfr := Lib.hid (Fresh.nil w.heap.size)
      go_wp2_with fail
      have hin : ints _ (.slice none 0 0) [] _ := hin0
      have hmo := Lib.hid (show mOf [a0, a1, a2, a3, a4, a5, a6, a7, a8] = (⟨relV a0, [], numV a4, numV a6, numV a8⟩ : MethD) by unfold mOf; simp only [List.getD_cons_zero, List.getD_cons_succ]; rw [HI.out])
      cases hmb : methB s ⟨relV a0, [], numV a4, numV a6, numV a8⟩ with
      | false =>
        have HN := Lib.hid (pm_no HW.out (.inl (by rw [hmo.out]; exact hmb)))
        refine (retBB (specIsMethod_any vs s fs ⟨relV a0, [], numV a4, numV a6, numV a8⟩ _ _ _ (hs.below' Bx) hin) hmb).mono ?_
        rintro e wy ⟨rfl, hby⟩
        clear hmb
        have H4z := Lib.hid (H4x.out.below hby)
        have H4y := H4z.out
        obtain ⟨⟨r0, r1, r2, r3, r4⟩, q0, q1, q2, q3, q4⟩ := H4y
        go_wp2
        (try simp only [Exit.inBlock, Exit.then])
        refine bodyPost_ret (v := .tuple #[.agg #[.int .i64 0, .slice none 0 0, .int .i64 0, .int .i64 0, .int .i64 0], .bool false]) ?_ rfl ?_
        · rw [results_cell_tmp rfl]
          simp [asAddr, Result.andThen, load_set5 H4z.out]
        · exact PmEnd.no rfl HN.out (below_set5 (bt Bx hby) (Nat.le_refl _) _ _ _ _ _)
      | true =>
        have Hmb := Lib.hid hmb
        refine (retBB (specIsMethod_any vs s fs ⟨relV a0, [], numV a4, numV a6, numV a8⟩ _ _ _ (hs.below' Bx) hin) hmb).mono ?_
        rintro e wy ⟨rfl, hby⟩
        clear hmb
        have Fy := F.below hby
        have Fy2 := Fy
        obtain ⟨⟨k0, k1, k2, k3, k4⟩, m0, m1, m2, m3, m4⟩ := Fy2
        go_wp2_with fail
        refine (specFormatMethod_any ⟨relV a0, [], numV a4, numV a6, numV a8⟩ _ _ _ (hin.below' hby) (by first | exact hlb | simp)).mono ?_
        rintro e wz ⟨rfl, hbz⟩
        have hbyz := bt hby hbz
        by_cases heq : methFS ⟨relV a0, [], numV a4, numV a6, numV a8⟩ = t.data.toList
        · have hse := str_eq heq
          have HY := Lib.hid (pm_yes (s := s) HW.out H9.out (by rw [hmo.out]; exact heq))
          have Heq := Lib.hid heq
          clear heq
          rw [hse]
          clear hse
          have Fz := Fy.below hbz
          obtain ⟨⟨x0, x1, x2, x3, x4⟩, z0, z1, z2, z3, z4⟩ := Fz
          have H4z := Lib.hid (H4x.out.below hbyz)
          have H4y := H4z.out
          obtain ⟨⟨r0, r1, r2, r3, r4⟩, q0, q1, q2, q3, q4⟩ := H4y
          go_wp2
          (try simp only [Exit.inBlock, Exit.then])
          refine bodyPost_ret (v := .tuple #[.agg #[.int .i64 (relV a0), (.slice none 0 0), .int .i64 (numV a4), .int .i64 (numV a6), .int .i64 (numV a8)], .bool true]) ?_ rfl ?_
          · rw [results_cell_tmp rfl]
            simp [asAddr, Result.andThen, load_set5 H4z.out]
          · exact PmEnd.yes ⟨relV a0, [], numV a4, numV a6, numV a8⟩ _ _ rfl Hmb.out (by rw [← hmo.out]; exact HY.out) Heq.out (ints_set5 (hin.below' hbyz) Hnot.out _ _ _ _ _) Hfr.out (below_set5 (bt Bx hbyz) (Nat.le_refl _) _ _ _ _ _)
        · have hse := str_ne heq
          have HN := Lib.hid (pm_no (s := s) HW.out (.inr (by rw [hmo.out]; exact heq)))
          clear heq
          have H4z := Lib.hid (H4x.out.below hbyz)
          have H4y := H4z.out
          obtain ⟨⟨r0, r1, r2, r3, r4⟩, q0, q1, q2, q3, q4⟩ := H4y
          go_wp2
          (try simp only [Exit.inBlock, Exit.then])
          refine bodyPost_ret (v := .tuple #[.agg #[.int .i64 0, .slice none 0 0, .int .i64 0, .int .i64 0, .int .i64 0], .bool false]) ?_ rfl ?_
          · rw [results_cell_tmp rfl]
            simp [asAddr, Result.andThen, load_set5 H4z.out]
          · exact PmEnd.no rfl HN.out (below_set5 (bt Bx hbyz) (Nat.le_refl _) _ _ _ _ _)
    · have hfb : (a2 == [102, 114, 101, 101]) = false := by simp [hfree]
      have HI := Lib.hid (show inpV a2 = (cutL 44 a2).map numV by unfold inpV; rw [if_neg hfree])
      have Hl2 := Lib.hid (arr_sz a2 (Hpl.out _ (by simp)))
      clear hfree
      go_wp2_with fail
      refine (l2Cut_any ⟨a2.toArray⟩ 44 _ Hl2.out).mono ?_
      rintro e wp ⟨gp, cp, fp, rfl, hgp, hbp⟩
      obtain ⟨L, hL⟩ : ∃ L, cutL 44 a2 = L := ⟨_, rfl⟩
      have HLn := Lib.hid (show L.length ≤ 1048576 from by rw [← hL]; exact Nat.le_trans (cutL_len 44 a2) (by have := Hpl9.out H9.out a2 (by simp); omega))
      have HLp := Lib.hid (show ∀ p ∈ L, (⟨p.toArray⟩ : ByteArray).size ≤ 1048576 from fun p hp => arr_sz p (Nat.le_trans (cutL_piece 44 _ p (by rw [hL]; exact hp)) (Hpl.out a2 (by simp))))
      have HI2 := Lib.hid (show inpV a2 = L.map numV by rw [HI.out, hL])
      rw [show cutL 44 (⟨a2.toArray⟩ : ByteArray).data.toList = L from hL] at hgp
      rw [show cutL 44 (⟨a2.toArray⟩ : ByteArray).data.toList = L from hL]
      clear hL HI
      have HI := HI2
      have Bp := bt Bx hbp
      have Fp := F.below hbp
      have hgpne : gp ≠ g := by
        have h1 := F.lt
        have h2 := hgp.fresh.2 gp (by obtain ⟨_, fs, _, _, _, rfl, _⟩ := hgp; simp [Value.ownBlock])
        omega
      have hgplt : gp < wp.heap.size := (strs_cells hgp rfl).2.1
      have hLn := HLn.out
      go_wp2
      go_loopw [9] (fun i wr => ∃ (k : Nat) (vi : Value) (lo : List Int) (fo : List Nat), i = .int .i64 (k : Int) ∧ k ≤ L.length ∧ Hid (lo = (L.take k).map numV) ∧ Five wr g (.int .i64 (relV a0)) vi (.int .i64 (numV a4)) (.int .i64 (numV a6)) (.int .i64 (numV a8)) ∧ grR 3 1 intR wp.heap.size wr vi lo fo ∧ SX [g] wp wr ∧ Below w.heap.size w wr) (fun i _ => L.length - (intOf i).toNat)
      case atStart => exact ⟨0, _, [], [], rfl, Nat.zero_le _, Lib.hid (by simp), Fp, grR.nilv intR, SX.refl _ _, Bp⟩
      case round =>
        obtain ⟨k, vi, lo, fo, rfl, hk, Hlo, Fr, hgr, hsx, Br⟩ := hrel
        have hll : lo.length = k := by rw [Hlo.out]; simp; omega
        have Hll := Lib.hid hll
        have hlb : lo.length ≤ 1048576 := by omega
        clear hll
        obtain ⟨av, cv, rfl⟩ := slR.form hgr.sl
        by_cases hlt : k < L.length
        · have hkl : (k : Int) < (L.length : Int) := by omega
          have hk0 : (0 : Int) ≤ (k : Int) := by omega
          have pk := hsx.cell (strs_at2 hgp rfl k hlt) (by simpa using hgpne)
          have Hsz := Lib.hid (HLp.out L[k] (List.getElem_mem hlt))
          have HS := Lib.hid (show lo ++ [numV L[k]] = (L.take (k + 1)).map numV by rw [Hlo.out, List.take_succ_eq_append_getElem hlt, List.map_append]; rfl)
          have hnb := numV_bd L[k]
          generalize L[k] = x at pk Hsz HS hnb
          have hI : I64 (numV x) := ⟨by omega, by omega⟩
          have Fr2 := Fr
          obtain ⟨⟨f0, f1, f2, f3, f4⟩, y0, y1, y2, y3, y4⟩ := Fr2
          clear f0 f2 f3 f4 y0 y2 y3 y4
          go_wp2_with fail
          go_region_law ((first
              | (refine step_gr slInt good_int rfl _ _ rfl hgr3 hcb (by rfl) #[.int .i64 (numV x)] (numV x) [] ⟨rfl, rfl, hI⟩ rfl (Fresh.nil _) (by simp) (by rfl) (by simp [Value.oneCell']) (by omega) (by unfold maxLen; omega) ?_
                 intro g4 cap4 w4 fo4 hgr4 hb4 hg4
                 rw [cutW_size hle] at hgr4
                 have hown : ∀ j, (Value.slice av lo.length cv).ownBlock = some j → wp.heap.size ≤ j := gr_base hgr
                 have s4 : SX [g] wp w4 := s3.grownBy hg4 hown
                 have s34 := SX.of_grown hg4
                 have hno : g ∉ (Value.slice av lo.length cv).ownBlock.toList := own_not hown (Nat.lt_of_lt_of_le F.lt hbp.size)
                 have F4 := F3.sx s34 hno
                 have B4 : Below w.heap.size w w4 := (bt Br hb3).trans (below_of_grown hg4 (bt Br hb3).size fun j hj => Nat.le_trans Bp.size (hown j hj))
                 have F4' := F4
                 obtain ⟨⟨x0, x1, x2, x3, x4⟩, z0, z1, z2, z3, z4⟩ := F4')
              | (go_simp
                 go_wp2_with (go_at_call 14
                              refine (l2Num_any ⟨x.toArray⟩ _ Hsz.out).mono ?_
                              rintro e w3 ⟨rfl, hb3'⟩
                              have hb3 : Below wr.heap.size wr w3 := bt (by (repeat (first | exact Below.refl _ _ | refine bdr ?_ | refine ba ?_))) hb3'
                              have d1 : w3.cell? ⟨g, 1, none⟩ = some (.slice av lo.length cv) := cell_below f1 hb3
                              have d1' : (w3.alloc (.cells #[.int .i64 (numV x)] 3)).cell? ⟨g, 1, none⟩ = some (.slice av lo.length cv) := cell_al d1 _
                              have hgr3 := hgr.below' good_int hb3
                              have s3 : SX [g] wp w3 := hsx.below hb3
                              have F3 := Fr.below hb3
                              have hle : wp.heap.size ≤ w3.heap.size := s3.1
                              have hcb := cutW_below hle
                              rw [← cutW_size hle] at hgr3))))
          all_goals
            have e1 : (lo ++ [numV x]).length = lo.length + 1 := by simp
            have Hgr5 := Lib.hid (hgr4.frame good_int fun j hj => Below.heap_setCell w4 ⟨g, 1, none⟩ (.slice (some ⟨g4, 0, none⟩) (lo.length + 1) cap4) j (fun e => by
              have h1 := hgr4.fresh.2 j hj
              have h2 := F.lt
              have h3 := hbp.size
              simp only [] at e
              omega))
            have HF5 := Lib.hid (F4.set1 (.slice (some ⟨g4, 0, none⟩) (lo.length + 1) cap4))
            have HB5 := Lib.hid (bs (u := .slice (some ⟨g4, 0, none⟩) (lo.length + 1) cap4) B4 (p := ⟨g, 1, none⟩) (Nat.le_trans B1.size hgl))
            have HS5 := Lib.hid (s4.setIn 1 (.slice (some ⟨g4, 0, none⟩) (lo.length + 1) cap4))
            clear hgr4 F4 s4 B4 e1 F3 s3 hgr3 hcb s34
            go_wp2
            go_roundw
            case rel => exact ⟨k + 1, _, lo ++ [numV x], fo4, by go_num, by omega, HS, HF5.out, Hgr5.out, HS5.out, HB5.out⟩
            case measure => simp [intOf]; omega
        · have HI3 := Lib.hid (show inpV a2 = lo by rw [HI.out, Hlo.out, List.take_of_length_le (by omega)])
          have hin0 := hgr.sl
          have Hnot := Lib.hid (show w.heap.size ∉ fo from fun hm => by
            have h1 := hgr.fresh.2 _ hm
            have h2 := (H4x.out.below hbp).lt
            omega)
          have Hfr := Lib.hid (hgr.fresh.mono Bp.size)
          have H4w := Lib.hid ((H4x.out.below hbp).sx hsx (by simp; have := B1.size; have h2 := h40lt.out; omega))
          have hkl : ¬ (k : Int) < (L.length : Int) := by omega
          have Fr2 := Fr
          obtain ⟨⟨f0, f1, f2, f3, f4⟩, y0, y1, y2, y3, y4⟩ := Fr2
          go_wp2_with fail
          have hin : ints _ (.slice av lo.length cv) lo _ := hin0
          have hmo := Lib.hid (show mOf [a0, a1, a2, a3, a4, a5, a6, a7, a8] = (⟨relV a0, lo, numV a4, numV a6, numV a8⟩ : MethD) by unfold mOf; simp only [List.getD_cons_zero, List.getD_cons_succ]; rw [HI3.out])
          cases hmb : methB s ⟨relV a0, lo, numV a4, numV a6, numV a8⟩ with
          | false =>
            have HN := Lib.hid (pm_no HW.out (.inl (by rw [hmo.out]; exact hmb)))
            refine (retBB (specIsMethod_any vs s fs ⟨relV a0, lo, numV a4, numV a6, numV a8⟩ _ _ _ (hs.below' Br) hin) hmb).mono ?_
            rintro e wy ⟨rfl, hby⟩
            clear hmb
            have H4z := Lib.hid (H4w.out.below hby)
            have H4y := H4z.out
            obtain ⟨⟨r0, r1, r2, r3, r4⟩, q0, q1, q2, q3, q4⟩ := H4y
            go_wp2
            (try simp only [Exit.inBlock, Exit.then])
            refine bodyPost_ret (v := .tuple #[.agg #[.int .i64 0, .slice none 0 0, .int .i64 0, .int .i64 0, .int .i64 0], .bool false]) ?_ rfl ?_
            · rw [results_cell_tmp rfl]
              simp [asAddr, Result.andThen, load_set5 H4z.out]
            · exact PmEnd.no rfl HN.out (below_set5 (bt Br hby) (Nat.le_refl _) _ _ _ _ _)
          | true =>
            have Hmb := Lib.hid hmb
            refine (retBB (specIsMethod_any vs s fs ⟨relV a0, lo, numV a4, numV a6, numV a8⟩ _ _ _ (hs.below' Br) hin) hmb).mono ?_
            rintro e wy ⟨rfl, hby⟩
            clear hmb
            have Fy := Fr.below hby
            have Fy2 := Fy
            obtain ⟨⟨k0, k1, k2, k3, k4⟩, m0, m1, m2, m3, m4⟩ := Fy2
            go_wp2_with fail
            refine (specFormatMethod_any ⟨relV a0, lo, numV a4, numV a6, numV a8⟩ _ _ _ (hin.below' hby) (by first | exact hlb | simp)).mono ?_
            rintro e wz ⟨rfl, hbz⟩
            have hbyz := bt hby hbz
            by_cases heq : methFS ⟨relV a0, lo, numV a4, numV a6, numV a8⟩ = t.data.toList
            · have hse := str_eq heq
              have HY := Lib.hid (pm_yes (s := s) HW.out H9.out (by rw [hmo.out]; exact heq))
              have Heq := Lib.hid heq
              clear heq
              rw [hse]
              clear hse
              have Fz := Fy.below hbz
              obtain ⟨⟨x0, x1, x2, x3, x4⟩, z0, z1, z2, z3, z4⟩ := Fz
              have H4z := Lib.hid (H4w.out.below hbyz)
              have H4y := H4z.out
              obtain ⟨⟨r0, r1, r2, r3, r4⟩, q0, q1, q2, q3, q4⟩ := H4y
              go_wp2
              (try simp only [Exit.inBlock, Exit.then])
              refine bodyPost_ret (v := .tuple #[.agg #[.int .i64 (relV a0), (.slice av lo.length cv), .int .i64 (numV a4), .int .i64 (numV a6), .int .i64 (numV a8)], .bool true]) ?_ rfl ?_
              · rw [results_cell_tmp rfl]
                simp [asAddr, Result.andThen, load_set5 H4z.out]
              · exact PmEnd.yes ⟨relV a0, lo, numV a4, numV a6, numV a8⟩ _ _ rfl Hmb.out (by rw [← hmo.out]; exact HY.out) Heq.out (ints_set5 (hin.below' hbyz) Hnot.out _ _ _ _ _) Hfr.out (below_set5 (bt Br hbyz) (Nat.le_refl _) _ _ _ _ _)
            · have hse := str_ne heq
              have HN := Lib.hid (pm_no (s := s) HW.out (.inr (by rw [hmo.out]; exact heq)))
              clear heq
              have H4z := Lib.hid (H4w.out.below hbyz)
              have H4y := H4z.out
              obtain ⟨⟨r0, r1, r2, r3, r4⟩, q0, q1, q2, q3, q4⟩ := H4y
              go_wp2
              (try simp only [Exit.inBlock, Exit.then])
              refine bodyPost_ret (v := .tuple #[.agg #[.int .i64 0, .slice none 0 0, .int .i64 0, .int .i64 0, .int .i64 0], .bool false]) ?_ rfl ?_
              · rw [results_cell_tmp rfl]
                simp [asAddr, Result.andThen, load_set5 H4z.out]
              · exact PmEnd.no rfl HN.out (below_set5 (bt Br hbyz) (Nat.le_refl _) _ _ _ _ _)
end Go.Proofs.YtojjojcmemifhaaDoor
