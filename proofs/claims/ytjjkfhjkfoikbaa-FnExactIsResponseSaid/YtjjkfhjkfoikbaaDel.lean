/- slices.DeleteFunc at a slice of facts of the call's own; matches of the program. Conditions: not more than 2^20 facts; the reading goes through. -/
import Derived.Test.YtjjkfhjkfoikbaaDelL
import Derived.Test.YtjjkfhjkfoikbaaInsL
import Derived.Test.YtjjkfhjkfoikbaaMSpec
import Derived.Test.YtjjkfhjkfoikbaaCopyF
import Derived.Test.YtjjkfhjkfoikbaaIdxS
import Derived.Test.YtjjkfhjkfoikbaaCost
namespace Go.Proofs.Ytjjkfhjkfoikbaa
open Go.RowKit
set_option linter.unusedVariables false
set_option linter.unusedSimpArgs false
/-- clear(s) at a row that is known whole. -/
theorem wpList_clear_z {P : Program} {T E : TypeId} {z : Value} {sz bytes : Nat} (hT : SlT P T E z sz bytes) {w : World} {ops : Array Oper} {rest : List Oper} {o : Oper} {a : Act} {Q : Exit → Act → World → Prop} (hgd : o.guard = none) (s : Operand)
    (ho : o.op = .call { callee := .builtin .clear, args := #[s], argTypes := #[T] }) (g off n c : Nat) (hs : a.eval s = .slice (some ⟨g, off, none⟩) n c) (hn : 0 < n)
    (cur : List Value) (hg : w.heap[g]? = some (.cells cur.toArray E (0, 0))) (hfit : off + n * sz ≤ cur.length) (h1 : ∀ u ∈ z.cells.toList, u.oneCell' = true)
    (h : ∀ (w' : World) (cur' : List Value), Hid (w'.heap[g]? = some (.cells cur'.toArray E (0, 0))) → Hid (cur'.take off = cur.take off) → Hid (cur'.length = cur.length) → w.grownBy w' (some g) → wpList P ops Q rest (a.put o.dst (.tuple #[])) w') :
    wpList P ops Q (o :: rest) a w := by
  obtain ⟨i0, hi, hz, hsz, hby⟩ := hT.inf
  have hzs := hT.zs
  have hzl : (Builtin.zeroCells z.cells n).size = n * sz := by simp [Builtin.zeroCells, hzs]
  have h1z : ∀ u ∈ (Builtin.zeroCells z.cells n).toList, u.oneCell' = true := by
    intro u hu
    simp only [Builtin.zeroCells, Array.toList_map, List.mem_map] at hu
    obtain ⟨k, hk, rfl⟩ := hu
    have hk' : k < n * z.cells.size := by simpa using hk
    have hlt : k % z.cells.size < z.cells.size := Nat.mod_lt _ (by have := hT.pos; omega)
    rw [getElem!_pos z.cells _ hlt]
    exact h1 _ (by simp)
  have hst := run_storeCells_at P g off E (Builtin.zeroCells z.cells n).toList 0 cur.toArray w hg (by simp [hzl]; omega) h1z
  simp only [Nat.add_zero] at hst
  obtain ⟨m, rfl⟩ : ∃ m, n = m + 1 := ⟨n - 1, by omega⟩
  refine wpList_plain hgd fun K hK => ?_
  unfold Oper.wp
  simp [execOp, ho, resolve, invoke, builtin, hs, Builtin.clear_, run_underlying hT.und, zeroValue, typeInfo, hi, hz, hst, Result.andThen]
  refine hK _ _ (h _ (splice cur off (Builtin.zeroCells z.cells (m + 1)).toList) (show _ = _ from ?_) (show _ = _ from ?_) (show _ = _ from ?_) (grown_setRow _ _ _))
  · have := setRow_heap w g cur.toArray (cur.toArray.toList.take off ++ (Builtin.zeroCells z.cells (m + 1)).toList ++ cur.toArray.toList.drop (off + (Builtin.zeroCells z.cells (m + 1)).toList.length)).toArray E _ hg
    simpa [splice] using this
  · unfold splice
    rw [List.take_append_of_le_length (by rw [List.length_take]; omega), List.take_take, Nat.min_self]
  · rw [splice_len]; simp [hzl]; omega
theorem filter_all {α : Type} {p : α → Bool} {l : List α} (h : idxI p l = -1) : (l.filter fun x => !p x) = l := by
  rw [List.filter_eq_self]
  intro x hx
  have := idxI_any p l
  rw [h] at this
  simp at this
  simpa using this x hx
theorem idxI_first {α : Type} {p : α → Bool} {l : List α} (h : idxI p l ≠ -1) : ∃ q : Nat, idxI p l = (q : Int) ∧ ∃ hq : q < l.length, p l[q] = true ∧ ∀ j (hj : j < l.length), j < q → p l[j] = false := by
  unfold idxI at h ⊢
  cases hf : l.findIdx? p with
  | none => rw [hf] at h; exact absurd rfl h
  | some i =>
    rw [List.findIdx?_eq_some_iff_getElem] at hf
    obtain ⟨hi, hp, hn⟩ := hf
    exact ⟨i, rfl, hi, hp, fun j hj hji => by simpa using hn j hji⟩
theorem len_two {c : List Value} (h : c.length = 2) : ∃ a b, c = [a, b] := by
  match c, h with
  | [a, b], _ => exact ⟨a, b, rfl⟩
set_option maxRecDepth 100000 in
set_option maxHeartbeats 6400000 in
theorem deleteFuncFact_any (B : Nat) (K : Nat) (hK : Plain Try.prog K) (caps : Array Value) (A : FactD → Value → Array Value) (hA : ∀ (x : FactD) (v : Value), #[.agg #[.int .i64 x.rel, v]] ++ caps = A x v) (p : FactD → Bool) (v : Value) (l : List FactD) (f : List Nat) (w : World) (h : grR 38 2 factR B w v l f) (hB : B ≤ w.heap.size) (hn : l.length ≤ 1048576)
    (hcall : ∀ (x : FactD), x ∈ l → ∀ (w' : World) (vx : Value) (fx : List Nat), Below B w w' → ints w' vx x.vals fx → Calls Try.prog K (A x vx) w' fun e w'' => e = .returned (.bool (p x)) ∧ Below w'.heap.size w' w'') :
    Calls Try.prog 140 #[v, .func (.func K) #[] caps] w fun e w' => ∃ v' f', e = .returned v' ∧ grR 38 2 factR B w' v' (l.filter fun x => !p x) f' ∧ Below B w w' := by
  obtain ⟨a, cap, rfl⟩ := slR.form h.sl
  have hidx := indexFuncFact_any K hK caps A hA p _ l f w h.sl (fun i hi w' vx fx hb hx => hcall _ (List.getElem_mem hi) w' vx fx (hb.mono hB) hx)
  by_cases hq : idxI p l = -1
  · have Hf := Lib.hid (filter_all hq)
    rw [hq] at hidx
    have Hidx := Lib.hid hidx
    have HK := Lib.hid hK
    clear hidx hq hcall hA hK
    go_enter Try.func140, Try.ntmps140
    go_wp2_with (go_at_call 127; refine Hidx.out.mono ?_; rintro e w2 ⟨rfl, hb2⟩)
    have hfin := h.below' good_fact hb2
    have hbf : Below B w w2 := hb2.mono hB
    go_ret
    exact ⟨.slice a l.length cap, f, rfl, by rw [Hf.out]; exact hfin, hbf⟩
  · obtain ⟨q, hq', hql, hpq, hpn⟩ := idxI_first hq
    rw [hq'] at hidx
    have Hidx := Lib.hid hidx
    have HC := Lib.hid hcall
    have HA := Lib.hid hA
    clear hidx hq hq' hcall hA
    unfold Plain at hK
    obtain ⟨g, rfl⟩ : ∃ g, a = some ⟨g, 0, none⟩ := by
      obtain ⟨g, _, _, hg, _⟩ := slR.at h.sl q hql
      exact ⟨g, hg⟩
    have hq0 : ((q : Int) == -1) = false := by simp <;> omega
    have hq1 : ¬ ((q : Int) = -1) := by omega
    go_enter Try.func140, Try.ntmps140
    go_wp2_with (go_at_call 127; refine Hidx.out.mono ?_; rintro e w2 ⟨rfl, hb2⟩)
    have h2 := h.below' good_fact hb2
    have hb2B : Below B w w2 := hb2.mono hB
    have hsz2 := hb2.size
    obtain ⟨rows, fs, ha, hl2, hown, hfe, hfr⟩ := h2
    have hrow := own_row hown
    have hgB := (own_lt hown g rfl)
    obtain ⟨z, rfl, hlz, rfl, hz⟩ := ha.zip
    have hzl : z.length = l.length := by rw [hlz]; simp
    have hz2 : ∀ t ∈ z, t.1.length = 2 := fun t ht => hl2 _ (List.mem_map.2 ⟨t, ht, rfl⟩)
    have hzd : ∀ j (hj : j < z.length) (hj' : j < l.length), z[j].2.1 = l[j] := fun j hj hj' => by simp [hlz]
    have hst : DelSt 2 (fun x => !p x) z q (q + 1) (z.map (·.1)) := DelSt.start (by omega) hz2 (fun t ht htq => by rw [hzd t ht (by omega), hpn t (by omega) htq]; rfl) (by rw [hzd q (by omega) hql, hpq]; rfl)
    have hnd : (g :: (z.map (·.2.2)).flatten).Nodup := by have := hfr.1; rw [hfe] at this; exact this
    have hfB : ∀ k ∈ g :: (z.map (·.2.2)).flatten, B ≤ k := by have := hfr.2; rw [hfe] at this; exact this
    have hzlt : ∀ k ∈ (z.map (·.2.2)).flatten, k < w2.heap.size := fun k hk => ha.lt good_fact k hk
    have Hst := Lib.hid hst
    have Hlz := Lib.hid hlz
    have Hzl := Lib.hid hzl
    have Hz := Lib.hid hz
    have Hz2 := Lib.hid hz2
    have Hzd := Lib.hid hzd
    have Hnd := Lib.hid hnd
    have HfB := Lib.hid hfB
    have Hzlt := Lib.hid hzlt
    have Hrow := Lib.hid hrow
    have hgw2 := hgB.2
    have hgBB := hgB.1
    clear hst hzl hz hz2 hzd hnd hfB hzlt hrow hown ha hl2 hfr hfe hgB hpq hpn h hlz
    go_wp2
    go_loopw [5, 6, 7] (fun s5 s6 s7 wr => ∃ (i j : Nat) (cur : List (List Value)), s5 = .int .i64 i ∧ s6 = .int .i64 j ∧ i < j ∧ j ≤ l.length ∧ Hid (DelSt 2 (fun x => !p x) z i j cur) ∧ Hid (Row wr 38 2 (.slice (some ⟨g, 0, none⟩) l.length cap) l.length cur.flatten (some g)) ∧ Wrote [g] w2 wr) (fun _ s6 _ _ => l.length - (intOf s6).toNat)
    case atStart => exact ⟨q, q + 1, z.map (·.1), rfl, by go_num, by omega, by omega, Hst, Hrow, Wrote.refl _ _⟩
    case round =>
      obtain ⟨i, j, cur, rfl, rfl, hij, hjl, HD, HR, hwr⟩ := hrel
      have hbr : Below B w2 wr := hwr.below (by omega) (fun k hk => by rw [List.mem_singleton.1 hk]; exact hgBB)
      by_cases hlt : j < l.length
      · have hjz : j < z.length := by rw [Hzl.out]; exact hlt
        obtain ⟨vy, hcy, iy, hvy⟩ := Hz.out z[j] (List.getElem_mem hjz)
        have hfj : ∀ k ∈ z[j].2.2, k < w2.heap.size ∧ k ≠ g := fun k hk => by
          have hm : k ∈ (z.map (·.2.2)).flatten := List.mem_flatten.2 ⟨z[j].2.2, List.mem_map.2 ⟨z[j], List.getElem_mem hjz, rfl⟩, hk⟩
          exact ⟨Hzlt.out k hm, fun e => (List.nodup_cons.1 Hnd.out).1 (e ▸ hm)⟩
        have hvr : ints wr vy z[j].2.1.vals z[j].2.2 := hvy.frame fun k hk => hwr.block k (hfj k hk).1 (by simp; exact (hfj k hk).2)
        have hdj := Hzd.out j hjz hlt
        rw [hdj] at hvr hcy
        obtain ⟨ay, cy, rfl⟩ := slR.form hvr
        have hcj := HD.out.at hjz
        rw [hcy] at hcj
        have hgr := HR.out.at (by omega)
        obtain ⟨g', hg', _, hcell, hfz⟩ := hgr
        cases hg'
        have hc0 : wr.cell? ⟨g, j * 2, none⟩ = some (.int .i64 l[j].rel) := hcell _ _ (flat_get (HD.out.two) j _ 0 _ hcj rfl)
        have hc1 : wr.cell? ⟨g, j * 2 + 1, none⟩ = some (.slice ay l[j].vals.length cy) := hcell _ _ (flat_get (HD.out.two) j _ 1 _ hcj rfl)
        have hil : i < cur.length := by rw [HD.out.len]; omega
        obtain ⟨u0, u1, hu⟩ := len_two (HD.out.two cur[i] (List.getElem_mem hil))
        have hci : cur[i]? = some [u0, u1] := by rw [List.getElem?_eq_getElem hil, hu]
        have hd0 : wr.cell? ⟨g, i * 2, none⟩ = some u0 := hcell _ _ (flat_get (HD.out.two) i _ 0 _ hci rfl)
        have hd1 : wr.cell? ⟨g, i * 2 + 1, none⟩ = some u1 := hcell _ _ (flat_get (HD.out.two) i _ 1 _ hci rfl)
        have hz0 := hfz (i * 2)
        have hz1 := hfz (i * 2 + 1)
        have hgw := HR.out.lt g rfl
        have Hcy := Lib.hid hcy
        have Hci := Lib.hid hci
        have Hdj := Lib.hid hdj
        clear hcell hfz hcj hci hu hil hcy hdj hvy
        have hba : Below wr.heap.size wr (wr.alloc (.cells #[.int .i64 l[j].rel, .slice ay l[j].vals.length cy] 38)) := ba (Below.refl _ _)
        have hB2 : B ≤ w2.heap.size := by omega
        have hbw : Below B w (wr.alloc (.cells #[.int .i64 l[j].rel, .slice ay l[j].vals.length cy] 38)) := (hb2B.trans hbr).trans (hba.mono (Nat.le_trans hB2 hwr.size))
        have hvr1 := hvr.below' hba
        have hpj : p z[j].2.1 = p l[j] := by rw [Hdj.out]
        cases hp : p l[j] with
        | true =>
          have HD2 := Lib.hid (HD.out.skip hjz (show (!p z[j].2.1) = false by rw [hpj, hp]; rfl))
          have Hp := Lib.hid hp
          clear hp hpj
          go_wp2_with fail
          have hAk := HA.out l[j] (.slice ay l[j].vals.length cy)
          rw [hAk]
          clear hAk
          refine (HC.out l[j] (List.getElem_mem hlt) _ _ _ hbw hvr1).mono ?_
          rintro e w3 ⟨rfl, hb3⟩
          rw [Hp.out]
          have hb13 := bt hba hb3
          have HR3 := Lib.hid (HR.out.below' hb13)
          have hwr3 : Wrote [g] w2 w3 := hwr.trans (Wrote.of_below hb13)
          go_wp2
          go_roundw
          case rel => exact ⟨i, j + 1, cur, rfl, by go_num, by omega, by omega, HD2, HR3, hwr3⟩
          case measure => simp [intOf]; omega
        | false =>
          have HD2 := Lib.hid (HD.out.keep hjz hij (Hz2.out _ (List.getElem_mem hjz)) (show (!p z[j].2.1) = true by rw [hpj, hp]; rfl))
          have Hp := Lib.hid hp
          clear hp hpj
          go_wp2_with fail
          have hAk := HA.out l[j] (.slice ay l[j].vals.length cy)
          rw [hAk]
          clear hAk
          refine (HC.out l[j] (List.getElem_mem hlt) _ _ _ hbw hvr1).mono ?_
          rintro e w3 ⟨rfl, hb3⟩
          rw [Hp.out]
          have hb13 := bt hba hb3
          have HR3 := HR.out.below' hb13
          have hwr3 : Wrote [g] w2 w3 := hwr.trans (Wrote.of_below hb13)
          have e0 : w3.cell? ⟨wr.heap.size, 0, none⟩ = some (.int .i64 l[j].rel) := cell_below (cell_new wr _ _ 0 _ rfl) hb3
          have e1 : w3.cell? ⟨wr.heap.size, 1, none⟩ = some (.slice ay l[j].vals.length cy) := cell_below (cell_new wr _ _ 1 _ rfl) hb3
          have d0 := cell_below hd0 hb13
          have d1 := cell_below hd1 hb13
          have hzz := (bcell hb13).2
          have y0 : w3.frozen? ⟨g, i * 2, none⟩ = false := (hzz _ _ hgw).trans hz0
          have y1 : w3.frozen? ⟨g, i * 2 + 1, none⟩ = false := (hzz _ _ hgw).trans hz1
          have hne : ¬ (wr.heap.size = g) := by omega
          have hst := row_storeAll (sz := 2) (by decide) [.int .i64 l[j].rel, .slice ay l[j].vals.length cy] cur w3 i 0 [u0, u1] HD.out.two Hci.out rfl HR3
          have hs2 : storeAll w3 g (i * 2 + 0) [.int .i64 l[j].rel, .slice ay l[j].vals.length cy] = (w3.setCell ⟨g, i * 2, none⟩ (.int .i64 l[j].rel)).setCell ⟨g, i * 2 + 1, none⟩ (.slice ay l[j].vals.length cy) := rfl
          rw [hs2] at hst
          have e2 : cur.set i ([u0, u1].take 0 ++ [.int .i64 l[j].rel, .slice ay l[j].vals.length cy]) = cur.set i z[j].1 := by rw [Hcy.out]; rfl
          rw [e2] at hst
          have hwr4 : Wrote [g] w2 ((w3.setCell ⟨g, i * 2, none⟩ (.int .i64 l[j].rel)).setCell ⟨g, i * 2 + 1, none⟩ (.slice ay l[j].vals.length cy)) := (hwr3.setCell (by simp) _).setCell (by simp) _
          have HR4 := Lib.hid hst
          clear hst hs2 e2 HR3 hzz
          go_wp2
          go_roundw
          case rel => exact ⟨i + 1, j + 1, cur.set i z[j].1, by go_num, by go_num, by omega, by omega, HD2, HR4, hwr4⟩
          case measure => simp [intOf]; omega
      · have hjl2 : j = l.length := by omega
        subst hjl2
        obtain ⟨hrl, hrr⟩ := HR.out
        rcases hrr with ⟨_, _, _, ho⟩ | ⟨g', cap', X, hv, ho, hgX, hcap, hcm, hXs, hXt⟩
        · cases ho
        · cases hv
          obtain ⟨X, rfl⟩ : ∃ cl : List Value, X = cl.toArray := ⟨X.toList, by simp⟩
          have hXs' : X.length = cap * 2 := by simpa using hXs
          have hXt' : X.take (l.length * 2) = cur.flatten := by simpa using hXt
          have hD := HD.out
          have hkl : keptT (fun x => !p x) z l.length = z.filter fun t => !p t.2.1 := by
            unfold keptT; rw [List.take_of_length_le (Nat.le_of_eq Hzl.out)]
          have hkd : (keptT (fun x => !p x) z l.length).map (·.2.1) = l.filter fun x => !p x := by
            have h1 := keptT_data (fun x => !p x) z l.length
            rw [← Hlz.out, List.take_length] at h1
            exact h1
          have hki : i = (l.filter fun x => !p x).length := by rw [← hkd, List.length_map]; exact hD.cnt
          have hXi : X.take (i * 2) = ((keptT (fun x => !p x) z l.length).map (·.1)).flatten := by
            rw [← hD.head, ← flat_take hD.two (by rw [hD.len, Hzl.out]; omega), ← hXt', List.take_take, Nat.min_eq_left (by omega)]
          have HX := Lib.hid hXi
          have Hki := Lib.hid hki
          have Hkd := Lib.hid hkd
          have HgX := Lib.hid hgX
          have hni : i < l.length := hij
          have hci : ¬ (cap = i) := by omega
          have hcm' : cap ≤ 9223372036854775807 := hcm
          have hil : (i : Int) ≤ (l.length : Int) := by omega
          have HXs := Lib.hid hXs'
          clear hD hkl hkd hki hXi hgX hXs hXt hXs' hXt' hcm hrl ho
          go_wp2_with ((with_reducible refine (show wpList _ _ _ (⟨none, _, _, _, _, _⟩ :: _) _ _ from ?_)); refine wpList_clear_z slFactS rfl (.tmp 38) rfl g (i * 2) (l.length - i) (cap - i) rfl (by omega) X HgX.out (by rw [HXs.out]; omega) (by simp [Value.cells, Value.oneCell']) ?_; intro w4 X4 HG4 HT4 HL4 hgr4)
          have hwr4 : Wrote [g] w2 w4 := hwr.trans ⟨hgr4.os, hgr4.tape, hgr4.output, hgr4.size, fun k hk hkn => hgr4.block k hk (fun e => hkn (by cases e; simp))⟩
          have hsub := keptT_sub (fun x => !p x) z l.length
          have hall : All factR w4 ((keptT (fun x => !p x) z l.length).map (·.1)) ((keptT (fun x => !p x) z l.length).map (·.2.1)) ((keptT (fun x => !p x) z l.length).map (·.2.2)) := All.unzip _ fun t ht => by
            have htz := hsub.subset ht
            refine good_fact.frame (Hz.out t htz) fun k hk => ?_
            have hm : k ∈ (z.map (·.2.2)).flatten := List.mem_flatten.2 ⟨t.2.2, List.mem_map.2 ⟨t, htz, rfl⟩, hk⟩
            exact hwr4.block k (Hzlt.out k hm) (by simp; exact fun e => (List.nodup_cons.1 Hnd.out).1 (e ▸ hm))
          rw [Hkd.out] at hall
          have hnd2 := List.nodup_cons.1 Hnd.out
          have hfin : grR 38 2 factR B w4 (.slice (some ⟨g, 0, none⟩) i cap) (l.filter fun x => !p x) (g :: ((keptT (fun x => !p x) z l.length).map (·.2.2)).flatten) := by
            refine ⟨_, _, hall, fun c hc => ?_, ?_, by simp [Value.ownBlock], List.nodup_cons.2 ⟨fun hm => hnd2.1 (flat_sub hsub g hm), nodup_sub hsub hnd2.2⟩, fun k hk => ?_⟩
            · obtain ⟨t, ht, rfl⟩ := List.mem_map.1 hc
              exact Hz2.out t (hsub.subset ht)
            · rw [← Hki.out]
              refine ⟨?_, .inr ⟨g, cap, X4.toArray, rfl, hgBB, HG4.out, by omega, by unfold maxLen; omega, by have := HL4.out; have := HXs.out; simp; omega, by have := HT4.out; have := HX.out; simp; rw [HT4.out, HX.out]⟩⟩
              have h1 := congrArg List.length HX.out
              rw [List.length_take, HXs.out, Nat.min_eq_left (by omega)] at h1
              exact h1.symm
            · rcases List.mem_cons.1 hk with rfl | hk
              · exact hgBB
              · exact HfB.out k (by simp only [List.mem_cons]; exact .inr (flat_sub hsub k hk))
          have hbf : Below B w w4 := hb2B.trans (hwr4.below (by omega) fun k hk => by rw [List.mem_singleton.1 hk]; exact hgBB)
          go_wp2
          go_ret
          exact ⟨.slice (some ⟨g, 0, none⟩) i cap, _, rfl, hfin, hbf⟩
set_option maxRecDepth 100000 in
set_option maxHeartbeats 1600000 in
theorem matches1_any (m : MethD) (vals : List Int) (y : FactD) (vi vv vx : Value) (fi fv fx : List Nat) (gm ga : Nat) (w : World) (hi : ints w vi m.inputs fi) (hv : ints w vv vals fv) (hx : ints w vx y.vals fx) (H : Fit m vals y)
    (m0 : w.cell? ⟨gm, 0, none⟩ = some (.int .i64 m.rel)) (m1 : w.cell? ⟨gm, 1, none⟩ = some vi) (a1 : w.cell? ⟨ga, 1, none⟩ = some vv) :
    Calls Try.prog 141 #[.agg #[.int .i64 y.rel, vx], .pointer (some ⟨gm, 0, none⟩), .pointer (some ⟨ga, 0, none⟩)] w fun e w' => e = .returned (.bool (!fitB m vals y)) ∧ Below w.heap.size w w' := by
  obtain ⟨rel, inputs, limit, cost, quota⟩ := m
  obtain ⟨r, xs⟩ := y
  obtain ⟨p, cp, rfl⟩ := slR.form hi
  obtain ⟨v, cv, rfl⟩ := slR.form hv
  obtain ⟨x, cx, rfl⟩ := slR.form hx
  have hla := slR.le_max hi
  have HF := Lib.hid H
  clear H
  have hi2 := hi.al (.cells #[.int .i64 r, .slice x xs.length cx] 38)
  have hv2 := hv.al (.cells #[.int .i64 r, .slice x xs.length cx] 38)
  have hx2 := hx.al (.cells #[.int .i64 r, .slice x xs.length cx] 38)
  have n0 := fun o => cell_al m0 o
  have n1 := fun o => cell_al m1 o
  have b1 := fun o => cell_al a1 o
  have hgm := lt_of_cell m0
  have hga := lt_of_cell a1
  have hb0 : Below w.heap.size w (w.alloc (.cells #[.int .i64 r, .slice x xs.length cx] 38)) := ba (Below.refl _ _)
  by_cases hr : r = rel
  · have Hr := Lib.hid hr
    have hne : (r != rel) = false := by simp [hr]
    clear hr
    go_enter Try.func141, Try.ntmps141
    go_wp2
    go_loopw [5, 6, 15] (fun s5 s6 i wr => ∃ k n : Nat, i = .int .i64 k ∧ k ≤ inputs.length ∧ Hid (∀ j, j < k → fitBad ⟨rel, inputs, limit, cost, quota⟩ vals ⟨r, xs⟩ j = false) ∧ wr = (w.alloc (.cells #[.int .i64 r, .slice x xs.length cx] 38)).drewN n) (fun _ _ i _ => inputs.length - (intOf i).toNat)
    case atStart => exact ⟨0, 0, rfl, Nat.zero_le _, Lib.hid (fun j h0 => by omega), rfl⟩
    case round =>
      obtain ⟨k, n, rfl, hk, HN, rfl⟩ := hrel
      by_cases hlt : k < inputs.length
      · obtain ⟨hl1, hq1⟩ := HF.out
        obtain ⟨q, hq, hqx⟩ := hq1 Hr.out k hlt
        have hkv : k < vals.length := Nat.lt_of_lt_of_le hlt hl1
        have Hb := Lib.hid (fitBad_at (m := ⟨rel, inputs, limit, cost, quota⟩) (vals := vals) (x := ⟨r, xs⟩) hlt hkv hq hqx)
        obtain ⟨g1, hg1, hc1, _, _, _⟩ := hi2.get k hlt
        obtain ⟨g2, hg2, hc2, _, _, _⟩ := hv2.get k hkv
        obtain ⟨g3, hg3, hc3, _, _, _⟩ := hx2.get q hqx
        rw [show inputs[k] = (q : Int) from hq] at hc1
        clear hl1 hq1 hq
        have hk1 : (k : Int) < (inputs.length : Int) := by omega
        have hk2 : (k : Int) < (vals.length : Int) := by omega
        have hk3 : (q : Int) < (xs.length : Int) := Int.ofNat_lt.2 hqx
        have hk0 : (0 : Int) ≤ (k : Int) := Int.natCast_nonneg _
        have hk00 : (0 : Int) ≤ (q : Int) := Int.natCast_nonneg _
        subst hg1 hg2 hg3
        cases hb : (xs[q] != vals[k]) with
        | true =>
          have Hf := Lib.hid (fitB_bad (m := ⟨rel, inputs, limit, cost, quota⟩) (vals := vals) (x := ⟨r, xs⟩) hlt (Hb.out.trans hb))
          go_wp2
          go_quiet (fail)
          go_wp2
          go_ret
          exact ⟨ret_bool (by rw [Hf.out]; rfl), by repeat (first | exact Below.refl _ _ | refine bdn ?_ | refine ba ?_)⟩
        | false =>
          have HN2 := Lib.hid (anyN_step HN.out (Hb.out.trans hb))
          go_wp2
          go_quiet (fail)
          go_wp2
          go_roundw
          case rel => exact ⟨k + 1, _, by go_num, by omega, HN2, rfl⟩
          case measure => simp [intOf]; omega
      · have hkl : k = inputs.length := by omega
        have Hf := Lib.hid (fitB_end (m := ⟨rel, inputs, limit, cost, quota⟩) (vals := vals) (x := ⟨r, xs⟩) Hr.out hkl HN.out)
        clear hkl
        go_wp2
        go_ret
        exact ⟨ret_bool (by rw [Hf.out]; rfl), by repeat (first | exact Below.refl _ _ | refine bdn ?_ | refine ba ?_)⟩
  · have Hf := Lib.hid (fitB_rel (m := ⟨rel, inputs, limit, cost, quota⟩) (vals := vals) (x := ⟨r, xs⟩) hr)
    have hne : (r != rel) = true := by simp [hr]
    go_enter Try.func141, Try.ntmps141
    go_wp2
    go_ret
    exact ⟨ret_bool (by rw [Hf.out]; rfl), hb0⟩
set_option maxRecDepth 100000 in
set_option maxHeartbeats 3200000 in
theorem matches_any (l : List MethD) (fa : List FactD) (q : Nat) (vals : List Int) (vl vf vx : Value) (fl ff fx : List Nat) (w : World) (hl : meths w vl l fl) (hf : facts w vf fa ff) (hx : ints w vx vals fx) (hq : q < l.length) (H : ∀ y ∈ fa, Fit l[q] vals y) (hn : fa.length ≤ 1048576) (hln : ∀ y ∈ fa, y.vals.length ≤ 1048576) :
    Calls Try.prog 104 #[vl, vf, .agg #[.int .i64 q, vx]] w fun e w' => ∃ v' f', e = .returned v' ∧ grR 38 2 factR w.heap.size w' v' (fa.filter (fitB l[q] vals)) f' ∧ Below w.heap.size w w' := by
  obtain ⟨pl, cl, rfl⟩ := slR.form hl
  obtain ⟨pf, cf, rfl⟩ := slR.form hf
  obtain ⟨px, cx, rfl⟩ := slR.form hx
  have hP := plain_of Try.func141 (by kernel_rfl) (by kernel_rfl)
  have hla := slR.le_max hl
  obtain ⟨g, vi, fi, rfl, c0, c1, c2, c3, c4, hvi⟩ := hl.get q hq
  obtain ⟨pi, ci, rfl⟩ := slR.form hvi
  have hk0 : (0 : Int) ≤ (q : Int) := Int.natCast_nonneg _
  have hk1 : (q : Int) < (l.length : Int) := by omega
  have HH := Lib.hid H
  have Hln := Lib.hid hln
  have hgw := lt_of_cell c0
  clear H hln
  have d0 := fun o => cell_al c0 o
  have d1 := fun o => cell_al c1 o
  have d2 := fun o => cell_al c2 o
  have d3 := fun o => cell_al c3 o
  have d4 := fun o => cell_al c4 o
  have hff : (fa.filter fun x => !!fitB l[q] vals x) = fa.filter (fitB l[q] vals) := by congr 1; funext x; simp
  have Hff := Lib.hid hff
  have hW : Below w.heap.size w ((w.alloc (.cells #[.int .i64 (q : Int), .slice px vals.length cx] 87)).alloc (.cells #[.int .i64 l[q].rel, .slice pi l[q].inputs.length ci, .int .i64 l[q].limit, .int .i64 l[q].cost, .int .i64 l[q].quota] 125)) := ba (ba (Below.refl _ _))
  have hm0 : ((w.alloc (.cells #[.int .i64 (q : Int), .slice px vals.length cx] 87)).alloc (.cells #[.int .i64 l[q].rel, .slice pi l[q].inputs.length ci, .int .i64 l[q].limit, .int .i64 l[q].cost, .int .i64 l[q].quota] 125)).cell? ⟨w.heap.size + 1, 0, none⟩ = some (.int .i64 l[q].rel) := cell_at _ _ (by simp) _ _ 0 _ rfl
  have hm1 : ((w.alloc (.cells #[.int .i64 (q : Int), .slice px vals.length cx] 87)).alloc (.cells #[.int .i64 l[q].rel, .slice pi l[q].inputs.length ci, .int .i64 l[q].limit, .int .i64 l[q].cost, .int .i64 l[q].quota] 125)).cell? ⟨w.heap.size + 1, 1, none⟩ = some (.slice pi l[q].inputs.length ci) := cell_at _ _ (by simp) _ _ 1 _ rfl
  have ha1 : ((w.alloc (.cells #[.int .i64 (q : Int), .slice px vals.length cx] 87)).alloc (.cells #[.int .i64 l[q].rel, .slice pi l[q].inputs.length ci, .int .i64 l[q].limit, .int .i64 l[q].cost, .int .i64 l[q].quota] 125)).cell? ⟨w.heap.size, 1, none⟩ = some (.slice px vals.length cx) := cell_al (cell_new w _ _ 1 _ rfl) _
  obtain ⟨W, hWe⟩ : ∃ W, W = ((w.alloc (.cells #[.int .i64 (q : Int), .slice px vals.length cx] 87)).alloc (.cells #[.int .i64 l[q].rel, .slice pi l[q].inputs.length ci, .int .i64 l[q].limit, .int .i64 l[q].cost, .int .i64 l[q].quota] 125)) := ⟨_, rfl⟩
  rw [← hWe] at hW hm0 hm1 ha1
  have HW := Lib.hid hWe
  clear hWe
  have hfW := hf.below' hW
  have hxW := hx.below' hW
  have hiW := hvi.below' hW
  go_enter Try.func104, Try.ntmps104
  go_wp2_with fail
  rw [← HW.out]
  refine (copyFacts_any _ fa ff _ hfW hn Hln.out).mono ?_
  rintro e w1 ⟨v1, f1, rfl, hg1, hb1⟩
  go_wp2_with fail
  refine (deleteFuncFact_any W.heap.size _ hP #[.pointer (some ⟨w.heap.size + 1, 0, none⟩), .pointer (some ⟨w.heap.size, 0, none⟩)] (fun y vy => #[.agg #[.int .i64 y.rel, vy], .pointer (some ⟨w.heap.size + 1, 0, none⟩), .pointer (some ⟨w.heap.size, 0, none⟩)]) (fun _ _ => rfl) (fun y => !fitB l[q] vals y) _ fa f1 _ hg1 hb1.size hn
    (fun y hy w' vy fy hb hvy => matches1_any l[q] vals y _ _ _ fi fx fy _ _ w' (hiW.below' (hb1.trans hb)) (hxW.below' (hb1.trans hb)) hvy (HH.out y hy) (cell_below hm0 (hb1.trans hb)) (cell_below hm1 (hb1.trans hb)) (cell_below ha1 (hb1.trans hb)))).mono ?_
  rintro e w2 ⟨v2, f2, rfl, hg2, hb2⟩
  rw [Hff.out] at hg2
  have hszW := hW.size
  obtain ⟨rows, fs, r1, r2, r3, r4, r5⟩ := hg2
  have hfin : grR 38 2 factR w.heap.size w2 v2 (fa.filter (fitB l[q] vals)) f2 := ⟨rows, fs, r1, r2, ⟨r3.1, r3.2.imp id fun ⟨g, cap, cur, a1, a2, a3⟩ => ⟨g, cap, cur, a1, Nat.le_trans hszW a2, a3⟩⟩, r4, r5.mono hszW⟩
  have hbf := hW.trans ((hb1.trans hb2).mono hszW)
  clear r1 r2 r3 r4 r5
  go_wp2
  go_ret
  exact ⟨v2, f2, rfl, hfin, hbf⟩
end Go.Proofs.Ytjjkfhjkfoikbaa
