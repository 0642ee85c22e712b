/- slices.Insert of one element, at slices of the call's own. Condition: not more than 2^20 elements. -/
import Derived.Test.YtapapnaljjnhnaaGreatDoorInsL
import Derived.Test.YtapapnaljjnhnaaGreatDoorMC
import Derived.Test.YtapapnaljjnhnaaGreatDoorMA
import Derived.IntWalk
import Derived.Deep.RegionLaw
namespace Go.Proofs.YtapapnaljjnhnaaGreatDoor
open Go.RowKit
set_option linter.unusedVariables false
set_option linter.unusedSimpArgs false
theorem shape_cells {w : World} {g : Nat} {cs : Array Value} {t : TypeId} {fr : Nat × Nat} (h : w.heap[g]? = some (.cells cs t fr)) : w.shape? g = some (t, cs.size) := by simp [World.shape?, h]
theorem frozen_cells {w : World} {g : Nat} {cs : Array Value} {t : TypeId} (h : w.heap[g]? = some (.cells cs t (0, 0))) (j : Nat) : w.frozen? ⟨g, j, none⟩ = false := by simp [World.frozen?, h]
theorem add_lit (g o j : Nat) : (⟨g, o, none⟩ : Addr).add j = ⟨g, o + j, none⟩ := by unfold Addr.add; split <;> simp_all
theorem drop_flat_get {sz n i : Nat} {rows : List (List Value)} {cur : List Value} (hl : ∀ c ∈ rows, c.length = sz) (hr : rows.length = n) (hi : i ≤ n) (hcur : cur.take (n * sz) = rows.flatten) : ∀ j u, (rows.drop i).flatten[j]? = some u → cur[i * sz + j]? = some u := by
  intro j u hj
  rw [← flat_drop hl (by omega), ← hcur, List.getElem?_drop, List.getElem?_take] at hj
  split at hj
  · exact hj
  · cases hj
theorem oneIntsR {w : World} {rows : List (List Value)} {l : List (List Int)} {fs : List (List Nat)} (h : All intsR w rows l fs) : ∀ u ∈ rows.flatten, u.oneCell' = true := by
  induction h with
  | nil => simp
  | cons h1 _ ih =>
    intro u hu
    rw [List.flatten_cons, List.mem_append] at hu
    rcases hu with hu | hu
    · obtain ⟨v, rfl, hv⟩ := h1
      obtain ⟨a, cap, rfl⟩ := slR.form hv
      rw [List.mem_singleton.1 hu]; rfl
    · exact ih u hu
theorem oneFactR {w : World} {rows : List (List Value)} {l : List FactD} {fs : List (List Nat)} (h : All factR w rows l fs) : ∀ u ∈ rows.flatten, u.oneCell' = true := by
  induction h with
  | nil => simp
  | cons h1 _ ih =>
    intro u hu
    rw [List.flatten_cons, List.mem_append] at hu
    rcases hu with hu | hu
    · obtain ⟨v, rfl, _, hv⟩ := h1
      obtain ⟨a, cap, rfl⟩ := slR.form hv
      rcases List.mem_cons.1 hu with rfl | hu
      · rfl
      · rw [List.mem_singleton.1 hu]; rfl
    · exact ih u hu
set_option maxRecDepth 100000 in
set_option maxHeartbeats 3200000 in
theorem insertFactEnd_any (B : Nat) (v : Value) (l : List FactD) (f : List Nat) (x : FactD) (c : List Value) (fx : List Nat) (vb : Nat) (w : World) (h : grR 79 2 factR B w v l f) (hx : factR w c x fx) (hc : c.length = 2) (hfx : Fresh B fx) (hd : ∀ g ∈ fx, g ∉ f)
    (hvb : w.heap[vb]? = some (.cells c.toArray 79 (0, 0))) (hn : l.length ≤ 1048576) (h1c : ∀ u ∈ c, u.oneCell' = true) (hB : B ≤ w.heap.size) :
    Calls Tryz.prog 193 #[v, .int .i64 l.length, .slice (some ⟨vb, 0, none⟩) 1 1] w fun e w' => ∃ v' f', e = .returned v' ∧ grR 79 2 factR B w' v' (l ++ [x]) f' ∧ Below B w w' := by
  obtain ⟨rows, fs, ha, hl, hown, rfl, hfr⟩ := h
  obtain ⟨i0, hi, hz, hsz, hby⟩ := slFactS.inf
  have hlt := own_lt hown
  obtain ⟨a, cap, rfl⟩ := (own_row hown).form
  have hcap : l.length ≤ cap := by
    rcases hown.2 with ⟨hv, h0⟩ | ⟨g, cap', cur, hv, hb, hg, h1, _⟩
    · rw [h0]; omega
    · cases hv; exact h1
  have hcm : cap ≤ 9223372036854775807 := by
    rcases hown.2 with ⟨hv, h0⟩ | ⟨g, cap', cur, hv, hb, hg, h1, h2, _⟩
    · injection hv with _ _ hv3; omega
    · cases hv; exact h2
  have Hown := Lib.hid hown
  have hnews : ∀ j u, c[j]? = some u → w.cell? ((⟨vb, 0, none⟩ : Addr).add j) = some u := fun j u hj => by
    rw [add_lit, Nat.zero_add, cell_of_row w vb j c.toArray 79 (0, 0) hvb]; simpa using hj
  have Hnews := Lib.hid hnews
  have Hvb := Lib.hid hvb
  clear hnews hown hvb
  by_cases hcn : cap = l.length
  all_goals
   go_enter Tryz.func193, Tryz.ntmps193
   go_wp2_with (at_builtin; refine wpList_append_lies _ rfl _ _ 26 rfl B 79 i0 _ 2 _ slFactS.und hi hz hsz hby slFactS.zs slFactS.pos (.slice a l.length cap) l.length rows.flatten rfl Hown.out ⟨vb, 0, none⟩ 1 1 c rfl (by rw [hc]) Hnews.out h1c (by omega) (by unfold maxLen; omega) (by omega) hB w.heap.size rfl ?_; intro g2 cap2 w2 hown2 hgr2 hat2 hlt2)
   have hfin := gr_mk (H := w.heap.size) good_fact ha hl Hown.out hfr hx hc hfx hd (Below.refl _ _) hgr2 hown2 hat2 (Nat.le_refl _)
   obtain ⟨f', hf', _⟩ := hfin
   have hbf : Below B w w2 := below_of_grown hgr2 hB fun k hk => (hlt k hk).1
   clear hown2
   go_ret
   first | exact ⟨_, _, rfl, hf', hbf⟩ | exact ⟨_, rfl, ⟨_, hf'⟩, hbf⟩
set_option maxRecDepth 100000 in
set_option maxHeartbeats 6400000 in
theorem insertFactMid_any (B : Nat) (v : Value) (l : List FactD) (f : List Nat) (x : FactD) (c : List Value) (fx : List Nat) (vb i : Nat) (w : World) (h : grR 79 2 factR B w v l f) (hx : factR w c x fx) (hc : c.length = 2) (hfx : Fresh B fx) (hd : ∀ g ∈ fx, g ∉ f)
    (hvb : w.heap[vb]? = some (.cells c.toArray 79 (0, 0))) (hvf : vb ∉ f) (hi : i < l.length) (hn : l.length ≤ 1048576) (h1c : ∀ u ∈ c, u.oneCell' = true) (hB : B ≤ w.heap.size) :
    Calls Tryz.prog 193 #[v, .int .i64 i, .slice (some ⟨vb, 0, none⟩) 1 1] w fun e w' => ∃ v' f', e = .returned v' ∧ grR 79 2 factR B w' v' (l.take i ++ x :: l.drop i) f' ∧ Below B w w' := by
  obtain ⟨rows, fs, ha, hl, hown, rfl, hfr⟩ := h
  have hrl := ha.len.1
  have hlt := own_lt hown
  obtain ⟨hol, hown⟩ := hown
  rcases hown with ⟨hv, h0⟩ | ⟨g, cap, cur, rfl, hBg, hg, hnc, hcm, hcs, hcur⟩
  · omega
  have hgw : g < w.heap.size := (Array.getElem?_eq_some_iff.1 hg).1
  have hvw : vb < w.heap.size := (Array.getElem?_eq_some_iff.1 hvb).1
  have hne : vb ≠ g := fun e => hvf (by simp [Value.ownBlock, e])
  obtain ⟨cur, rfl⟩ : ∃ cl : List Value, cur = cl.toArray := ⟨cur.toList, by simp⟩
  have hcs' : cur.length = cap * 2 := by simpa using hcs
  have hcur' : cur.take (l.length * 2) = rows.flatten := by simpa using hcur
  have hX : (rows.drop i).flatten.length = (l.length - i) * 2 := by rw [flat_len _ fun c hc => hl c (List.mem_of_mem_drop hc), List.length_drop, hrl]
  have hS := drop_flat_get hl hrl (Nat.le_of_lt hi) hcur'
  have hne0 : cur.toArray.size ≠ 0 := by rw [List.size_toArray]; omega
  have h1X : ∀ u ∈ (rows.drop i).flatten, u.oneCell' = true := fun u hu => oneFactR (ha.drop i) u hu
  have hov : ∀ lb cb, (callFunc 213 #[.slice (some ⟨vb, 0, none⟩) 1 1, .slice (some ⟨g, (i + 1) * 2, none⟩) lb cb]).run Tryz.prog w = .ok (.value (.bool false)) w := fun lb cb => by
    rw [run_callFunc_extern Tryz.func213 (by kernel_rfl) (by kernel_rfl) (by kernel_rfl) (e := Extern.SlicesOverlaps.overlaps #[26, 26] #[4]) (by kernel_rfl),
      Lib.run_overlaps_apart w 26 4 79 slFactS.und 2 (fun w => by kernel_rfl) ⟨vb, 0, none⟩ ⟨g, (i + 1) * 2, none⟩ 1 1 lb cb hne 79 79 c.toArray.size cur.toArray.size (shape_cells hvb) (shape_cells hg) hne0 (frozen_cells hvb 0) (frozen_cells hvb _)]
    rfl
  have hz2 : ¬ ((i : Int) = (l.length : Int)) := by omega
  have hil : (i : Int) ≤ (l.length : Int) := by omega
  have hcm' : cap ≤ 9223372036854775807 := hcm
  have hci : ¬ (cap = i) := by omega
  have hw1 : IntKind.i64.wrap ((i : Int) + 1) = (i : Int) + 1 := IntWalk.i64_in _ (by omega)
  have hb1 : (0 : Int) ≤ (i : Int) + 1 := by omega
  have htn : ((i : Int) + 1).toNat = i + 1 := by omega
  have Hg := Lib.hid hg
  have Hvb := Lib.hid hvb
  have HX := Lib.hid hX
  have HS := Lib.hid hS
  have H1X := Lib.hid h1X
  have H1c := Lib.hid h1c
  have Hc := Lib.hid hc
  have Hcs := Lib.hid hcs'
  have Hcur := Lib.hid hcur'
  have Hrl := Lib.hid hrl
  have Hlt := Lib.hid hlt
  have hnv : ∀ {w' : World}, w'.heap[vb]? = w.heap[vb]? → ∀ j u, c[j]? = some u → w'.cell? ((⟨vb, 0, none⟩ : Addr).add j) = some u := fun {w'} hw j u hj => by
    rw [add_lit, Nat.zero_add, cell_of_row w' vb j c.toArray 79 (0, 0) (hw.trans Hvb.out)]; simpa using hj
  have Hnv := @Lib.hid _ (@hnv)
  have hng : ∀ {w' : World}, w'.heap[g]? = w.heap[g]? → ∀ j u, (rows.drop i).flatten[j]? = some u → w'.cell? ((⟨g, i * 2, none⟩ : Addr).add j) = some u := fun {w'} hw j u hj => by
    have := HS.out j u hj
    rw [add_lit, cell_of_row w' g _ cur.toArray 79 (0, 0) (hw.trans Hg.out)]; simpa using this
  have Hng := @Lib.hid _ (@hng)
  clear hg hvb hX hS h1X h1c hc hcs' hcur' hrl hlt hol hcs hcur hnv hng hcm hne0
  by_cases hroom : l.length + 1 ≤ cap
  · have hr1 : ¬ ((cap : Int) < (l.length : Int) + 1) := by omega
    have hci1 : ¬ (cap = i + 1) := by omega
    have hil1 : (i : Int) + 1 ≤ (l.length : Int) + 1 := by omega
    have hil2 : (i : Int) ≤ (l.length : Int) + 1 := by omega
    go_enter Tryz.func193, Tryz.ntmps193
    go_wp2_with (simp only [hov])
    go_region_law (refine step_copy_z slFactS rfl (.tmp 73) (.tmp 76) rfl g ((i + 1) * 2) (l.length + 1 - (i + 1)) (cap - (i + 1)) ⟨g, i * 2, none⟩ (l.length + 1 - i) (cap - i) (by simp [Act.eval, Act.put]) (by simp [Act.eval, Act.put]) cur Hg.out (rows.drop i).flatten (by rw [HX.out]; simp only [Nat.min_def]; split <;> omega) (Hng.out rfl) (by rw [HX.out, Hcs.out]; omega) H1X.out ?_; intro w1 n1 HG1 hgr1 hsz1)
    obtain ⟨cur1, hcur1⟩ : ∃ cur1, cur1 = splice cur ((i + 1) * 2) (rows.drop i).flatten := ⟨_, rfl⟩
    have hl1 : cur1.length = cur.length := by rw [hcur1]; exact splice_len (by rw [HX.out, Hcs.out]; omega)
    rw [← hcur1] at HG1
    have Hcur1 := Lib.hid hcur1
    have Hl1 := Lib.hid hl1
    clear hcur1 hl1
    go_wp2_with ((with_reducible refine (show wpList _ _ _ (⟨some 82, _, _, _, _, _⟩ :: _) _ _ from ?_)); refine wpList_copy_z slFactS rfl (.tmp 80) (.tmp 81) rfl g (i * 2) (l.length + 1 - i) (cap - i) ⟨vb, 0, none⟩ 1 1 rfl rfl cur1 HG1.out c (by rw [Hc.out]; simp only [Nat.min_def]; split <;> omega) (Hnv.out (hgr1.block vb hvw (fun e => hne (by cases e; rfl)))) (by rw [Hc.out, Hl1.out, Hcs.out]; omega) H1c.out ?_; intro w2 n2 HG2 hgr2 hsz2)
    have hkeep : ∀ k, k < w.heap.size → (Value.slice (some ⟨g, 0, none⟩) l.length cap).ownBlock ≠ some k → w2.heap[k]? = w.heap[k]? := fun k hk hne2 => (hgr2.block k (by have := hgr1.size; exact Nat.lt_of_lt_of_le hk this) (fun e => hne2 e.symm)).trans (hgr1.block k hk (fun e => hne2 e.symm))
    have hfin := gr_ins (w' := w2) (i := i) (cur := splice cur1 (i * 2) c) good_fact ha hl hfr hx Hc.out hfx hd (Nat.le_of_lt hi) HG2.out (by rw [splice_len (by rw [Hc.out, Hl1.out, Hcs.out]; omega), Hl1.out, Hcs.out]) hroom (by unfold maxLen; omega)
      (by have := shift_cells (sz := 2) hl Hrl.out Hc.out hi Hcur.out (by rw [Hcs.out]; omega); rw [Hcur1.out]; simpa using this) hkeep (.inl rfl) hBg
    obtain ⟨f', hf', _⟩ := hfin
    have hbf : Below B w w2 := below_of_grown (row := some g) (grownBy_trans (a := w) (b := w1) ⟨hgr1.os, hgr1.tape, hgr1.output, hgr1.size, hgr1.block⟩ hgr2) hB fun k hk => by cases hk; exact hBg
    go_wp2
    go_ret
    first | exact ⟨_, _, rfl, hf', hbf⟩ | exact ⟨_, rfl, ⟨_, hf'⟩, hbf⟩
  · have hr1 : (cap : Int) < (l.length : Int) + 1 := by omega
    go_enter Tryz.func193, Tryz.ntmps193
    have hil1 : (i : Int) ≤ (l.length : Int) + 1 := by omega
    have hil2 : (i : Int) + 1 ≤ (l.length : Int) + 1 := by omega
    have hk1 : i + (l.length + 1 - i) = l.length + 1 := by omega
    have Hk1 := Lib.hid hk1
    clear hk1
    go_wp2_with (first
      | (at_builtin; refine wpList_append_zeros slFactS (tn := 3) (kn := .i64) Tryz.underlying3 rfl _ _ rfl g i cap (l.length + 1 - i) _ rfl rfl (by omega) cur Hg.out (by rw [Hcs.out]; omega) (by omega) (by omega) (by unfold maxLen; omega) (by omega) ?_; intro G cap1 w1 cur1 HGs HG1 Ht1 Hl1 hc1 hc1m hgr1 hsz1; rw [Hk1.out] at hc1; rw [Hk1.out]; have hG1 : ¬ (cap1 = i) := (by omega); have hG2 : ¬ (cap1 = i + 1) := (by omega))
      | ((with_reducible refine (show wpList _ _ _ (⟨some 45, _, _, _, _, _⟩ :: _) _ _ from ?_)); refine wpList_copy_z slFactS rfl (.tmp 43) (.tmp 44) rfl G (i * 2) (l.length + 1 - i) (cap1 - i) ⟨vb, 0, none⟩ 1 1 rfl rfl cur1 HG1.out c (by rw [Hc.out]; simp only [Nat.min_def]; split <;> omega) (Hnv.out (hgr1.block vb hvw (by simp))) (by rw [Hc.out, Hl1.out]; omega) H1c.out ?_; intro w2 n2 HG2 hgr2 hsz2))
    obtain ⟨cur2, hcur2⟩ : ∃ cur2, cur2 = splice cur1 (i * 2) c := ⟨_, rfl⟩
    have hl2 : cur2.length = cur1.length := by rw [hcur2]; exact splice_len (by rw [Hc.out, Hl1.out]; omega)
    rw [← hcur2] at HG2
    have Hcur2 := Lib.hid hcur2
    have Hl2 := Lib.hid hl2
    have hgG : g ≠ G := by have := HGs.out; omega
    have hg2 : w2.heap[g]? = w.heap[g]? := (hgr2.block g (Nat.lt_of_lt_of_le hgw hgr1.size) (fun e => hgG (by cases e; rfl))).trans (hgr1.block g hgw (by simp))
    have Hg2 := Lib.hid hg2
    clear hcur2 hl2 hg2
    go_region_law (refine step_copy_z slFactS rfl (.tmp 50) (.tmp 53) rfl G ((i + 1) * 2) (l.length + 1 - (i + 1)) (cap1 - (i + 1)) ⟨g, i * 2, none⟩ (l.length - i) (cap - i) (by simp [Act.eval, Act.put]) (by simp [Act.eval, Act.put]) cur2 HG2.out (rows.drop i).flatten (by rw [HX.out]; simp only [Nat.min_def]; split <;> omega) (Hng.out Hg2.out) (by rw [HX.out, Hl2.out, Hl1.out]; omega) H1X.out ?_; intro w3 n3 HG3 hgr3 hsz3)
    have hkeep : ∀ k, k < w.heap.size → w3.heap[k]? = w.heap[k]? := fun k hk => by
      have hkG : some k ≠ some G := fun e => by cases e; have := HGs.out; omega
      exact ((hgr3.block k (Nat.lt_of_lt_of_le hk (Nat.le_trans hgr1.size hgr2.size)) hkG).trans (hgr2.block k (Nat.lt_of_lt_of_le hk hgr1.size) hkG)).trans (hgr1.block k hk (by simp))
    have hfin := gr_ins (w' := w3) (i := i) (cur := splice cur2 ((i + 1) * 2) (rows.drop i).flatten) good_fact ha hl hfr hx Hc.out hfx hd (Nat.le_of_lt hi) HG3.out (by rw [splice_len (by rw [HX.out, Hl2.out, Hl1.out]; omega), Hl2.out, Hl1.out]) hc1 (by unfold maxLen; omega)
      (by have := grow_cells (sz := 2) (cur := cur1) hl Hrl.out Hc.out hi (by rw [Ht1.out, ← flat_take hl (by rw [Hrl.out]; omega), ← Hcur.out, List.take_take, Nat.min_eq_left (by omega)]) (by rw [Hl1.out]; omega); rw [Hcur2.out]; simpa using this) (fun k hk _ => hkeep k hk) (.inr (Nat.le_of_eq HGs.out.symm)) (Nat.le_trans hB (Nat.le_of_eq HGs.out.symm))
    obtain ⟨f', hf', _⟩ := hfin
    have hbf : Below B w w3 := ⟨hgr3.os.trans (hgr2.os.trans hgr1.os), hgr3.tape.trans (hgr2.tape.trans hgr1.tape), hgr3.output.trans (hgr2.output.trans hgr1.output), Nat.le_trans hgr1.size (Nat.le_trans hgr2.size hgr3.size), fun k hk => hkeep k (by omega)⟩
    go_wp2
    go_ret
    first | exact ⟨_, _, rfl, hf', hbf⟩ | exact ⟨_, rfl, ⟨_, hf'⟩, hbf⟩
theorem insertFact_any (B : Nat) (v : Value) (l : List FactD) (f : List Nat) (x : FactD) (c : List Value) (fx : List Nat) (vb i : Nat) (w : World) (h : grR 79 2 factR B w v l f) (hx : factR w c x fx) (hc : c.length = 2) (hfx : Fresh B fx) (hd : ∀ g ∈ fx, g ∉ f)
    (hvb : w.heap[vb]? = some (.cells c.toArray 79 (0, 0))) (hvf : vb ∉ f) (hi : i ≤ l.length) (hn : l.length ≤ 1048576) (h1c : ∀ u ∈ c, u.oneCell' = true) (hB : B ≤ w.heap.size) :
    Calls Tryz.prog 193 #[v, .int .i64 i, .slice (some ⟨vb, 0, none⟩) 1 1] w fun e w' => ∃ v' f', e = .returned v' ∧ grR 79 2 factR B w' v' (l.take i ++ x :: l.drop i) f' ∧ Below B w w' := by
  by_cases e : i = l.length
  · subst e
    rw [List.take_length, List.drop_length]
    exact insertFactEnd_any B v l f x c fx vb w h hx hc hfx hd hvb hn h1c hB
  · exact insertFactMid_any B v l f x c fx vb i w h hx hc hfx hd hvb hvf (by omega) hn h1c hB
end Go.Proofs.YtapapnaljjnhnaaGreatDoor
