/- respond and RespondTo of the program. Conditions: sizes up to 2^20. -/
import Derived.Test.YtjjkfhjkfoikbaaRespL
import Derived.Test.YtjjkfhjkfoikbaaMatA
import Derived.IntWalk
namespace Go.Proofs.Ytjjkfhjkfoikbaa
open Go.RowKit
set_option linter.unusedVariables false
set_option linter.unusedSimpArgs false
/-- append of one element, with what is told of the blocks. -/
theorem wpList_gr2 {α : Type} {E : TypeId} {sz : Nat} {R : Rd α} {w : World} {v : Value} {l : List α} {f : List Nat} {P : Program} {T : TypeId} {z : Value} {bytes : Nat} (hT : SlT P T E z sz bytes) (hR : Good R) {w0 : World} {ops : Array Oper} {rest : List Oper} {o : Oper} {a : Act} {Q : Exit → Act → World → Prop}
    (hgd : o.guard = none) (s x : Operand) (ho : o.op = .call { callee := .builtin .append, args := #[s, x], argTypes := #[T, T] })
    (h : grR E sz R w0.heap.size w v l f) (hbel : Below w0.heap.size w0 w) (hs : a.eval s = v)
    (cs : Array Value) (d : α) (fx : List Nat) (hd : R w cs.toList d fx) (hcs : cs.size = sz) (hfx : Fresh w0.heap.size fx) (hdis : ∀ g ∈ fx, g ∉ f)
    (H : Nat) (hH : w.heap.size = H) (hx : a.eval x = .slice (some ⟨H, 0, none⟩) 1 1) (h1 : ∀ u ∈ cs.toList, u.oneCell' = true) (hn : (l.length + 1) * bytes ≤ 140737488355328) (hm : l.length + 1 ≤ maxLen)
    (k : ∀ g cap w' f', grR E sz R w0.heap.size w' (.slice (some ⟨g, 0, none⟩) (l.length + 1) cap) (l ++ [d]) f' → Below w0.heap.size w0 w' → w.grownBy w' v.ownBlock → Hid (v.ownBlock = some g ∨ w.heap.size ≤ g) → Hid (∀ j ∈ f', j ∈ f ∨ j ∈ fx ∨ w.heap.size ≤ j) → wpList P ops Q rest (a.put o.dst (.slice (some ⟨g, 0, none⟩) (l.length + 1) cap)) w') :
    wpList P ops Q (o :: rest) a (w.alloc (.cells cs E)) := by
  subst hH
  obtain ⟨i, hi, hz, hsz, hby⟩ := hT.inf
  obtain ⟨rows, fs, ha, hl, hown, rfl, hfr⟩ := h
  have hown1 : (w.alloc (.cells cs E)).ownsRow w0.heap.size E sz v l.length rows.flatten := hown.alloc _
  have hw1 : Below w.heap.size w (w.alloc (.cells cs E)) := ba (Below.refl _ _)
  have hlt := own_lt hown
  refine wpList_append_lies _ hgd s x T ho w0.heap.size E i z sz bytes hT.und hi hz hsz hby hT.zs hT.pos v l.length rows.flatten hs hown1 ⟨w.heap.size, 0, none⟩ 1 1 cs.toList hx (by simp [hcs])
    (World.news_of_block (heap_alloc_new w _)) h1 (by omega) hm hn (by simp; have := hbel.size; omega) (w.heap.size + 1) (by simp) ?_
  intro g cap w' h2 h3 h4 h5
  obtain ⟨f', hf', hsub⟩ := gr_mk hR ha hl hown hfr hd (by simp [hcs]) hfx hdis hw1 h3 h2 h4 (by omega)
  refine k g cap w' f' hf' (hbel.trans (below_of_grown (grownBy_trans (World.grownBy_alloc _ _ _) h3) hbel.size fun k hk => (hlt k hk).1)) (grownBy_trans (World.grownBy_alloc _ _ _) h3) (show _ ∨ _ from ?_) (show ∀ j ∈ f', _ from fun j hj => ?_)
  · rcases h4 with h | h
    · exact .inl h
    · exact .inr (by omega)
  · rcases hsub j hj with h | h | h
    · exact .inl h
    · exact .inr (.inl h)
    · exact .inr (.inr (by omega))
theorem max_nat (c : Int) : (if 0 < c then c else 0) = (c.toNat : Int) := by
  split <;> omega
set_option maxRecDepth 100000 in
set_option maxHeartbeats 6400000 in
theorem respond_any (l : List MethD) (fa : List FactD) (q : Nat) (vals : List Int) (c : Int) (vl vf vx : Value) (fl ff fx : List Nat) (w : World) (hl : meths w vl l fl) (hf : facts w vf fa ff) (hx : ints w vx vals fx) (hq : q < l.length) (H : ∀ y ∈ fa, Fit l[q] vals y) (hn : fa.length ≤ 1048576) (hln : ∀ y ∈ fa, y.vals.length ≤ 1048576)
    (x : List FactD) (hxe : fa.filter (fitB l[q] vals) = x) (L : Nat) (hL : l[q].limit = (L : Int)) (hL9 : L ≤ 9) (hasc : AscC cmpFact x) (res : List FactD) (hres : (if L = 0 ∨ x.length ≤ L then x else respS x (c.toNat % x.length) L) = res) :
    Calls Try.prog 109 #[vl, vf, .agg #[.int .i64 q, vx], .int .i64 c] w fun e w' => ∃ v' f', e = .returned v' ∧ facts w' v' res f' ∧ Fresh w.heap.size f' ∧ Below w.heap.size w w' := by
  obtain ⟨pl, cl, rfl⟩ := slR.form hl
  obtain ⟨pf, cf, rfl⟩ := slR.form hf
  obtain ⟨px, cx, rfl⟩ := slR.form hx
  have hla := slR.le_max hl
  have hxn : x.length ≤ 1048576 := by rw [← hxe]; exact Nat.le_trans (List.length_filter_le _ _) hn
  have HH := Lib.hid H
  have Hln := Lib.hid hln
  have Hxe := Lib.hid hxe
  have Hasc := Lib.hid hasc
  have Hres := Lib.hid hres
  obtain ⟨W1, hW1⟩ : ∃ W1, W1 = w.alloc (.cells #[.int .i64 (q : Int), .slice px vals.length cx] 87) := ⟨_, rfl⟩
  have hb0 : Below w.heap.size w W1 := by rw [hW1]; exact ba (Below.refl _ _)
  have b0 : W1.cell? ⟨w.heap.size, 0, none⟩ = some (.int .i64 (q : Int)) := by rw [hW1]; exact cell_new w _ _ 0 _ rfl
  have b1 : W1.cell? ⟨w.heap.size, 1, none⟩ = some (.slice px vals.length cx) := by rw [hW1]; exact cell_new w _ _ 1 _ rfl
  have hl1 := hl.below' hb0
  have hf1 := hf.below' hb0
  have hx1 := hx.below' hb0
  obtain ⟨g, vi, fi, hg, _, _, m2, _, _, _⟩ := hl1.get q hq
  subst hg
  rw [hL] at m2
  have HW1 := Lib.hid hW1
  have hk0 : (0 : Int) ≤ (q : Int) := Int.natCast_nonneg _
  have hk1 : (q : Int) < (l.length : Int) := by omega
  clear H hln hxe hasc hL hW1 hres
  have hm := fun (W : World) (hb : Below W1.heap.size W1 W) => matches_any l fa q vals _ _ _ fl ff fx W (hl1.below' hb) (hf1.below' hb) (hx1.below' hb) hq HH.out hn Hln.out
  rw [Hxe.out] at hm
  have Hm := Lib.hid hm
  clear hm
  go_enter Try.func109, Try.ntmps109
  go_wp2_with fail
  rw [← HW1.out]
  refine (Hm.out W1 (Below.refl _ _)).mono ?_
  rintro e w2 ⟨v2, f2, rfl, hg2, hb2⟩
  have hbw := bt hb0 hb2
  have hfr2 := hg2.fresh.mono hb0.size
  obtain ⟨a2, c2, rfl⟩ := slR.form hg2.sl
  have e0 := cell_below b0 hb2
  have e1 := cell_below b1 hb2
  have e2 := cell_below m2 hb2
  have hsz2 := hbw.size
  by_cases hL0 : L = 0
  · subst hL0
    have hfin : facts w2 (.slice a2 x.length c2) res f2 := by rw [show res = x by rw [← Hres.out]; exact if_pos (.inl rfl)]; exact hg2.sl
    go_wp2
    go_ret
    first | exact ⟨.slice a2 x.length c2, f2, rfl, hfin, hfr2, hbw⟩ | exact ⟨.slice a2 x.length c2, rfl, f2, hfin, hfr2, hbw⟩
  · have hl0 : ((L : Int) == 0) = false := by simp; omega
    have hl1 : ¬ ((L : Int) = 0) := by omega
    by_cases hnl : x.length ≤ L
    · have hfin : facts w2 (.slice a2 x.length c2) res f2 := by rw [show res = x by rw [← Hres.out]; exact if_pos (.inr hnl)]; exact hg2.sl
      go_wp2
      go_ret
      first | exact ⟨.slice a2 x.length c2, f2, rfl, hfin, hfr2, hbw⟩ | exact ⟨.slice a2 x.length c2, rfl, f2, hfin, hfr2, hbw⟩
    · have hx0 : 0 < x.length := by omega
      have hc0 : c.toNat % x.length < x.length := Nat.mod_lt _ hx0
      have HS := Lib.hid (show res = respI x (c.toNat % x.length) L x.length by
        rw [← Hres.out, if_neg (by rintro (h | h) <;> omega)]; exact resp_eq Hasc.out hc0 (by omega))
      have hnl1 : (L : Int) < (x.length : Int) := by omega
      have hn0 : ¬ ((x.length : Int) = 0) := by omega
      obtain ⟨ch, hche⟩ : ∃ ch : Nat, ch = c.toNat := ⟨_, rfl⟩
      have hmx : (if 0 < c then c else 0) = (ch : Int) := by split <;> omega
      have hmx2 : max c 0 = (ch : Int) := by omega
      have hmx3 : max 0 c = (ch : Int) := by omega
      have hmd : ((ch : Int)) % (x.length : Int) = ((ch % x.length : Nat) : Int) := by simp
      rw [← hche] at hc0
      obtain ⟨k0, hk0e⟩ : ∃ k0, k0 = ch % x.length := ⟨_, rfl⟩
      have HS2 := Lib.hid (show res = respI x k0 L x.length by rw [HS.out, hk0e, hche])
      rw [← hk0e] at hmd hc0
      clear hk0e hche HS
      obtain ⟨rows, fs, ha, htwo, hown, hfe, hfr⟩ := hg2
      have hnd : (a2.elim [] (fun a => [a.block]) ++ fs.flatten).Nodup := by have := hfr.1; rw [hfe] at this; cases a2 <;> exact this
      have Hnd := Lib.hid (List.nodup_append.1 hnd).2.1
      have HfB := Lib.hid (show ∀ k ∈ fs.flatten, w.heap.size ≤ k from fun k hk => Nat.le_trans hb0.size (hfr.2 k (by rw [hfe, List.mem_append]; exact .inr hk)))
      have hlt2 := ha.lt good_fact
      have Hlt2 := Lib.hid hlt2
      have hsl : facts w2 (.slice a2 x.length c2) x f2 := ⟨rows, fs, _, ha, htwo, own_row hown, hfe⟩
      have hall := ha
      have Hall := Lib.hid hall
      have Htwo := Lib.hid htwo
      have hrow := own_row hown
      have Hrow := Lib.hid hrow
      have hch0 : (0 : Int) ≤ (ch : Int) := Int.natCast_nonneg _
      clear hnd hlt2 ha hall htwo hrow hown hfe hfr
      have hg0 := grR.lit (w := w2) (B := w.heap.size) (E := 38) (sz := 2) factR hbw.size (Nat.le_refl _)
      go_wp2
      simp only [hmd]
      clear hmd hmx hmx2 hmx3
      go_loopw [12, 13, 14, 42] (fun u s13 s14 i wr => ∃ (k gu cu : Nat) (lo : List FactD) (fo : List Nat), i = .int .i64 k ∧ k ≤ x.length ∧ u = .slice (some ⟨gu, 0, none⟩) lo.length cu ∧ w2.heap.size ≤ gu ∧ Hid (lo = respI x k0 L k) ∧ grR 38 2 factR w.heap.size wr u lo fo ∧ Hid (∀ j ∈ fo, w2.heap.size ≤ j ∨ ∃ t, t < k ∧ j ∈ fs.getD t []) ∧ Below w2.heap.size w2 wr) (fun _ _ _ i _ => x.length - (intOf i).toNat)
      case atStart => exact ⟨0, _, _, [], _, rfl, Nat.zero_le _, rfl, Nat.le_refl _, Lib.hid rfl, hg0, Lib.hid (fun j hj => .inl (by rw [List.mem_singleton.1 hj]; exact Nat.le_refl _)), ba (Below.refl _ _)⟩
      case round =>
        obtain ⟨k, gu, cu, lo, fo, rfl, hk, rfl, hgu, Hlo, hgr, Hfo, hbel⟩ := hrel
        have hbwr := bt hbw hbel
        have hll : lo.length ≤ k := by rw [Hlo.out]; exact respI_length _ _ _ _
        by_cases hlt : k < x.length
        · obtain ⟨ck, fk, hck, hfk, hRk⟩ := Hall.out.get k hlt
          obtain ⟨vk, rfl, ik, hvk⟩ := hRk
          obtain ⟨ak, qk, rfl⟩ := slR.form hvk
          obtain ⟨gx, hgx, hgx2, hcell, _⟩ := Hrow.out.at (by omega)
          subst hgx
          have hc0' : wr.cell? ⟨gx, k * 2, none⟩ = some (.int .i64 x[k].rel) := cell_below (hcell _ _ (flat_get Htwo.out k _ 0 _ hck rfl)) hbel
          have hc1' : wr.cell? ⟨gx, k * 2 + 1, none⟩ = some (.slice ak x[k].vals.length qk) := cell_below (hcell _ _ (flat_get Htwo.out k _ 1 _ hck rfl)) hbel
          have hkl : (k : Int) < (x.length : Int) := by omega
          have hk00 : (0 : Int) ≤ (k : Int) := Int.natCast_nonneg _
          have hvr := hvk.below' hbel
          have Hvk := Lib.hid hvk
          have Hfk := Lib.hid hfk
          clear hcell hck hvk hfk
          obtain ⟨r, hr⟩ : ∃ r, r = (k + x.length - k0) % x.length := ⟨_, rfl⟩
          have hmod : ((k : Int) - (k0 : Int) + (x.length : Int)) % (x.length : Int) = (r : Int) := by
            rw [hr, Int.natCast_emod]; congr 1; omega
          have hpos : (0 : Int) ≤ (k : Int) - (k0 : Int) + (x.length : Int) := by omega
          have Hr := Lib.hid hr
          clear hr
          have hdisj : ∀ j ∈ fk, j ∉ fo := fun j hj hm => by
            have hjf : j ∈ fs.flatten := List.mem_flatten.2 ⟨fk, List.mem_of_getElem? Hfk.out, hj⟩
            rcases Hfo.out j hm with h | ⟨t, ht, h⟩
            · have := Hlt2.out j hjf; omega
            · have hft : fs[t]? = some (fs.getD t []) := by
                cases hq : fs[t]? with
                | none => simp [List.getD, hq] at h
                | some y => simp [List.getD, hq]
              exact nodup_apart Hnd.out hft Hfk.out (by omega) hj h
          have Hdisj := Lib.hid hdisj
          have hfkF : Fresh w.heap.size fk := ⟨(List.pairwise_flatten.1 Hnd.out).1 fk (List.mem_of_getElem? Hfk.out), fun j hj => HfB.out j (List.mem_flatten.2 ⟨fk, List.mem_of_getElem? Hfk.out, hj⟩)⟩
          have hgetk : fs.getD k [] = fk := by simp [List.getD, Hfk.out]
          have Hgetk := Lib.hid hgetk
          clear hdisj hgetk
          have hba : Below wr.heap.size wr (wr.alloc (.cells #[.int .i64 x[k].rel, .slice ak x[k].vals.length qk] 38)) := ba (Below.refl _ _)
          have q0 : (wr.alloc (.cells #[.int .i64 x[k].rel, .slice ak x[k].vals.length qk] 38)).cell? ⟨wr.heap.size, 0, none⟩ = some (.int .i64 x[k].rel) := cell_new wr _ _ 0 _ rfl
          have q1 : (wr.alloc (.cells #[.int .i64 x[k].rel, .slice ak x[k].vals.length qk] 38)).cell? ⟨wr.heap.size, 1, none⟩ = some (.slice ak x[k].vals.length qk) := cell_new wr _ _ 1 _ rfl
          have hgr1 := hgr.below' good_fact hba
          have hbwr1 := bt hbwr hba
          have hvr1 := hvr.below' hba
          have hll1 : lo.length ≤ 1048576 := by omega
          cases hin : inWin x.length k0 L k with
          | false =>
            have hrL : ¬ ((r : Int) < (L : Int)) := by
              have h := hin; unfold inWin at h; rw [← Hr.out] at h; simp at h; omega
            have HN := Lib.hid (show lo = respI x k0 L (k + 1) by rw [respI_no hin]; exact Hlo.out)
            have HF2 := Lib.hid (show ∀ j ∈ fo, w2.heap.size ≤ j ∨ ∃ t, t < k + 1 ∧ j ∈ fs.getD t [] from fun j hj => (Hfo.out j hj).imp id fun ⟨t, ht, h⟩ => ⟨t, by omega, h⟩)
            have hbel1 := bt hbel hba
            clear hin
            go_wp2
            go_roundw
            case rel => exact ⟨k + 1, gu, cu, lo, fo, by go_num, by omega, rfl, hgu, HN, hgr1, HF2, hbel1⟩
            case measure => simp [intOf]; omega
          | true =>
            have hrL : (r : Int) < (L : Int) := by
              have h := hin; unfold inWin at h; rw [← Hr.out] at h; simp at h; omega
            have HN := Lib.hid (show lo ++ [x[k]] = respI x k0 L (k + 1) by rw [respI_yes hlt hin, ← Hlo.out])
            clear hin
            go_wp2_with (at_builtin; refine wpList_gr2 slFactS good_fact rfl _ _ rfl hgr1 hbwr1 rfl #[.int .i64 x[k].rel, .slice ak x[k].vals.length qk] x[k] fk ⟨_, rfl, ik, hvr1⟩ rfl hfkF Hdisj.out (wr.heap.size + 1) (by simp) rfl (by simp [Value.oneCell']) (by omega) (by unfold maxLen; omega) ?_; intro g3 cap3 w4 f3 hgr3 hb4 hgw4 Hat4 Hf4)
            have hbel4 : Below w2.heap.size w2 w4 := (bt hbel hba).trans (below_of_grown hgw4 (by have := hbel.size; have := hba.size; omega) fun j hj => by simp [Value.ownBlock] at hj; omega)
            have hgu4 : w2.heap.size ≤ g3 := by
              have h1 := hbel.size; have h2 := hba.size
              rcases Hat4.out with h | h
              · simp [Value.ownBlock] at h; omega
              · omega
            have HF3 := Lib.hid (show ∀ j ∈ f3, w2.heap.size ≤ j ∨ ∃ t, t < k + 1 ∧ j ∈ fs.getD t [] from fun j hj => by
              rcases Hf4.out j hj with h | h | h
              · exact (Hfo.out j h).imp id fun ⟨t, ht, h⟩ => ⟨t, by omega, h⟩
              · exact .inr ⟨k, by omega, by rw [Hgetk.out]; exact h⟩
              · have h1 := hbel.size; have h2 := hba.size; exact .inl (by omega))
            go_roundw
            case rel => exact ⟨k + 1, g3, cap3, lo ++ [x[k]], f3, by go_num, by omega, by simp, hgu4, HN, by simpa using hgr3, HF3, hbel4⟩
            case measure => simp [intOf]; omega
        · have hkl : k = x.length := by omega
          have HE := Lib.hid (show respI x k0 L x.length = lo by rw [Hlo.out, hkl])
          clear hkl
          have hfin : facts wr (.slice (some ⟨gu, 0, none⟩) lo.length cu) res fo := by rw [HS2.out, HE.out]; exact hgr.sl
          have hfr := hgr.fresh
          go_wp2
          go_ret
          first | exact ⟨.slice (some ⟨gu, 0, none⟩) lo.length cu, fo, rfl, hfin, hfr, hbwr⟩ | exact ⟨.slice (some ⟨gu, 0, none⟩) lo.length cu, rfl, fo, hfin, hfr, hbwr⟩
end Go.Proofs.Ytjjkfhjkfoikbaa
