/- ParseFact of the reference: it returns what 'FactIs' says. Condition: the text is no longer than 2^20. -/
import Derived.Test.YtojjojcmemifhaaGreatDoorCallS
import Derived.Test.YtojjojcmemifhaaGreatDoorTwo
import Derived.Test.YtojjojcmemifhaaGreatDoorMC
import Derived.Deep.RegionLaw
namespace Go.Proofs.YtojjojcmemifhaaGreatDoor
open Go.RowKit
set_option linter.unusedVariables false
set_option linter.unusedSimpArgs false
/-- What parsing a fact ends in. -/
def PfEnd (s : List Int) (t : List UInt8) (w : World) (e : Ending) (w' : World) : Prop :=
  ∃ (x : FactD) (k : Bool) (vi : Value) (fi : List Nat), e = .returned (.tuple #[.agg #[.int .i64 x.rel, vi], .bool k]) ∧ FactIs s t x k ∧ ints w' vi x.vals fi ∧ Fresh w.heap.size fi ∧ Below w.heap.size w w'
theorem PfEnd.no {s : List Int} {t : List UInt8} {w : World} {e : Ending} {w' : World} (he : e = .returned (.tuple #[.agg #[.int .i64 0, .slice none 0 0], .bool false])) (h : ∀ n, factB s n = true → factFS n ≠ t) (hb : Below w.heap.size w w') : PfEnd s t w e w' :=
  ⟨⟨0, []⟩, false, _, [], he, .inr ⟨h, rfl, rfl⟩, slR.nilv _ _ _ _, Fresh.nil _, hb⟩
theorem PfEnd.yes {s : List Int} {t : List UInt8} {w : World} {e : Ending} {w' : World} (x : FactD) (vi : Value) (fi : List Nat) (he : e = .returned (.tuple #[.agg #[.int .i64 x.rel, vi], .bool true])) (h : factB s x = true) (h3 : factFS x = t) (hi : ints w' vi x.vals fi) (hf : Fresh w.heap.size fi) (hb : Below w.heap.size w w') : PfEnd s t w e w' :=
  ⟨x, true, vi, fi, he, .inl ⟨h, h3, rfl⟩, hi, hf, hb⟩
theorem FactIs.small {s : List Int} {t : List UInt8} {x : FactD} {k : Bool} (h : FactIs s t x k) (ht : t.length ≤ 1048576) : x.vals.length ≤ 3 := by
  rcases h with ⟨h2, _, _⟩ | ⟨_, rfl, _⟩
  · have := inR_true (factFB_parts (fact_fmt h2)).2.1; omega
  · simp
theorem load_fact {w : World} {g : Nat} {a b : Value} (h : Two w g a b) : (loadVar 83 ⟨g, 0, none⟩).run Tryz.prog w = .ok (.agg #[a, b]) w := load2 h Tryz.underlying83 rfl (by kernel_rfl)
theorem load_fact2 {w : World} {g : Nat} {a b : Value} (h : Two w g a b) (a' b' : Value) : (loadVar 83 ⟨g, 0, none⟩).run Tryz.prog ((w.setCell ⟨g, 0, none⟩ a').setCell ⟨g, 1, none⟩ b') = .ok (.agg #[a', b']) ((w.setCell ⟨g, 0, none⟩ a').setCell ⟨g, 1, none⟩ b') := load_fact (h.set a' b')
theorem SX.of_grown {w w' : World} {o : Option Nat} (h : w.grownBy w' o) : SX o.toList w w' := ⟨h.size, fun j hj hn => h.block j hj (by intro e; subst e; simp at hn)⟩
theorem own_not {o : Option Nat} {B g : Nat} (h : ∀ j, o = some j → B ≤ j) (hg : g < B) : g ∉ o.toList := by
  intro hm
  cases o with
  | none => simp at hm
  | some j => simp at hm; subst hm; have := h _ rfl; omega
theorem gr_base {α : Type} {E : TypeId} {sz B : Nat} {R : Rd α} {w : World} {v : Value} {l : List α} {f : List Nat} (h : grR E sz R B w v l f) : ∀ j, v.ownBlock = some j → B ≤ j := by
  obtain ⟨_, _, _, _, ho, _, _⟩ := h
  exact fun j hj => (own_lt ho j hj).1
theorem arr_sz (l : List UInt8) (h : l.length ≤ 1048576) : (⟨l.toArray⟩ : ByteArray).size ≤ 1048576 := by simpa [ByteArray.size] using h
theorem fact_no1 {s : List Int} {t : List UInt8} {x : FactD} (h : (factB s x = false ∨ factFS x ≠ t) → ∀ n, factB s n = true → factFS n ≠ t) (hx : factB s x = false) : ∀ n, factB s n = true → factFS n ≠ t := h (.inl hx)
theorem fact_no2 {s : List Int} {t : List UInt8} {x : FactD} (h : (factB s x = false ∨ factFS x ≠ t) → ∀ n, factB s n = true → factFS n ≠ t) (hx : factFS x ≠ t) : ∀ n, factB s n = true → factFS n ≠ t := h (.inr hx)
set_option maxRecDepth 100000 in
set_option maxHeartbeats 6400000 in
theorem specParseFact_any (vs : Value) (s : List Int) (fs : List Nat) (t : ByteArray) (w : World) (hs : ints w vs s fs) (ht : t.size ≤ 1048576) :
    Calls Tryz.prog 65 #[vs, .string t] w (PfEnd s t.data.toList w) := by
  have htl : t.data.toList.length ≤ 1048576 := by simpa using ht
  have hcl := callS_len t.data.toList
  have hb0 : Below w.heap.size w (w.alloc (.cells #[.int .i64 0, .slice none 0 0] 83)) := ba (Below.refl _ _)
  have h40 : Two (w.alloc (.cells #[.int .i64 0, .slice none 0 0] 83)) w.heap.size (.int .i64 0) (.slice none 0 0) := Two.new _ _ _ _
  obtain ⟨N, L, hNL⟩ : ∃ N L, callS t.data.toList = (N, L) := ⟨_, _, rfl⟩
  have hq : Calls Tryz.prog 152 #[.string t] (w.alloc (.cells #[.int .i64 0, .slice none 0 0] 83)) (fun e w' => ∃ (v : Value) (f : List Nat), e = .returned (.tuple #[.string ⟨N.toArray⟩, v]) ∧ slR 9 1 strR w' v L f ∧ Below (w.alloc (.cells #[.int .i64 0, .slice none 0 0] 83)).heap.size (w.alloc (.cells #[.int .i64 0, .slice none 0 0] 83)) w') := by
    have h := l2Call_any t (w.alloc (.cells #[.int .i64 0, .slice none 0 0] 83)) ht
    unfold CallEnd at h
    rw [hNL] at h
    exact h
  rw [hNL] at hcl
  obtain ⟨hc1, hc2, hc3⟩ := hcl
  simp only at hc1 hc2 hc3
  have HNz := Lib.hid (arr_sz N (by omega))
  have HLp := Lib.hid (show ∀ p ∈ L, p.length ≤ 1048576 from fun p hp => by have := hc3 p hp; omega)
  have HFO := Lib.hid (show fOf t.data.toList = ⟨relV N, L.map numV⟩ by unfold fOf; rw [hNL])
  have hLn : L.length ≤ 1048577 := by omega
  clear hNL hc1 hc2 hc3 htl
  go_enter Tryz.func65, Tryz.ntmps65
  go_wp2_with fail
  refine hq.mono ?_
  rintro e w1 ⟨vp, fp, rfl, hp, hb1⟩
  clear hq
  obtain ⟨ap, cp, rfl⟩ := slR.form hp
  have B1 := bt hb0 hb1
  have H41 := Lib.hid (h40.below hb1)
  clear h40
  go_wp2_with fail
  refine (l2Rel_any ⟨N.toArray⟩ _ HNz.out).mono ?_
  rintro e w2 ⟨rfl, hb2⟩
  have hrd : (⟨N.toArray⟩ : ByteArray).data.toList = N := rfl
  rw [hrd]
  clear hrd
  obtain ⟨r, hr⟩ : ∃ r, relV N = r := ⟨_, rfl⟩
  have HR := Lib.hid hr
  rw [hr]
  clear hr
  have B2 := bt B1 hb2
  have H42 := Lib.hid (H41.out.below hb2)
  have hp2 := slR.below' good_str hp hb2
  have hplt := slR.lt good_str hp2
  clear hp
  have F0 : Two (w2.alloc (.cells #[.int .i64 r, .slice none 0 0] 83)) w2.heap.size (.int .i64 r) (.slice none 0 0) := Two.new _ _ _ _
  have Hw2 : w.heap.size < w2.heap.size := H42.out.lt
  have hsz0 : w2.heap.size + 1 ≤ (w2.alloc (.cells #[.int .i64 r, .slice none 0 0] 83)).heap.size := by simp only [World.alloc, Array.size_push]; omega
  have Hb0 := Lib.hid (show Below w2.heap.size w2 (w2.alloc (.cells #[.int .i64 r, .slice none 0 0] 83)) from ba (Below.refl _ _))
  go_wp2
  go_loopw [9] (fun i wr => ∃ (k : Nat) (vi : Value) (lo : List Int) (fo : List Nat), i = .int .i64 (k : Int) ∧ k ≤ L.length ∧ Hid (lo = (L.take k).map numV) ∧ Two wr w2.heap.size (.int .i64 r) vi ∧ grR 3 1 intR (w2.heap.size + 1) wr vi lo fo ∧ Below w2.heap.size w2 wr) (fun i _ => L.length - (intOf i).toNat)
  case atStart => exact ⟨0, _, [], [], rfl, Nat.zero_le _, Lib.hid (by simp), F0, grR.nilv intR, Hb0.out⟩
  case round =>
    obtain ⟨k, vi, lo, fo, rfl, hk, Hlo, Fr, hgr, Br⟩ := hrel
    have hlb : lo.length ≤ 1048577 := by rw [Hlo.out]; simp; omega
    obtain ⟨av, cv, rfl⟩ := slR.form hgr.sl
    have hgw : w2.heap.size < wr.heap.size := Fr.lt
    by_cases hlt : k < L.length
    · obtain ⟨gp, c, fk, hgp, ⟨rfl, rfl⟩, _, hc, _, _, _⟩ := slR.at (slR.below' good_str hp2 Br) k hlt
      have pk : wr.cell? ⟨gp, k, none⟩ = some (.string ⟨L[k].toArray⟩) := by have := hc 0 _ rfl; simpa using this
      clear hc
      subst hgp
      have hkl : (k : Int) < (L.length : Int) := by omega
      have hk0 : (0 : Int) ≤ (k : Int) := by omega
      have Hsz := Lib.hid (arr_sz _ (HLp.out L[k] (List.getElem_mem hlt)))
      have HS := Lib.hid (show lo ++ [numV L[k]] = (L.take (k + 1)).map numV by rw [Hlo.out, List.take_succ_eq_append_getElem hlt, List.map_append]; rfl)
      have hnb := numV_bd L[k]
      generalize L[k] = x at pk Hsz HS hnb
      have hI : I64 (numV x) := ⟨by omega, by omega⟩
      have Fr2 := Fr
      obtain ⟨⟨f0, f1⟩, y0, y1⟩ := Fr2
      clear f0 y0
      go_wp2_with fail
      go_region_law ((first
          | (refine step_gr slInt good_int rfl _ _ rfl hgr3 hcb (by rfl) #[.int .i64 (numV x)] (numV x) [] ⟨rfl, rfl, hI⟩ rfl (Fresh.nil _) (by simp) (by rfl) (by simp [Value.oneCell']) (by omega) (by unfold maxLen; omega) ?_
             intro g4 cap4 w4 fo4 hgr4 hb4 hg4
             rw [cutW_size hle] at hgr4
             have hown : ∀ j, (Value.slice av lo.length cv).ownBlock = some j → w2.heap.size + 1 ≤ j := gr_base hgr
             have s34 := SX.of_grown hg4
             have hno : w2.heap.size ∉ (Value.slice av lo.length cv).ownBlock.toList := own_not hown (by omega)
             have F4 := F3.sx s34 hno
             have B4 : Below w2.heap.size w2 w4 := (bt Br hb3).trans (below_of_grown hg4 (bt Br hb3).size fun j hj => Nat.le_of_succ_le (hown j hj))
             have F4' := F4
             obtain ⟨⟨x0, x1⟩, z0, z1⟩ := F4')
          | (go_simp
             go_wp2_with (go_at_call 154
                          refine (l2Num_any ⟨x.toArray⟩ _ Hsz.out).mono ?_
                          rintro e w3 ⟨rfl, hb3'⟩
                          have hb3 : Below wr.heap.size wr w3 := bt (by (repeat (first | exact Below.refl _ _ | refine bdr ?_ | refine ba ?_))) hb3'
                          have d1 : w3.cell? ⟨w2.heap.size, 1, none⟩ = some (.slice av lo.length cv) := cell_below f1 hb3
                          have d1' : (w3.alloc (.cells #[.int .i64 (numV x)] 3)).cell? ⟨w2.heap.size, 1, none⟩ = some (.slice av lo.length cv) := cell_al d1 _
                          have hgr3 := hgr.below' good_int hb3
                          have F3 := Fr.below hb3
                          have hle : w2.heap.size + 1 ≤ w3.heap.size := Nat.le_trans hgw hb3.size
                          have hcb := cutW_below hle
                          rw [← cutW_size hle] at hgr3))))
      all_goals
        have Hgr5 := Lib.hid (hgr4.frame good_int fun j hj => Below.heap_setCell w4 ⟨w2.heap.size, 1, none⟩ (.slice (some ⟨g4, 0, none⟩) (lo.length + 1) cap4) j (fun e => by
          have h1 := hgr4.fresh.2 j hj
          simp only [] at e
          omega))
        have HF5 := Lib.hid (F4.set1 (.slice (some ⟨g4, 0, none⟩) (lo.length + 1) cap4))
        have HB5 := Lib.hid (bs (u := .slice (some ⟨g4, 0, none⟩) (lo.length + 1) cap4) B4 (p := ⟨w2.heap.size, 1, none⟩) (Nat.le_refl _))
        clear hgr4 F4 F3 hgr3 hcb s34
        go_wp2
        go_roundw
        case rel => exact ⟨k + 1, _, lo ++ [numV x], fo4, by go_num, by omega, HS, HF5.out, Hgr5.out, HB5.out⟩
        case measure => simp [intOf]; omega
    · have HFO2 := Lib.hid (show fOf t.data.toList = ⟨r, lo⟩ by rw [HFO.out, Hlo.out, List.take_of_length_le (by omega), HR.out])
      have hin := hgr.sl
      have Hnot := Lib.hid (show w.heap.size ∉ fo from fun hm => by
        have h1 := hgr.fresh.2 _ hm
        omega)
      have Hfr := Lib.hid (hgr.fresh.mono (show w.heap.size ≤ w2.heap.size + 1 by omega))
      have H4r := Lib.hid (H42.out.below Br)
      have Bw := bt B2 Br
      have hkl : ¬ (k : Int) < (L.length : Int) := by omega
      have Fr2 := Fr
      obtain ⟨⟨f0, f1⟩, y0, y1⟩ := Fr2
      go_wp2_with fail
      cases hmb : factB s ⟨r, lo⟩ with
      | false =>
        have HN := Lib.hid (fact_no1 (s := s) (by rw [← HFO2.out]; exact fact_no) hmb)
        refine (retBB (specIsFact_any vs s fs ⟨r, lo⟩ _ _ _ (hs.below' Bw) hin) hmb).mono ?_
        rintro e wy ⟨rfl, hby⟩
        clear hmb
        have H4e := Lib.hid (H4r.out.below hby)
        have H4y := H4e.out
        obtain ⟨⟨r0, r1⟩, q0, q1⟩ := H4y
        go_wp2
        (try simp only [Exit.inBlock, Exit.then])
        refine bodyPost_ret (v := .tuple #[.agg #[.int .i64 0, .slice none 0 0], .bool false]) ?_ rfl ?_
        · rw [results_cell_tmp rfl]
          simp [asAddr, Result.andThen, load_fact2 H4e.out]
        · exact PfEnd.no rfl HN.out (below_two2 (bt Bw hby) (Nat.le_refl _) _ _)
      | true =>
        have Hmb := Lib.hid hmb
        refine (retBB (specIsFact_any vs s fs ⟨r, lo⟩ _ _ _ (hs.below' Bw) hin) hmb).mono ?_
        rintro e wy ⟨rfl, hby⟩
        clear hmb
        have Fy := Fr.below hby
        have Fy2 := Fy
        obtain ⟨⟨k0, k1⟩, m0, m1⟩ := Fy2
        go_wp2_with fail
        refine (specFormatFact_any ⟨r, lo⟩ _ _ _ (ints.below' hin hby)).mono ?_
        rintro e we ⟨rfl, hbe⟩
        have hbye := bt hby hbe
        have H4e := Lib.hid (H4r.out.below hbye)
        by_cases heq : factFS ⟨r, lo⟩ = t.data.toList
        · have hse := str_eq heq
          have Heq := Lib.hid heq
          clear heq
          rw [hse]
          clear hse
          have Fz := Fy.below hbe
          obtain ⟨⟨x0', x1'⟩, z0, z1⟩ := Fz
          have H4y := H4e.out
          obtain ⟨⟨r0, r1⟩, q0, q1⟩ := H4y
          go_wp2
          (try simp only [Exit.inBlock, Exit.then])
          refine bodyPost_ret (v := .tuple #[.agg #[.int .i64 (⟨r, lo⟩ : FactD).rel, (.slice av lo.length cv)], .bool true]) ?_ rfl ?_
          · rw [results_cell_tmp rfl]
            simp [asAddr, Result.andThen, load_fact2 H4e.out]
          · exact PfEnd.yes ⟨r, lo⟩ _ _ rfl Hmb.out Heq.out (ints_two2 (ints.below' hin hbye) Hnot.out _ _) Hfr.out (below_two2 (bt Bw hbye) (Nat.le_refl _) _ _)
        · have hse := str_ne heq
          have HN := Lib.hid (fact_no2 (s := s) (by rw [← HFO2.out]; exact fact_no) heq)
          clear heq
          have H4y := H4e.out
          obtain ⟨⟨r0, r1⟩, q0, q1⟩ := H4y
          go_wp2
          (try simp only [Exit.inBlock, Exit.then])
          refine bodyPost_ret (v := .tuple #[.agg #[.int .i64 0, .slice none 0 0], .bool false]) ?_ rfl ?_
          · rw [results_cell_tmp rfl]
            simp [asAddr, Result.andThen, load_fact2 H4e.out]
          · exact PfEnd.no rfl HN.out (below_two2 (bt Bw hbye) (Nat.le_refl _) _ _)
end Go.Proofs.YtojjojcmemifhaaGreatDoor
