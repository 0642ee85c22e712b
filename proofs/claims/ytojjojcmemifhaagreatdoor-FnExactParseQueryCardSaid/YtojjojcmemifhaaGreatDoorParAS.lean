/- l3ParseTerm and l3ParseAtom of the reference. Condition: the text is no longer than 2^20. -/
import Derived.Test.YtojjojcmemifhaaGreatDoorParFS
import Derived.Test.YtojjojcmemifhaaGreatDoorParQL
namespace Go.Proofs.YtojjojcmemifhaaGreatDoor
open Go.RowKit
set_option linter.unusedVariables false
set_option linter.unusedSimpArgs false
set_option maxRecDepth 100000 in
set_option maxHeartbeats 1600000 in
theorem l3ParseTerm_any (s : ByteArray) (w : World) (hs : s.size ≤ 1048576) :
    Calls Tryz.prog 125 #[.string s] w fun e w' => e = .returned (.int .i64 (termV s.data.toList)) ∧ Below w.heap.size w w' := by
  have hsz : s.data.toList.length = s.size := by simp
  have hx : (1 < s.size ∧ ∃ b r, s.data.toList = 120 :: b :: r) ∨ ((∀ b r, s.data.toList ≠ 120 :: b :: r)) := by
    cases hl : s.data.toList with
    | nil => exact .inr (by intro b r h; cases h)
    | cons a t =>
      cases t with
      | nil => exact .inr (by intro b r h; cases h)
      | cons b r =>
        by_cases h : a = 120
        · subst h; exact .inl ⟨by rw [hl] at hsz; simp at hsz; omega, b, r, rfl⟩
        · exact .inr (by intro b' r' e; cases e; exact h rfl)
  rcases hx with ⟨h1, b, r, hl⟩ | hno
  · have hpos : 0 < s.size := by omega
    have h0 : s[0]'hpos = 120 := by rw [list_at s 0 hpos _ hl (by simp)]; rfl
    have hb : ((s[0]'hpos).toNat : Int) = 120 := by rw [h0]; rfl
    have ht : (s.extract 1 s.size).data.toList = b :: r := by
      have h1 : (s.extract 1 s.size).data.toList = (s.data.toList.drop 1).take (s.size - 1) := by simp
      rw [h1, hl]
      rw [hl] at hsz
      simp only [List.drop_succ_cons, List.drop_zero]
      exact List.take_of_length_le (by simp at hsz ⊢; omega)
    have hq := fun w => l2Num_any (s.extract 1 s.size) w (by rw [ByteArray.size_extract]; omega)
    rw [ht] at hq
    have hnb := numV_bd (b :: r)
    have HT := Lib.hid (show termV s.data.toList = if inR (numV (b :: r)) 0 7 then 10 + numV (b :: r) else -1 by rw [hl]; rfl)
    obtain ⟨v, hv⟩ : ∃ v, numV (b :: r) = v := ⟨_, rfl⟩
    rw [hv] at hq HT hnb
    have h1i : (1 : Int) < (s.size : Int) := by omega
    have h1s : (1 : Int) ≤ (s.size : Int) := by omega
    have hs0 : (0 : Int) < (s.size : Int) := by omega
    clear hv ht hl h0 hsz
    cases hin : inR v 0 7 with
    | true =>
      have HF := Lib.hid (show termV s.data.toList = 10 + v by rw [HT.out, if_pos hin])
      have hr := fun x => retB' (f98_any v 0 7 x) hin
      clear hin
      go_enter Tryz.func125, Tryz.ntmps125
      go_wp2_with fail
      refine (hq _).mono ?_
      rintro e w1 ⟨rfl, hb1⟩
      go_wp2_with fail
      refine (hr _).mono ?_
      rintro e w1' ⟨rfl, rfl⟩
      go_wp2
      go_ret
      exact ⟨ret_int (by rw [HF.out]), hb1⟩
    | false =>
      have HF := Lib.hid (show termV s.data.toList = -1 by rw [HT.out, if_neg (by rw [hin]; simp)])
      have hr := fun x => retB' (f98_any v 0 7 x) hin
      clear hin
      go_enter Tryz.func125, Tryz.ntmps125
      go_wp2_with fail
      refine (hq _).mono ?_
      rintro e w1 ⟨rfl, hb1⟩
      go_wp2_with fail
      refine (hr _).mono ?_
      rintro e w1' ⟨rfl, rfl⟩
      go_wp2
      go_ret
      exact ⟨ret_int (by rw [HF.out]), hb1⟩
  · have HT := Lib.hid (termV_other hno)
    have hq := fun w => l2Num_any s w hs
    obtain ⟨v, hv⟩ : ∃ v, numV s.data.toList = v := ⟨_, rfl⟩
    rw [hv] at hq HT
    have h2 : ¬ 1 < s.size ∨ (1 < s.size ∧ ∃ c, ∃ h : 0 < s.size, s[0] = c ∧ c ≠ 120) := by
      by_cases h1 : 1 < s.size
      · refine .inr ⟨h1, s[0]'(by omega), by omega, rfl, fun e => ?_⟩
        have h3 := list_at s 0 (by omega) _ rfl (by omega)
        cases hl : s.data.toList with
        | nil => rw [hl] at hsz; simp at hsz; omega
        | cons a t =>
          cases t with
          | nil => rw [hl] at hsz; simp at hsz; omega
          | cons b r =>
            simp only [hl, List.getElem_cons_zero] at h3
            exact hno b r (by rw [hl, ← h3, e])
      · exact .inl h1
    clear hv hno hsz
    have hcase : ∀ (W : World), inR v 0 9 = true ∨ inR v 0 9 = false := fun _ => by cases inR v 0 9 <;> simp
    rcases h2 with h1 | ⟨h1, c, hc0, hc, hne⟩
    · have h1i : ¬ (1 : Int) < (s.size : Int) := by omega
      rcases hcase w with hin | hin
      · have HF := Lib.hid (show termV s.data.toList = v by rw [HT.out, if_pos (show isVal v = true from hin)])
        have hr := fun x => retB' (f98_any v 0 9 x) hin
        clear hin hcase
        go_enter Tryz.func125, Tryz.ntmps125
        go_wp2_with fail
        refine (hq _).mono ?_
        rintro e w1 ⟨rfl, hb1⟩
        go_wp2_with fail
        refine (hr _).mono ?_
        rintro e w1' ⟨rfl, rfl⟩
        go_wp2
        go_ret
        exact ⟨ret_int (by rw [HF.out]), hb1⟩
      · have HF := Lib.hid (show termV s.data.toList = -1 by rw [HT.out, if_neg (by rw [show isVal v = false from hin]; simp)])
        have hr := fun x => retB' (f98_any v 0 9 x) hin
        clear hin hcase
        go_enter Tryz.func125, Tryz.ntmps125
        go_wp2_with fail
        refine (hq _).mono ?_
        rintro e w1 ⟨rfl, hb1⟩
        go_wp2_with fail
        refine (hr _).mono ?_
        rintro e w1' ⟨rfl, rfl⟩
        go_wp2
        go_ret
        exact ⟨ret_int (by rw [HF.out]), hb1⟩
    · have h1i : (1 : Int) < (s.size : Int) := by omega
      have hs0 : (0 : Int) < (s.size : Int) := by omega
      have hb : ((s[0].toNat : Int) == 120) = false := by
        rw [beq_eq_false_iff_ne, hc]; intro e; exact hne (UInt8.toNat_inj.1 (by have h9 : (120 : UInt8).toNat = 120 := rfl; omega))
      clear hc
      rcases hcase w with hin | hin
      · have HF := Lib.hid (show termV s.data.toList = v by rw [HT.out, if_pos (show isVal v = true from hin)])
        have hr := fun x => retB' (f98_any v 0 9 x) hin
        clear hin hcase
        go_enter Tryz.func125, Tryz.ntmps125
        go_wp2_with fail
        refine (hq _).mono ?_
        rintro e w1 ⟨rfl, hb1⟩
        go_wp2_with fail
        refine (hr _).mono ?_
        rintro e w1' ⟨rfl, rfl⟩
        go_wp2
        go_ret
        exact ⟨ret_int (by rw [HF.out]), hb1⟩
      · have HF := Lib.hid (show termV s.data.toList = -1 by rw [HT.out, if_neg (by rw [show isVal v = false from hin]; simp)])
        have hr := fun x => retB' (f98_any v 0 9 x) hin
        clear hin hcase
        go_enter Tryz.func125, Tryz.ntmps125
        go_wp2_with fail
        refine (hq _).mono ?_
        rintro e w1 ⟨rfl, hb1⟩
        go_wp2_with fail
        refine (hr _).mono ?_
        rintro e w1' ⟨rfl, rfl⟩
        go_wp2
        go_ret
        exact ⟨ret_int (by rw [HF.out]), hb1⟩
theorem results_cell1 {fn : Func} {p : Tmp} {ty : TypeId} (h : fn.results = #[.cell p ty]) (tmps : Array Value) (P : Program) (w : World) :
    (results fn tmps).run P w = ((asAddr (tmps.getD p undef)).run P w).andThen fun a w₁ => (loadVar ty a).run P w₁ := by
  simp only [results, h]
  simp [Sem.run_bind, Result.andThen]
theorem load_atom {w : World} {g : Nat} {a b : Value} (h : Two w g a b) : (loadVar 73 ⟨g, 0, none⟩).run Tryz.prog w = .ok (.agg #[a, b]) w := load2 h Tryz.underlying73 rfl (by kernel_rfl)
theorem load_atom2 {w : World} {g : Nat} {a b : Value} (h : Two w g a b) (a' b' : Value) : (loadVar 73 ⟨g, 0, none⟩).run Tryz.prog ((w.setCell ⟨g, 0, none⟩ a').setCell ⟨g, 1, none⟩ b') = .ok (.agg #[a', b']) ((w.setCell ⟨g, 0, none⟩ a').setCell ⟨g, 1, none⟩ b') := load_atom (h.set a' b')

/-- What reading an atom ends in. -/
def PaEnd (t : List UInt8) (w : World) (e : Ending) (w' : World) : Prop := ∃ (vi : Value) (fi : List Nat), e = .returned (.agg #[.int .i64 (atomV t).rel, vi]) ∧ ints w' vi (atomV t).terms fi ∧ Fresh w.heap.size fi ∧ Below w.heap.size w w'
theorem PaEnd.mk {t : List UInt8} {w w' : World} {e : Ending} (r : Int) (l : List Int) (vi : Value) (fi : List Nat) (h : atomV t = ⟨r, l⟩) (he : e = .returned (.agg #[.int .i64 r, vi])) (hi : ints w' vi l fi) (hf : Fresh w.heap.size fi) (hb : Below w.heap.size w w') : PaEnd t w e w' :=
  ⟨vi, fi, by rw [h]; exact he, by rw [h]; exact hi, hf, hb⟩
set_option maxRecDepth 100000 in
set_option maxHeartbeats 6400000 in
theorem l3ParseAtom_any (t : ByteArray) (w : World) (ht : t.size ≤ 1048576) :
    Calls Tryz.prog 126 #[.string t] w (PaEnd t.data.toList w) := by
  have htl : t.data.toList.length ≤ 1048576 := by simpa using ht
  have hcl := callS_len t.data.toList
  have hb0 : Below w.heap.size w (w.alloc (.cells #[.int .i64 0, .slice none 0 0] 73)) := ba (Below.refl _ _)
  have h40 : Two (w.alloc (.cells #[.int .i64 0, .slice none 0 0] 73)) w.heap.size (.int .i64 0) (.slice none 0 0) := Two.new _ _ _ _
  obtain ⟨N, L, hNL⟩ : ∃ N L, callS t.data.toList = (N, L) := ⟨_, _, rfl⟩
  have hq : Calls Tryz.prog 152 #[.string t] (w.alloc (.cells #[.int .i64 0, .slice none 0 0] 73)) (fun e w' => ∃ (v : Value) (f : List Nat), e = .returned (.tuple #[.string ⟨N.toArray⟩, v]) ∧ slR 9 1 strR w' v L f ∧ Below (w.alloc (.cells #[.int .i64 0, .slice none 0 0] 73)).heap.size (w.alloc (.cells #[.int .i64 0, .slice none 0 0] 73)) w') := by
    have h := l2Call_any t (w.alloc (.cells #[.int .i64 0, .slice none 0 0] 73)) ht
    unfold CallEnd at h
    rw [hNL] at h
    exact h
  rw [hNL] at hcl
  obtain ⟨hc1, hc2, hc3⟩ := hcl
  simp only at hc1 hc2 hc3
  have HNz := Lib.hid (arr_sz N (by omega))
  have HLp := Lib.hid (show ∀ p ∈ L, p.length ≤ 1048576 from fun p hp => by have := hc3 p hp; omega)
  have HFO := Lib.hid (show atomV t.data.toList = ⟨relV N, L.map termV⟩ by unfold atomV; rw [hNL])
  have hLn : L.length ≤ 1048577 := by omega
  clear hNL hc1 hc2 hc3 htl
  go_enter Tryz.func126, Tryz.ntmps126
  go_wp2_with fail
  refine hq.mono ?_
  rintro e w1 ⟨vp, fp, rfl, hp, hb1⟩
  clear hq
  obtain ⟨ap, cp, rfl⟩ := slR.form hp
  have B1 := bt hb0 hb1
  have H41 := Lib.hid (h40.below hb1)
  clear h40
  go_wp2_with fail
  refine (l2Rel_any ⟨N.toArray⟩ _ HNz.out).mono ?_
  rintro e w2 ⟨rfl, hb2⟩
  have hrd : (⟨N.toArray⟩ : ByteArray).data.toList = N := rfl
  rw [hrd]
  clear hrd
  obtain ⟨r, hr⟩ : ∃ r, relV N = r := ⟨_, rfl⟩
  have HR := Lib.hid hr
  rw [hr]
  clear hr
  have B2 := bt B1 hb2
  have H42 := Lib.hid (H41.out.below hb2)
  have hp2 := slR.below' good_str hp hb2
  have hplt := slR.lt good_str hp2
  clear hp
  have F0 : Two (w2.alloc (.cells #[.int .i64 r, .slice none 0 0] 73)) w2.heap.size (.int .i64 r) (.slice none 0 0) := Two.new _ _ _ _
  have Hw2 : w.heap.size < w2.heap.size := H42.out.lt
  have hsz0 : w2.heap.size + 1 ≤ (w2.alloc (.cells #[.int .i64 r, .slice none 0 0] 73)).heap.size := by simp only [World.alloc, Array.size_push]; omega
  have Hb0 := Lib.hid (show Below w2.heap.size w2 (w2.alloc (.cells #[.int .i64 r, .slice none 0 0] 73)) from ba (Below.refl _ _))
  go_wp2
  go_loopw [6] (fun i wr => ∃ (k : Nat) (vi : Value) (lo : List Int) (fo : List Nat), i = .int .i64 (k : Int) ∧ k ≤ L.length ∧ Hid (lo = (L.take k).map termV) ∧ Two wr w2.heap.size (.int .i64 r) vi ∧ grR 3 1 intR (w2.heap.size + 1) wr vi lo fo ∧ Below w2.heap.size w2 wr) (fun i _ => L.length - (intOf i).toNat)
  case atStart => exact ⟨0, _, [], [], rfl, Nat.zero_le _, Lib.hid (by simp), F0, grR.nilv intR, Hb0.out⟩
  case round =>
    obtain ⟨k, vi, lo, fo, rfl, hk, Hlo, Fr, hgr, Br⟩ := hrel
    have hlb : lo.length ≤ 1048577 := by rw [Hlo.out]; simp; omega
    obtain ⟨av, cv, rfl⟩ := slR.form hgr.sl
    have hgw : w2.heap.size < wr.heap.size := Fr.lt
    by_cases hlt : k < L.length
    · obtain ⟨gp, c, fk, hgp, ⟨rfl, rfl⟩, _, hc, _, _, _⟩ := slR.at (slR.below' good_str hp2 Br) k hlt
      have pk : wr.cell? ⟨gp, k, none⟩ = some (.string ⟨L[k].toArray⟩) := by have := hc 0 _ rfl; simpa using this
      clear hc
      subst hgp
      have hkl : (k : Int) < (L.length : Int) := by omega
      have hk0 : (0 : Int) ≤ (k : Int) := by omega
      have Hsz := Lib.hid (arr_sz _ (HLp.out L[k] (List.getElem_mem hlt)))
      have HS := Lib.hid (show lo ++ [termV L[k]] = (L.take (k + 1)).map termV by rw [Hlo.out, List.take_succ_eq_append_getElem hlt, List.map_append]; rfl)
      have hnb := termV_bd L[k]
      generalize L[k] = x at pk Hsz HS hnb
      have hI : I64 (termV x) := ⟨by omega, by omega⟩
      have Fr2 := Fr
      obtain ⟨⟨f0, f1⟩, y0, y1⟩ := Fr2
      clear f0 y0
      go_wp2_with fail
      go_region_law ((first
          | (refine step_gr slInt good_int rfl _ _ rfl hgr3 hcb (by rfl) #[.int .i64 (termV x)] (termV x) [] ⟨rfl, rfl, hI⟩ rfl (Fresh.nil _) (by simp) (by rfl) (by simp [Value.oneCell']) (by omega) (by unfold maxLen; omega) ?_
             intro g4 cap4 w4 fo4 hgr4 hb4 hg4
             rw [cutW_size hle] at hgr4
             have hown : ∀ j, (Value.slice av lo.length cv).ownBlock = some j → w2.heap.size + 1 ≤ j := gr_base hgr
             have s34 := SX.of_grown hg4
             have hno : w2.heap.size ∉ (Value.slice av lo.length cv).ownBlock.toList := own_not hown (by omega)
             have F4 := F3.sx s34 hno
             have B4 : Below w2.heap.size w2 w4 := (bt Br hb3).trans (below_of_grown hg4 (bt Br hb3).size fun j hj => Nat.le_of_succ_le (hown j hj))
             have F4' := F4
             obtain ⟨⟨x0, x1⟩, z0, z1⟩ := F4')
          | (go_simp
             go_wp2_with (go_at_call 125
                          refine (l3ParseTerm_any ⟨x.toArray⟩ _ Hsz.out).mono ?_
                          rintro e w3 ⟨rfl, hb3'⟩
                          have hb3 : Below wr.heap.size wr w3 := bt (by (repeat (first | exact Below.refl _ _ | refine bdr ?_ | refine ba ?_))) hb3'
                          have d1 : w3.cell? ⟨w2.heap.size, 1, none⟩ = some (.slice av lo.length cv) := cell_below f1 hb3
                          have d1' : (w3.alloc (.cells #[.int .i64 (termV x)] 3)).cell? ⟨w2.heap.size, 1, none⟩ = some (.slice av lo.length cv) := cell_al d1 _
                          have hgr3 := hgr.below' good_int hb3
                          have F3 := Fr.below hb3
                          have hle : w2.heap.size + 1 ≤ w3.heap.size := Nat.le_trans hgw hb3.size
                          have hcb := cutW_below hle
                          rw [← cutW_size hle] at hgr3))))
      all_goals
        have Hgr5 := Lib.hid (hgr4.frame good_int fun j hj => Below.heap_setCell w4 ⟨w2.heap.size, 1, none⟩ (.slice (some ⟨g4, 0, none⟩) (lo.length + 1) cap4) j (fun e => by
          have h1 := hgr4.fresh.2 j hj
          simp only [] at e
          omega))
        have HF5 := Lib.hid (F4.set1 (.slice (some ⟨g4, 0, none⟩) (lo.length + 1) cap4))
        have HB5 := Lib.hid (bs (u := .slice (some ⟨g4, 0, none⟩) (lo.length + 1) cap4) B4 (p := ⟨w2.heap.size, 1, none⟩) (Nat.le_refl _))
        clear hgr4 F4 F3 hgr3 hcb s34
        go_wp2
        go_roundw
        case rel => exact ⟨k + 1, _, lo ++ [termV x], fo4, by go_num, by omega, HS, HF5.out, Hgr5.out, HB5.out⟩
        case measure => simp [intOf]; omega
    · have HFO2 := Lib.hid (show atomV t.data.toList = ⟨r, lo⟩ by rw [HFO.out, Hlo.out, List.take_of_length_le (by omega), HR.out])
      have hin := hgr.sl
      have Hnot := Lib.hid (show w.heap.size ∉ fo from fun hm => by
        have h1 := hgr.fresh.2 _ hm
        omega)
      have Hfr := Lib.hid (hgr.fresh.mono (show w.heap.size ≤ w2.heap.size + 1 by omega))
      have H4r := Lib.hid (H42.out.below Br)
      have Bw := bt B2 Br
      have hkl : ¬ (k : Int) < (L.length : Int) := by omega
      have Fr2 := Fr
      obtain ⟨⟨f0, f1⟩, y0, y1⟩ := Fr2
      have H4y := H4r.out
      obtain ⟨⟨r0, r1⟩, q0, q1⟩ := H4y
      go_wp2
      (try simp only [Exit.inBlock, Exit.then])
      refine bodyPost_ret (v := .agg #[.int .i64 r, (.slice av lo.length cv)]) ?_ rfl ?_
      · rw [results_cell1 rfl]
        simp [asAddr, Result.andThen, load_atom2 H4r.out]
      · exact PaEnd.mk r lo _ _ HFO2.out rfl (ints_two2 hin Hnot.out _ _) Hfr.out (below_two2 Bw (Nat.le_refl _) _ _)
end Go.Proofs.YtojjojcmemifhaaGreatDoor
