/- readQuery and ParseQuery of the program. Conditions: the text is no longer than 2^20; what the library's own variables hold. -/
import Derived.Test.YtojjojcmemifhaaGreatDoorParQS
import Derived.Test.YtojjojcmemifhaaGreatDoorParTI
import Derived.Test.YtojjojcmemifhaaGreatDoorGrow2
namespace Go.Proofs.YtojjojcmemifhaaGreatDoor
open Go.RowKit
set_option linter.unusedVariables false
set_option linter.unusedSimpArgs false
/-- What reading a query ends in. -/
def RqEnd (t : List UInt8) (w : World) (e : Ending) (w' : World) : Prop :=
  ∃ (vh va : Value) (k : Bool), e = .returned (.tuple #[.agg #[vh, va], .bool k]) ∧ Below w.heap.size w w' ∧
    ((k = false ∧ (okQ t = false ∨ queryFS (rdQ t) ≠ t) ∧ (∃ a n c, vh = .slice a n c) ∧ ∃ a n c, va = .slice a n c) ∨
     (k = true ∧ okQ t = true ∧ queryFS (rdQ t) = t ∧ ∃ fh fa, ints w' vh (rdQ t).head fh ∧ atoms w' va (rdQ t).atoms fa ∧ Fresh w.heap.size (fh ++ fa)))
theorem RqEnd.no {t : List UInt8} {w w' : World} {e : Ending} {a b : Option Addr} {n c n' c' : Nat} (he : e = .returned (.tuple #[.agg #[.slice a n c, .slice b n' c'], .bool false])) (h : okQ t = false ∨ queryFS (rdQ t) ≠ t) (hb : Below w.heap.size w w') : RqEnd t w e w' :=
  ⟨_, _, false, he, hb, .inl ⟨rfl, h, ⟨_, _, _, rfl⟩, _, _, _, rfl⟩⟩
theorem RqEnd.yes {t : List UInt8} {w w' : World} {e : Ending} (q : QueryD) (vh va : Value) (fh fa : List Nat) (he : e = .returned (.tuple #[.agg #[vh, va], .bool true])) (hq : rdQ t = q) (h : okQ t = true) (h2 : queryFS q = t) (h3 : ints w' vh q.head fh) (h4 : atoms w' va q.atoms fa) (h5 : Fresh w.heap.size (fh ++ fa)) (hb : Below w.heap.size w w') : RqEnd t w e w' :=
  ⟨vh, va, true, he, hb, .inr ⟨rfl, h, by rw [hq]; exact h2, fh, fa, by rw [hq]; exact h3, by rw [hq]; exact h4, h5⟩⟩
theorem rdA_bd (t : List UInt8) : -999999999 ≤ (rdA t).rel ∧ (rdA t).rel ≤ 999999999 := by
  unfold rdA
  split
  · rename_i h; exact (readC_len h).2.2
  · exact ⟨by decide, by decide⟩
theorem cut_found (t sep : List UInt8) (h : (Lib.cut t sep).2.2 = true) : (Lib.cut t sep).1.length + sep.length + (Lib.cut t sep).2.1.length = t.length := by
  unfold Lib.cut at h ⊢
  split
  · rename_i h2
    have := Lib.index_room t sep h2
    simp only [List.length_take, List.length_drop]
    omega
  · rename_i h2; rw [if_neg h2] at h; cases h
theorem rdA_len (t : List UInt8) : (rdA t).terms.length ≤ t.length := by
  unfold rdA
  split
  · rename_i r ws h
    have hw : ws.length ≤ t.length := by
      unfold readC at h
      split at h
      · rename_i h2
        simp only [Option.some.injEq, Prod.mk.injEq] at h
        have h3 := cut_found t [40] h2.1
        have h4 := Lib.trimSuffix_le (Lib.cut t [40]).2.1 [41]
        rw [← h.2]
        unfold wordsC
        split
        · simp
        · have := cutL_len 44 (Lib.trimSuffix (Lib.cut t [40]).2.1 [41])
          simp only [List.length_cons, List.length_nil] at h3
          omega
      · cases h
    simp only
    split
    · unfold valT; rw [List.length_map]; exact hw
    · simp
  · simp
theorem split_sum (sep : List UInt8) (h1 : 1 ≤ sep.length) : ∀ (k : Nat) (s : List UInt8), ((Lib.splitK sep 0 k s).map List.length).sum + (Lib.splitK sep 0 k s).length ≤ s.length + 1
  | 0, s => by simp [Lib.splitK]
  | k + 1, s => by
    unfold Lib.splitK
    split
    · simp
    · rename_i h
      have ih := split_sum sep h1 k (s.drop ((Lib.index s sep).toNat + sep.length))
      have h2 : 0 ≤ Lib.index s sep := by
        rcases Lib.index_spec s sep with ⟨h3, _⟩ | ⟨i, h3, _⟩
        · rw [h3] at h; simp at h
        · omega
      have h3 := Lib.index_room s sep h2
      simp only [List.map_cons, List.sum_cons, List.length_cons, List.length_take, List.length_drop] at ih ⊢
      omega
theorem rdA_sum : ∀ l : List (List UInt8), (termsL (l.map rdA)).length ≤ (l.map List.length).sum
  | [] => by simp [termsL]
  | p :: r => by
    have ih := rdA_sum r
    have hp := rdA_len p
    unfold termsL at ih ⊢
    simp only [List.map_cons, List.flatMap_cons, List.length_append, List.sum_cons]
    omega
theorem okQ_cut {t : List UInt8} (h : (Lib.cut t ifS).2.2 = false) : okQ t = false := by unfold okQ; rw [h]; rfl
theorem okQ_head {t : List UInt8} (h1 : (Lib.cut t ifS).1 ≠ yesS) (h : allT (cutL 44 (Lib.cut t ifS).1) = false) : okQ t = false := by unfold okQ; rw [h, decide_eq_false h1]; simp
theorem okQ_parts {t : List UInt8} {W : List (List UInt8)} (hW : partsQ (Lib.cut t ifS).2.1 = W) (h : (∃ p ∈ W, okA p = false) ∨ 4 < W.length) : okQ t = false := by
  unfold okQ
  rw [hW]
  rcases h with ⟨p, hp, h⟩ | h
  · have : W.all okA = false := by rw [List.all_eq_false]; exact ⟨p, hp, by rw [h]; simp⟩
    rw [this]; simp
  · rw [decide_eq_false (show ¬ W.length ≤ 4 by omega)]; simp
theorem okQ_yes {t : List UInt8} {W : List (List UInt8)} (hW : partsQ (Lib.cut t ifS).2.1 = W) (h0 : (Lib.cut t ifS).2.2 = true) (h1 : (Lib.cut t ifS).1 = yesS ∨ allT (cutL 44 (Lib.cut t ifS).1) = true) (h2 : W.all okA = true) (h3 : W.length ≤ 4) : okQ t = true := by
  unfold okQ
  rw [hW, h0, h2, decide_eq_true h3]
  rcases h1 with h1 | h1
  · rw [decide_eq_true h1]; rfl
  · rw [h1]; simp
theorem rdQ_parts {t : List UInt8} {W : List (List UInt8)} (hW : partsQ (Lib.cut t ifS).2.1 = W) : rdQ t = ⟨if (Lib.cut t ifS).1 = yesS then [] else valT (cutL 44 (Lib.cut t ifS).1), W.map rdA⟩ := by unfold rdQ; rw [hW]

set_option maxRecDepth 100000 in
set_option maxHeartbeats 12800000 in
theorem readQuery_any (t : ByteArray) (w : World) (ht : t.size ≤ 1048576) (hL : LibW w) :
    Calls Tryz.prog 127 #[.string t] w (RqEnd t.data.toList w) := by
  have htl : t.data.toList.length ≤ 1048576 := by simpa using ht
  have HLW := Lib.hid hL
  obtain ⟨m, hm⟩ := hL.2.2.2
  clear hL
  have hb0 : Below w.heap.size w (w.alloc (.cells #[.slice none 0 0, .slice none 0 0] 58)) := ba (Below.refl _ _)
  have h40 : Two (w.alloc (.cells #[.slice none 0 0, .slice none 0 0] 58)) w.heap.size (.slice none 0 0) (.slice none 0 0) := Two.new _ _ _ _
  have hcl := cut_le t.data.toList ifS
  obtain ⟨A, hA⟩ : ∃ A, (Lib.cut t.data.toList ifS).1 = A := ⟨_, rfl⟩
  obtain ⟨R, hR⟩ : ∃ R, (Lib.cut t.data.toList ifS).2.1 = R := ⟨_, rfl⟩
  obtain ⟨ki, hki⟩ : ∃ k, (Lib.cut t.data.toList ifS).2.2 = k := ⟨_, rfl⟩
  obtain ⟨W, hW⟩ : ∃ W, partsQ R = W := ⟨_, rfl⟩
  have hsum : (W.map List.length).sum + W.length ≤ R.length + 1 := by rw [← hW]; exact split_sum andS (by decide) _ R
  have HcN := Lib.hid (show ki = false → okQ t.data.toList = false from fun e => okQ_cut (by rw [hki]; exact e))
  have HcH := Lib.hid (show A ≠ yesS → allT (cutL 44 A) = false → okQ t.data.toList = false from fun e1 e2 => okQ_head (by rw [hA]; exact e1) (by rw [hA]; exact e2))
  have HOQ := Lib.hid (show ((∃ p ∈ W, okA p = false) ∨ 4 < W.length) → okQ t.data.toList = false from fun h => okQ_parts (by rw [hR]; exact hW) h)
  have HOY0 := Lib.hid (show ki = true → (A = yesS ∨ allT (cutL 44 A) = true) → W.all okA = true → W.length ≤ 4 → okQ t.data.toList = true from fun h0 h1 h2 h3 => okQ_yes (by rw [hR]; exact hW) (hki.trans h0) (by rw [hA]; exact h1) h2 h3)
  have HRQ0 := Lib.hid (show rdQ t.data.toList = ⟨if A = yesS then [] else valT (cutL 44 A), W.map rdA⟩ by rw [rdQ_parts (W := W) (by rw [hR]; exact hW), hA])
  have Hlen := Lib.hid (show ki = true → A.length + 4 + R.length = t.data.toList.length from fun h => by
    have h2 := cut_found t.data.toList ifS (hki.trans h)
    rw [hA, hR] at h2; exact h2)
  have hqc : ∀ w', w'.cell? ⟨0, 0, none⟩ = some (.int .i64 m) → Calls Tryz.prog 191 #[.string t, .string ⟨#[32, 105, 102, 32]⟩] w' fun e w'' => e = .returned (.tuple #[.string ⟨A.toArray⟩, .string ⟨R.toArray⟩, .bool ki]) ∧ Below w'.heap.size w' w'' := fun w' h => (Tryz.strings_Cut t ⟨#[32, 105, 102, 32]⟩ m w' (by omega) h).mono (by
    rintro e w'' ⟨rfl, n, rfl⟩
    refine ⟨?_, (Qt.dn _ n).below⟩
    rw [show (⟨#[32, 105, 102, 32]⟩ : ByteArray).data.toList = ifS from rfl, hA, hR, hki])
  rw [hA, hR] at hcl
  clear hA hR hki
  have HRs := Lib.hid (arr_sz R (by omega))
  have HAs := Lib.hid (arr_sz A (by omega))
  have hqs : ∀ w', LibW w' → Calls Tryz.prog 107 #[.string ⟨R.toArray⟩, .string ⟨#[32, 97, 110, 100, 32]⟩] w' (CutEnd W w') := fun w' h => by
    have h2 : Calls Tryz.prog 107 #[.string ⟨R.toArray⟩, .string ⟨#[32, 97, 110, 100, 32]⟩] w' (CutEnd (partsQ R) w') := split_any ⟨R.toArray⟩ ⟨#[32, 97, 110, 100, 32]⟩ w' HRs.out (by simp [ByteArray.size]) h.2.2.2
    rwa [hW] at h2
  clear hW
  have HWp := Lib.hid (show ∀ p ∈ W, p.length ≤ 1048576 from fun p hp => by have h2 := sum_ge_mem (f := List.length) hp; have h3 := List.length_pos_of_mem hp; omega)
  have hWl : W.length ≤ 1048577 := by omega
  have HTW := Lib.hid (show ki = true → (termsL (W.map rdA)).length ≤ 1048576 from fun h => by have h1 := rdA_sum W; have h2 := Hlen.out h; have h3 : 0 ≤ W.length := Nat.zero_le _; rcases Nat.eq_zero_or_pos W.length with h4 | h4 <;> omega)
  clear hsum
  go_enter Tryz.func127, Tryz.ntmps127
  go_wp2_with fail
  refine (hqc _ (cell_below hm hb0)).mono ?_
  rintro e w1 ⟨rfl, hb1⟩
  clear hqc
  have B1 := bt hb0 hb1
  have h41 := h40.below hb1
  cases ki with
  | false =>
    have HN := Lib.hid (HcN.out rfl)
    have H4e := Lib.hid h41
    have H4y := H4e.out
    obtain ⟨⟨r0, r1⟩, q0, q1⟩ := H4y
    go_wp2
    (try simp only [Exit.inBlock, Exit.then])
    refine bodyPost_ret (v := .tuple #[.agg #[.slice none 0 0, .slice none 0 0], .bool false]) ?_ rfl ?_
    · rw [results_cell_tmp rfl]
      simp [asAddr, Result.andThen, load_query2 H4e.out]
    · exact RqEnd.no rfl (.inl HN.out) (below_two2 B1 (Nat.le_refl _) _ _)
  | true =>
    have HTW2 := Lib.hid (HTW.out rfl)
    clear HTW
    have HLn := Lib.hid (Hlen.out rfl)
    have hwg : w.heap.size ≠ w1.heap.size := by have := h41.lt; omega
    have hba1 : Below w1.heap.size w1 (w1.alloc (.cells #[.slice none 0 0, .slice none 0 0] 58)) := ba (Below.refl _ _)
    have F0 : Two (w1.alloc (.cells #[.slice none 0 0, .slice none 0 0] 58)) w1.heap.size (.slice none 0 0) (.slice none 0 0) := Two.new _ _ _ _
    by_cases hyes : A = [121, 101, 115]
    · have hyb : (A == [121, 101, 115]) = true := by simp [hyes]
      have HRQ := Lib.hid (show rdQ t.data.toList = ⟨[], W.map rdA⟩ by rw [HRQ0.out, if_pos (show A = yesS from hyes)])
      have HOY := Lib.hid (show W.all okA = true → W.length ≤ 4 → okQ t.data.toList = true from HOY0.out rfl (.inl hyes))
      clear hyes
      have Fz := F0
      have Bz := bt B1 hba1
      have H4z := Lib.hid (h41.below hba1)
      have hh0 : ints (w1.alloc (.cells #[.slice none 0 0, .slice none 0 0] 58)) (.slice none 0 0) [] [] := slR.nilv _ _ _ _
      have hhb : ([] : List Int).length ≤ 1048576 := by simp
      have Hgh := Lib.hid (show w1.heap.size ∉ ([] : List Nat) by simp)
      have Hfh := Lib.hid (Fresh.nil (w1.heap.size + 1))
      go_wp2_with fail
      refine (hqs _ (HLW.out.on Bz)).mono ?_
      rintro e w5 ⟨gs, cs, f5, rfl, hgs, hb5⟩
      have B5 := bt Bz hb5
      have F5 := Fz.below hb5
      have H45 := Lib.hid (H4z.out.below hb5)
      have hh5 := hh0.below' hb5
      have hfhl := Lib.hid hh5.lt
      have hgsz : (w1.alloc (.cells #[.slice none 0 0, .slice none 0 0] 58)).heap.size ≤ gs := gr_base hgs gs rfl
      have hgsg : gs ≠ w1.heap.size := by have := Fz.lt; omega
      have h15 : w1.heap.size < w5.heap.size := F5.lt
      clear Fz hh0 hb5 hqs
      go_wp2
      go_loopw [40] (fun i wr => ∃ (k : Nat) (va : Value) (lo : List AtomD) (fo : List Nat), i = .int .i64 (k : Int) ∧ k ≤ W.length ∧ Hid (lo.length = k) ∧ k ≤ 4 ∧ Hid (lo = (W.take k).map rdA) ∧ Hid ((W.take k).all okA = true) ∧ Two wr w1.heap.size (.slice none 0 0) va ∧ grR 73 2 atomR w5.heap.size wr va lo fo ∧ SX [w1.heap.size] w5 wr ∧ Below w.heap.size w wr) (fun i _ => W.length - (intOf i).toNat)
      case atStart => exact ⟨0, _, [], [], rfl, Nat.zero_le _, Lib.hid rfl, by omega, Lib.hid (by simp), Lib.hid (by simp), F5, grR.nilv atomR, SX.refl _ _, B5⟩
      case round =>
        obtain ⟨k, va, la, fa, rfl, hk, Hlk, hk4, Hla, HAl, Fq, hgq, hsq, Bq⟩ := hrel
        obtain ⟨av2, cv2, rfl⟩ := slR.form hgq.sl
        have hl4 : la.length ≤ 4 := by have := Hlk.out; omega
        by_cases hlt : k < W.length
        · have hkl : (k : Int) < (W.length : Int) := by omega
          have hk0 : (0 : Int) ≤ (k : Int) := by omega
          have pk := hsq.cell (strs_at hgs rfl k hlt) (by simpa using hgsg)
          have Hsz := Lib.hid (arr_sz _ (HWp.out W[k] (List.getElem_mem hlt)))
          have hqa : ∀ (x : World), LibW x → Calls Tryz.prog 193 #[.string ⟨W[k].toArray⟩] x fun e w' => ∃ (vi : Value) (fi : List Nat), e = .returned (.tuple #[.agg #[.int .i64 (rdA W[k]).rel, vi], .bool (okA W[k])]) ∧ ints w' vi (rdA W[k]).terms fi ∧ Fresh x.heap.size fi ∧ Below x.heap.size x w' := fun x hx => readAtom_any ⟨W[k].toArray⟩ x Hsz.out hx
          have hrb := rdA_bd W[k]
          have HS := Lib.hid (show la ++ [rdA W[k]] = (W.take (k + 1)).map rdA by rw [Hla.out, List.take_succ_eq_append_getElem hlt, List.map_append]; rfl)
          have HA2 := Lib.hid (show okA W[k] = true → (W.take (k + 1)).all okA = true from fun h => by rw [List.take_succ_eq_append_getElem hlt, List.all_append, HAl.out]; simp [h])
          have HN1 := Lib.hid (show okA W[k] = false → okQ t.data.toList = false from fun h => HOQ.out (.inl ⟨W[k], List.getElem_mem hlt, h⟩))
          have hlq : (rdA W[k]).terms.length ≤ 1048576 := Nat.le_trans (rdA_len W[k]) (HWp.out W[k] (List.getElem_mem hlt))
          generalize rdA W[k] = ax at hqa hrb HS hlq
          generalize okA W[k] = ok at hqa HA2 HN1
          generalize W[k] = x at pk Hsz hqa
          have hI : I64 ax.rel := ⟨by omega, by omega⟩
          go_wp2_with fail
          refine (hqa _ (HLW.out.on Bq)).mono ?_
          rintro e w3 ⟨vt, fi, rfl, hi3, hfi, hb3⟩
          clear hqa
          obtain ⟨pt, qt, rfl⟩ := slR.form hi3
          have hbx : Below w3.heap.size w3 (w3.alloc (.cells #[.int .i64 ax.rel, .slice pt ax.terms.length qt] 73)) := ba (Below.refl _ _)
          have hb3x := bt hb3 hbx
          have F3 := Fq.below hb3x
          have B3 := bt Bq hb3x
          have H43 := Lib.hid ((H45.out.sx hsq (by simpa using hwg)).below hb3x)
          cases ok with
          | false =>
            have HN := Lib.hid (HN1.out rfl)
            have H4e := H43
            have H4y := H4e.out
            obtain ⟨⟨r0, r1⟩, q0, q1⟩ := H4y
            go_wp2
            (try simp only [Exit.inBlock, Exit.then])
            refine bodyPost_ret (v := .tuple #[.agg #[.slice none 0 0, .slice none 0 0], .bool false]) ?_ rfl ?_
            · rw [results_cell_tmp rfl]
              simp [asAddr, Result.andThen, load_query2 H4e.out]
            · exact RqEnd.no rfl (.inl HN.out) (below_two2 B3 (Nat.le_refl _) _ _)
          | true =>
            have F3' := F3
            obtain ⟨⟨f0, f1⟩, y0, y1⟩ := F3'
            by_cases hk5 : k = 4
            · have hk4b : ((la.length : Int) == 4) = true := by have := Hlk.out; simp; omega
              have HN := Lib.hid (HOQ.out (.inr (show 4 < W.length by omega)))
              have H4e := H43
              have H4y := H4e.out
              obtain ⟨⟨r0, r1⟩, q0, q1⟩ := H4y
              go_wp2
              (try simp only [Exit.inBlock, Exit.then])
              refine bodyPost_ret (v := .tuple #[.agg #[.slice none 0 0, .slice none 0 0], .bool false]) ?_ rfl ?_
              · rw [results_cell_tmp rfl]
                simp [asAddr, Result.andThen, load_query2 H4e.out]
              · exact RqEnd.no rfl (.inl HN.out) (below_two2 B3 (Nat.le_refl _) _ _)
            · have hk4b : ((la.length : Int) == 4) = false := by have := Hlk.out; rw [beq_eq_false_iff_ne]; omega
              have Htt : Two (w3.alloc (.cells #[.int .i64 ax.rel, .slice pt ax.terms.length qt] 73)) w3.heap.size (.int .i64 ax.rel) (.slice pt ax.terms.length qt) := Two.new _ _ _ _
              have Htt' := Htt
              obtain ⟨⟨e0, e1⟩, _, _⟩ := Htt'
              have hgr3 := hgq.below' good_atom hb3x
              have s3 : SX [w1.heap.size] w5 (w3.alloc (.cells #[.int .i64 ax.rel, .slice pt ax.terms.length qt] 73)) := hsq.below hb3x
              have hle : w5.heap.size ≤ (w3.alloc (.cells #[.int .i64 ax.rel, .slice pt ax.terms.length qt] 73)).heap.size := s3.1
              have hcb := cutW_below hle
              have hfr3 := hfi.mono hsq.1
              have hi4 := hi3.below' hbx
              have hdis : ∀ g ∈ fi, g ∉ fa := fun g hg hm => (by have h1 := hfi.2 g hg; have h2 := grR.lt good_atom hgq g hm; omega)
              rw [← cutW_size hle] at hgr3 hfr3
              go_wp2_with (at_builtin; refine wpList_gr2 slAtomS good_atom rfl _ _ rfl hgr3 hcb rfl #[.int .i64 ax.rel, .slice pt ax.terms.length qt] ax fi ⟨_, rfl, hI, hi4⟩ rfl hfr3 hdis (w3.heap.size + 1) (by simp) rfl (by simp [Value.oneCell']) (by omega) (by unfold maxLen; omega) ?_; intro g4 cap4 w4 fo4 hgr4 hb4 hg4 _ _; rw [cutW_size hle] at hgr4; have hown : ∀ j, (Value.slice av2 la.length cv2).ownBlock = some j → w5.heap.size ≤ j := gr_base hgq; have s4 : SX [w1.heap.size] w5 w4 := s3.grownBy hg4 hown; have s34 := SX.of_grown hg4; have hno : w1.heap.size ∉ (Value.slice av2 la.length cv2).ownBlock.toList := own_not hown h15; have F4 := F3.sx s34 hno; have B4 : Below w.heap.size w w4 := B3.trans (below_of_grown hg4 B3.size fun j hj => Nat.le_trans B5.size (hown j hj)); have F4' := F4; obtain ⟨⟨x0, x1⟩, z0, z1⟩ := F4')
              have Hgr5 := Lib.hid (hgr4.frame good_atom fun j hj => Below.heap_setCell w4 ⟨w1.heap.size, 1, none⟩ (.slice (some ⟨g4, 0, none⟩) (la.length + 1) cap4) j (fun e => by
                have h1 := hgr4.fresh.2 j hj
                simp only [] at e
                omega))
              have HF5 := Lib.hid (F4.set1 (.slice (some ⟨g4, 0, none⟩) (la.length + 1) cap4))
              have HB5 := Lib.hid (bs (u := .slice (some ⟨g4, 0, none⟩) (la.length + 1) cap4) B4 (p := ⟨w1.heap.size, 1, none⟩) B1.size)
              have HS5 := Lib.hid (s4.setIn 1 (.slice (some ⟨g4, 0, none⟩) (la.length + 1) cap4))
              have HA3 := Lib.hid (HA2.out (by simp))
              have HL6 := Lib.hid (show (la ++ [ax]).length = k + 1 by have := Hlk.out; simp; omega)
              clear hgr4 F4 s4 F3 s3 hgr3 hcb s34 hi3 hfi hfr3 hi4
              go_roundw
              case rel => exact ⟨k + 1, _, la ++ [ax], fo4, by go_num, by omega, HL6, by omega, HS, HA3, HF5.out, by simpa using Hgr5.out, HS5.out, HB5.out⟩
              case measure => simp [intOf]; omega
        · have hkk : k = W.length := by omega
          have HQ := Lib.hid (show rdQ t.data.toList = ⟨[], la⟩ by
            rw [HRQ.out, Hla.out, hkk, List.take_length])
          have HOK := Lib.hid (show okQ t.data.toList = true from HOY.out (by have h := HAl.out; rw [hkk, List.take_length] at h; exact h) (by omega))
          have HT : (termsL (⟨[], la⟩ : QueryD).atoms).length ≤ 1048576 := by
            have h1 := HTW2.out
            have h2 : la = W.map rdA := by rw [Hla.out, hkk, List.take_length]
            rw [← h2] at h1
            exact h1
          clear hkk
          have hha : atoms wr (.slice av2 la.length cv2) (⟨[], la⟩ : QueryD).atoms fa := hgq.sl
          have hhq : ints wr (.slice none 0 0) (⟨[], la⟩ : QueryD).head [] := hh5.frame fun j hj => hsq.2 j (hfhl.out j hj) (by intro hm; rw [List.mem_singleton] at hm; subst hm; exact Hgh.out hj)
          have Hnh := Lib.hid (show w.heap.size ∉ [] from fun hm => by have h1 := Hfh.out.2 _ hm; have := B1.size; omega)
          have Hna := Lib.hid (show w.heap.size ∉ fa from fun hm => by have h1 := hgq.fresh.2 _ hm; have h2 := H45.out.lt; omega)
          have Hfr := Lib.hid (show Fresh w.heap.size ([] ++ fa) from ⟨List.nodup_append.2 ⟨Hfh.out.1, hgq.fresh.1, fun a ha b hb e => by
            subst e
            have h1 := hfhl.out a ha
            have h2 := hgq.fresh.2 a hb
            omega⟩, fun a ha => (List.mem_append.1 ha).elim (fun h => Nat.le_trans B1.size (Nat.le_of_succ_le (Hfh.out.2 a h))) (fun h => Nat.le_trans B5.size (hgq.fresh.2 a h))⟩)
          have H4q := Lib.hid (H45.out.sx hsq (by simpa using hwg))
          have hkl : ¬ (k : Int) < (W.length : Int) := by omega
          have Fq2 := Fq
          obtain ⟨⟨f0, f1⟩, y0, y1⟩ := Fq2
          obtain ⟨q, hq⟩ : ∃ q, (⟨[], la⟩ : QueryD) = q := ⟨_, rfl⟩
          have hla4 : q.atoms.length ≤ 1048576 := by rw [← hq]; show la.length ≤ 1048576; omega
          have hlh : q.head.length ≤ 1048576 := by rw [← hq]; exact hhb
          rw [hq] at HQ HT hha hhq
          clear hq
          have hqf := fun (x : World) (hx : Below w.heap.size w x) (h1 : ints x (.slice none 0 0) q.head []) (h2 : atoms x (.slice av2 la.length cv2) q.atoms fa) => implFormatQuery_any q (.slice none 0 0) [] (.slice av2 la.length cv2) fa x h1 h2 HT hlh hla4 (HLW.out.on hx).2.2.1
          by_cases heq : queryFS q = t.data.toList
          · have hse := str_eq heq
            have Heq := Lib.hid heq
            clear heq
            rw [hse] at hqf
            clear hse
            go_wp2_with fail
            go_region_law (go_simp
                           go_wp2_with (go_at_call 46
                                        refine (hqf _ ?_ (hhq.below' ?_) (hha.below' ?_)).mono ?_
                                        · (repeat (first | exact Bq | refine bdr ?_))
                                        · (repeat (first | exact Below.refl _ _ | refine bdr ?_))
                                        · (repeat (first | exact Below.refl _ _ | refine bdr ?_))
                                        rintro e we ⟨rfl, hbe'⟩
                                        have hbe : Below wr.heap.size wr we := bt (by (repeat (first | exact Below.refl _ _ | refine bdr ?_))) hbe'
                                        have d0 : we.cell? ⟨w1.heap.size, 0, none⟩ = some ((.slice none 0 0)) := cell_below f0 hbe
                                        have d1 : we.cell? ⟨w1.heap.size, 1, none⟩ = some (.slice av2 la.length cv2) := cell_below f1 hbe
                                        have H4e := Lib.hid (H4q.out.below hbe)
                                        have H4y := H4e.out
                                        obtain ⟨⟨r0, r1⟩, q0, q1⟩ := H4y))
            all_goals
              go_wp2
              (try simp only [Exit.inBlock, Exit.then])
              refine bodyPost_ret (v := .tuple #[.agg #[(.slice none 0 0), .slice av2 la.length cv2], .bool true]) ?_ rfl ?_
              · rw [results_cell_tmp rfl]
                simp [asAddr, Result.andThen, load_query2 H4e.out, Act.put]
              · exact RqEnd.yes q _ _ _ _ rfl HQ.out HOK.out Heq.out (ints_two2 (ints.below' hhq hbe) Hnh.out _ _) (atoms_two2 (atoms.below' hha hbe) Hna.out _ _) Hfr.out (below_two2 (bt Bq hbe) (Nat.le_refl _) _ _)
          · have hse := str_ne heq
            have Heq := Lib.hid heq
            clear heq
            go_wp2_with fail
            go_region_law (go_simp
                           go_wp2_with (go_at_call 46
                                        refine (hqf _ ?_ (hhq.below' ?_) (hha.below' ?_)).mono ?_
                                        · (repeat (first | exact Bq | refine bdr ?_))
                                        · (repeat (first | exact Below.refl _ _ | refine bdr ?_))
                                        · (repeat (first | exact Below.refl _ _ | refine bdr ?_))
                                        rintro e we ⟨rfl, hbe'⟩
                                        have hbe : Below wr.heap.size wr we := bt (by (repeat (first | exact Below.refl _ _ | refine bdr ?_))) hbe'
                                        have d0 : we.cell? ⟨w1.heap.size, 0, none⟩ = some ((.slice none 0 0)) := cell_below f0 hbe
                                        have d1 : we.cell? ⟨w1.heap.size, 1, none⟩ = some (.slice av2 la.length cv2) := cell_below f1 hbe
                                        have H4e := Lib.hid (H4q.out.below hbe)
                                        have H4y := H4e.out
                                        obtain ⟨⟨r0, r1⟩, q0, q1⟩ := H4y))
            all_goals
              go_wp2
              (try simp only [Exit.inBlock, Exit.then])
              refine bodyPost_ret (v := .tuple #[.agg #[(.slice none 0 0), .slice av2 la.length cv2], .bool false]) ?_ rfl ?_
              · rw [results_cell_tmp rfl]
                simp [asAddr, Result.andThen, load_query2 H4e.out, Act.put]
              · exact RqEnd.no rfl (.inr (by rw [HQ.out]; exact Heq.out)) (below_two2 (bt Bq hbe) (Nat.le_refl _) _ _)
    · have hyb : (A == [121, 101, 115]) = false := by simp [hyes]
      obtain ⟨L, hL⟩ : ∃ L, cutL 44 A = L := ⟨_, rfl⟩
      have hLn : L.length ≤ 1048576 := by rw [← hL]; have := cutL_len 44 A; have := HLn.out; omega
      have HLp := Lib.hid (show ∀ p ∈ L, p.length ≤ 1048576 from fun p hp => Nat.le_trans (cutL_piece 44 _ p (by rw [hL]; exact hp)) (by omega))
      have HRQ1 := Lib.hid (show rdQ t.data.toList = ⟨valT L, W.map rdA⟩ by rw [HRQ0.out, if_neg (show A ≠ yesS from hyes), hL])
      have HcH2 := Lib.hid (show allT L = false → okQ t.data.toList = false from fun h => HcH.out hyes (by rw [hL]; exact h))
      have HOY1 := Lib.hid (show allT L = true → W.all okA = true → W.length ≤ 4 → okQ t.data.toList = true from fun h => HOY0.out rfl (.inr (by rw [hL]; exact h)))
      clear hyes
      have Bz1 := bt B1 hba1
      have hsp := split1_any ⟨A.toArray⟩ 44 _ HAs.out (HLW.out.on Bz1).2.2.2
      rw [show cutL 44 (⟨A.toArray⟩ : ByteArray).data.toList = L from hL] at hsp
      clear hL
      have Hba1 := Lib.hid hba1
      go_wp2_with fail
      refine hsp.mono ?_
      rintro e w2 ⟨gp, cp, fp, rfl, hgp, hbp⟩
      clear hsp
      have Bp := bt Bz1 hbp
      obtain ⟨ka, hka⟩ : ∃ ka, allT L = ka := ⟨_, rfl⟩
      have hq3 : ∀ v f, slR 9 1 strR w2 v L f → Calls Tryz.prog 192 #[v] w2 fun e w' => ∃ (v : Value) (f : List Nat), e = .returned (.tuple #[v, .bool ka]) ∧ ints w' v (if ka then valT L else []) f ∧ Fresh w2.heap.size f ∧ Below w2.heap.size w2 w' := fun v f h => by
        have h2 := readTerms_any v L f w2 h (by omega) HLp.out (HLW.out.on Bp)
        unfold RtEnd at h2
        rw [hka] at h2
        exact h2
      have HKA := Lib.hid hka
      clear hka
      have hsl := hgp.sl
      go_wp2_with fail
      refine (hq3 _ _ hsl).mono ?_
      rintro e w3 ⟨vi, fi, rfl, hi, hfi, hb3⟩
      clear hq3 hsl
      have B3 := bt Bp hb3
      have hb13 := bt hbp hb3
      have h12 : w1.heap.size < w2.heap.size := Nat.lt_of_lt_of_le (by simp only [World.alloc, Array.size_push]; omega) hbp.size
      have F3 := F0.below hb13
      have F3' := F3
      obtain ⟨⟨f0, f1⟩, y0, y1⟩ := F3'
      have Hgh := Lib.hid (show w1.heap.size ∉ fi from fun hm => by have := hfi.2 _ hm; omega)
      have H43 := Lib.hid ((h41.below Hba1.out).below hb13)
      cases ka with
      | false =>
        have HN := Lib.hid (HcH2.out HKA.out)
        have H4e := H43
        have H4y := H4e.out
        obtain ⟨⟨r0, r1⟩, q0, q1⟩ := H4y
        go_wp2
        (try simp only [Exit.inBlock, Exit.then])
        refine bodyPost_ret (v := .tuple #[.agg #[.slice none 0 0, .slice none 0 0], .bool false]) ?_ rfl ?_
        · rw [results_cell_tmp rfl]
          simp [asAddr, Result.andThen, load_query2 H4e.out]
        · exact RqEnd.no rfl (.inl HN.out) (below_two2 B3 (Nat.le_refl _) _ _)
      | true =>
        have HRQ := HRQ1
        have HOY := Lib.hid (HOY1.out HKA.out)
        rw [if_pos rfl] at hi
        have hhb : (valT L).length ≤ 1048576 := by unfold valT; rw [List.length_map]; exact hLn
        obtain ⟨lh, hlh0⟩ : ∃ lh, valT L = lh := ⟨_, rfl⟩
        rw [hlh0] at hi hhb
        have HRQ1 := Lib.hid (show rdQ t.data.toList = ⟨lh, W.map rdA⟩ by rw [HRQ.out, hlh0])
        clear HRQ
        have HRQ := HRQ1
        clear hlh0
        obtain ⟨av, cv, rfl⟩ := slR.form hi
        have Fz : Two (w3.setCell ⟨w1.heap.size, 0, none⟩ (.slice av lh.length cv)) w1.heap.size (.slice av lh.length cv) (.slice none 0 0) := F3.set0 _
        have Bz : Below w.heap.size w (w3.setCell ⟨w1.heap.size, 0, none⟩ (.slice av lh.length cv)) := bs B3 B1.size
        have H4z := Lib.hid (H43.out.sx (SX.set (w := w3) ⟨w1.heap.size, 0, none⟩ (.slice av lh.length cv)) (by simpa using hwg))
        have hh0 := hi.far (p := ⟨w1.heap.size, 0, none⟩) Hgh.out (.slice av lh.length cv)
        have Hfh := Lib.hid (hfi.mono (show w1.heap.size + 1 ≤ w2.heap.size from h12))
        clear hi hfi hgp F0 F3 HRQ1
        go_wp2_with fail
        refine (hqs _ (HLW.out.on Bz)).mono ?_
        rintro e w5 ⟨gs, cs, f5, rfl, hgs, hb5⟩
        have B5 := bt Bz hb5
        have F5 := Fz.below hb5
        have H45 := Lib.hid (H4z.out.below hb5)
        have hh5 := hh0.below' hb5
        have hfhl := Lib.hid hh5.lt
        have hgsz : (w3.setCell ⟨w1.heap.size, 0, none⟩ (.slice av lh.length cv)).heap.size ≤ gs := gr_base hgs gs rfl
        have hgsg : gs ≠ w1.heap.size := by have := Fz.lt; omega
        have h15 : w1.heap.size < w5.heap.size := F5.lt
        clear Fz hh0 hb5 hqs
        go_wp2
        go_loopw [40] (fun i wr => ∃ (k : Nat) (va : Value) (lo : List AtomD) (fo : List Nat), i = .int .i64 (k : Int) ∧ k ≤ W.length ∧ Hid (lo.length = k) ∧ k ≤ 4 ∧ Hid (lo = (W.take k).map rdA) ∧ Hid ((W.take k).all okA = true) ∧ Two wr w1.heap.size (.slice av lh.length cv) va ∧ grR 73 2 atomR w5.heap.size wr va lo fo ∧ SX [w1.heap.size] w5 wr ∧ Below w.heap.size w wr) (fun i _ => W.length - (intOf i).toNat)
        case atStart => exact ⟨0, _, [], [], rfl, Nat.zero_le _, Lib.hid rfl, by omega, Lib.hid (by simp), Lib.hid (by simp), F5, grR.nilv atomR, SX.refl _ _, B5⟩
        case round =>
          obtain ⟨k, va, la, fa, rfl, hk, Hlk, hk4, Hla, HAl, Fq, hgq, hsq, Bq⟩ := hrel
          obtain ⟨av2, cv2, rfl⟩ := slR.form hgq.sl
          have hl4 : la.length ≤ 4 := by have := Hlk.out; omega
          by_cases hlt : k < W.length
          · have hkl : (k : Int) < (W.length : Int) := by omega
            have hk0 : (0 : Int) ≤ (k : Int) := by omega
            have pk := hsq.cell (strs_at hgs rfl k hlt) (by simpa using hgsg)
            have Hsz := Lib.hid (arr_sz _ (HWp.out W[k] (List.getElem_mem hlt)))
            have hqa : ∀ (x : World), LibW x → Calls Tryz.prog 193 #[.string ⟨W[k].toArray⟩] x fun e w' => ∃ (vi : Value) (fi : List Nat), e = .returned (.tuple #[.agg #[.int .i64 (rdA W[k]).rel, vi], .bool (okA W[k])]) ∧ ints w' vi (rdA W[k]).terms fi ∧ Fresh x.heap.size fi ∧ Below x.heap.size x w' := fun x hx => readAtom_any ⟨W[k].toArray⟩ x Hsz.out hx
            have hrb := rdA_bd W[k]
            have HS := Lib.hid (show la ++ [rdA W[k]] = (W.take (k + 1)).map rdA by rw [Hla.out, List.take_succ_eq_append_getElem hlt, List.map_append]; rfl)
            have HA2 := Lib.hid (show okA W[k] = true → (W.take (k + 1)).all okA = true from fun h => by rw [List.take_succ_eq_append_getElem hlt, List.all_append, HAl.out]; simp [h])
            have HN1 := Lib.hid (show okA W[k] = false → okQ t.data.toList = false from fun h => HOQ.out (.inl ⟨W[k], List.getElem_mem hlt, h⟩))
            have hlq : (rdA W[k]).terms.length ≤ 1048576 := Nat.le_trans (rdA_len W[k]) (HWp.out W[k] (List.getElem_mem hlt))
            generalize rdA W[k] = ax at hqa hrb HS hlq
            generalize okA W[k] = ok at hqa HA2 HN1
            generalize W[k] = x at pk Hsz hqa
            have hI : I64 ax.rel := ⟨by omega, by omega⟩
            go_wp2_with fail
            refine (hqa _ (HLW.out.on Bq)).mono ?_
            rintro e w3 ⟨vt, fi, rfl, hi3, hfi, hb3⟩
            clear hqa
            obtain ⟨pt, qt, rfl⟩ := slR.form hi3
            have hbx : Below w3.heap.size w3 (w3.alloc (.cells #[.int .i64 ax.rel, .slice pt ax.terms.length qt] 73)) := ba (Below.refl _ _)
            have hb3x := bt hb3 hbx
            have F3 := Fq.below hb3x
            have B3 := bt Bq hb3x
            have H43 := Lib.hid ((H45.out.sx hsq (by simpa using hwg)).below hb3x)
            cases ok with
            | false =>
              have HN := Lib.hid (HN1.out rfl)
              have H4e := H43
              have H4y := H4e.out
              obtain ⟨⟨r0, r1⟩, q0, q1⟩ := H4y
              go_wp2
              (try simp only [Exit.inBlock, Exit.then])
              refine bodyPost_ret (v := .tuple #[.agg #[.slice none 0 0, .slice none 0 0], .bool false]) ?_ rfl ?_
              · rw [results_cell_tmp rfl]
                simp [asAddr, Result.andThen, load_query2 H4e.out]
              · exact RqEnd.no rfl (.inl HN.out) (below_two2 B3 (Nat.le_refl _) _ _)
            | true =>
              have F3' := F3
              obtain ⟨⟨f0, f1⟩, y0, y1⟩ := F3'
              by_cases hk5 : k = 4
              · have hk4b : ((la.length : Int) == 4) = true := by have := Hlk.out; simp; omega
                have HN := Lib.hid (HOQ.out (.inr (show 4 < W.length by omega)))
                have H4e := H43
                have H4y := H4e.out
                obtain ⟨⟨r0, r1⟩, q0, q1⟩ := H4y
                go_wp2
                (try simp only [Exit.inBlock, Exit.then])
                refine bodyPost_ret (v := .tuple #[.agg #[.slice none 0 0, .slice none 0 0], .bool false]) ?_ rfl ?_
                · rw [results_cell_tmp rfl]
                  simp [asAddr, Result.andThen, load_query2 H4e.out]
                · exact RqEnd.no rfl (.inl HN.out) (below_two2 B3 (Nat.le_refl _) _ _)
              · have hk4b : ((la.length : Int) == 4) = false := by have := Hlk.out; rw [beq_eq_false_iff_ne]; omega
                have Htt : Two (w3.alloc (.cells #[.int .i64 ax.rel, .slice pt ax.terms.length qt] 73)) w3.heap.size (.int .i64 ax.rel) (.slice pt ax.terms.length qt) := Two.new _ _ _ _
                have Htt' := Htt
                obtain ⟨⟨e0, e1⟩, _, _⟩ := Htt'
                have hgr3 := hgq.below' good_atom hb3x
                have s3 : SX [w1.heap.size] w5 (w3.alloc (.cells #[.int .i64 ax.rel, .slice pt ax.terms.length qt] 73)) := hsq.below hb3x
                have hle : w5.heap.size ≤ (w3.alloc (.cells #[.int .i64 ax.rel, .slice pt ax.terms.length qt] 73)).heap.size := s3.1
                have hcb := cutW_below hle
                have hfr3 := hfi.mono hsq.1
                have hi4 := hi3.below' hbx
                have hdis : ∀ g ∈ fi, g ∉ fa := fun g hg hm => (by have h1 := hfi.2 g hg; have h2 := grR.lt good_atom hgq g hm; omega)
                rw [← cutW_size hle] at hgr3 hfr3
                go_wp2_with (at_builtin; refine wpList_gr2 slAtomS good_atom rfl _ _ rfl hgr3 hcb rfl #[.int .i64 ax.rel, .slice pt ax.terms.length qt] ax fi ⟨_, rfl, hI, hi4⟩ rfl hfr3 hdis (w3.heap.size + 1) (by simp) rfl (by simp [Value.oneCell']) (by omega) (by unfold maxLen; omega) ?_; intro g4 cap4 w4 fo4 hgr4 hb4 hg4 _ _; rw [cutW_size hle] at hgr4; have hown : ∀ j, (Value.slice av2 la.length cv2).ownBlock = some j → w5.heap.size ≤ j := gr_base hgq; have s4 : SX [w1.heap.size] w5 w4 := s3.grownBy hg4 hown; have s34 := SX.of_grown hg4; have hno : w1.heap.size ∉ (Value.slice av2 la.length cv2).ownBlock.toList := own_not hown h15; have F4 := F3.sx s34 hno; have B4 : Below w.heap.size w w4 := B3.trans (below_of_grown hg4 B3.size fun j hj => Nat.le_trans B5.size (hown j hj)); have F4' := F4; obtain ⟨⟨x0, x1⟩, z0, z1⟩ := F4')
                have Hgr5 := Lib.hid (hgr4.frame good_atom fun j hj => Below.heap_setCell w4 ⟨w1.heap.size, 1, none⟩ (.slice (some ⟨g4, 0, none⟩) (la.length + 1) cap4) j (fun e => by
                  have h1 := hgr4.fresh.2 j hj
                  simp only [] at e
                  omega))
                have HF5 := Lib.hid (F4.set1 (.slice (some ⟨g4, 0, none⟩) (la.length + 1) cap4))
                have HB5 := Lib.hid (bs (u := .slice (some ⟨g4, 0, none⟩) (la.length + 1) cap4) B4 (p := ⟨w1.heap.size, 1, none⟩) B1.size)
                have HS5 := Lib.hid (s4.setIn 1 (.slice (some ⟨g4, 0, none⟩) (la.length + 1) cap4))
                have HA3 := Lib.hid (HA2.out (by simp))
                have HL6 := Lib.hid (show (la ++ [ax]).length = k + 1 by have := Hlk.out; simp; omega)
                clear hgr4 F4 s4 F3 s3 hgr3 hcb s34 hi3 hfi hfr3 hi4
                go_roundw
                case rel => exact ⟨k + 1, _, la ++ [ax], fo4, by go_num, by omega, HL6, by omega, HS, HA3, HF5.out, by simpa using Hgr5.out, HS5.out, HB5.out⟩
                case measure => simp [intOf]; omega
          · have hkk : k = W.length := by omega
            have HQ := Lib.hid (show rdQ t.data.toList = ⟨lh, la⟩ by
              rw [HRQ.out, Hla.out, hkk, List.take_length])
            have HOK := Lib.hid (show okQ t.data.toList = true from HOY.out (by have h := HAl.out; rw [hkk, List.take_length] at h; exact h) (by omega))
            have HT : (termsL (⟨lh, la⟩ : QueryD).atoms).length ≤ 1048576 := by
              have h1 := HTW2.out
              have h2 : la = W.map rdA := by rw [Hla.out, hkk, List.take_length]
              rw [← h2] at h1
              exact h1
            clear hkk
            have hha : atoms wr (.slice av2 la.length cv2) (⟨lh, la⟩ : QueryD).atoms fa := hgq.sl
            have hhq : ints wr (.slice av lh.length cv) (⟨lh, la⟩ : QueryD).head fi := hh5.frame fun j hj => hsq.2 j (hfhl.out j hj) (by intro hm; rw [List.mem_singleton] at hm; subst hm; exact Hgh.out hj)
            have Hnh := Lib.hid (show w.heap.size ∉ fi from fun hm => by have h1 := Hfh.out.2 _ hm; have := B1.size; omega)
            have Hna := Lib.hid (show w.heap.size ∉ fa from fun hm => by have h1 := hgq.fresh.2 _ hm; have h2 := H45.out.lt; omega)
            have Hfr := Lib.hid (show Fresh w.heap.size (fi ++ fa) from ⟨List.nodup_append.2 ⟨Hfh.out.1, hgq.fresh.1, fun a ha b hb e => by
              subst e
              have h1 := hfhl.out a ha
              have h2 := hgq.fresh.2 a hb
              omega⟩, fun a ha => (List.mem_append.1 ha).elim (fun h => Nat.le_trans B1.size (Nat.le_of_succ_le (Hfh.out.2 a h))) (fun h => Nat.le_trans B5.size (hgq.fresh.2 a h))⟩)
            have H4q := Lib.hid (H45.out.sx hsq (by simpa using hwg))
            have hkl : ¬ (k : Int) < (W.length : Int) := by omega
            have Fq2 := Fq
            obtain ⟨⟨f0, f1⟩, y0, y1⟩ := Fq2
            obtain ⟨q, hq⟩ : ∃ q, (⟨lh, la⟩ : QueryD) = q := ⟨_, rfl⟩
            have hla4 : q.atoms.length ≤ 1048576 := by rw [← hq]; show la.length ≤ 1048576; omega
            have hlh : q.head.length ≤ 1048576 := by rw [← hq]; exact hhb
            rw [hq] at HQ HT hha hhq
            clear hq
            have hqf := fun (x : World) (hx : Below w.heap.size w x) (h1 : ints x (.slice av lh.length cv) q.head fi) (h2 : atoms x (.slice av2 la.length cv2) q.atoms fa) => implFormatQuery_any q (.slice av lh.length cv) fi (.slice av2 la.length cv2) fa x h1 h2 HT hlh hla4 (HLW.out.on hx).2.2.1
            by_cases heq : queryFS q = t.data.toList
            · have hse := str_eq heq
              have Heq := Lib.hid heq
              clear heq
              rw [hse] at hqf
              clear hse
              go_wp2_with fail
              go_region_law (go_simp
                             go_wp2_with (go_at_call 46
                                          refine (hqf _ ?_ (hhq.below' ?_) (hha.below' ?_)).mono ?_
                                          · (repeat (first | exact Bq | refine bdr ?_))
                                          · (repeat (first | exact Below.refl _ _ | refine bdr ?_))
                                          · (repeat (first | exact Below.refl _ _ | refine bdr ?_))
                                          rintro e we ⟨rfl, hbe'⟩
                                          have hbe : Below wr.heap.size wr we := bt (by (repeat (first | exact Below.refl _ _ | refine bdr ?_))) hbe'
                                          have d0 : we.cell? ⟨w1.heap.size, 0, none⟩ = some ((.slice av lh.length cv)) := cell_below f0 hbe
                                          have d1 : we.cell? ⟨w1.heap.size, 1, none⟩ = some (.slice av2 la.length cv2) := cell_below f1 hbe
                                          have H4e := Lib.hid (H4q.out.below hbe)
                                          have H4y := H4e.out
                                          obtain ⟨⟨r0, r1⟩, q0, q1⟩ := H4y))
              all_goals
                go_wp2
                (try simp only [Exit.inBlock, Exit.then])
                refine bodyPost_ret (v := .tuple #[.agg #[(.slice av lh.length cv), .slice av2 la.length cv2], .bool true]) ?_ rfl ?_
                · rw [results_cell_tmp rfl]
                  simp [asAddr, Result.andThen, load_query2 H4e.out, Act.put]
                · exact RqEnd.yes q _ _ _ _ rfl HQ.out HOK.out Heq.out (ints_two2 (ints.below' hhq hbe) Hnh.out _ _) (atoms_two2 (atoms.below' hha hbe) Hna.out _ _) Hfr.out (below_two2 (bt Bq hbe) (Nat.le_refl _) _ _)
            · have hse := str_ne heq
              have Heq := Lib.hid heq
              clear heq
              go_wp2_with fail
              go_region_law (go_simp
                             go_wp2_with (go_at_call 46
                                          refine (hqf _ ?_ (hhq.below' ?_) (hha.below' ?_)).mono ?_
                                          · (repeat (first | exact Bq | refine bdr ?_))
                                          · (repeat (first | exact Below.refl _ _ | refine bdr ?_))
                                          · (repeat (first | exact Below.refl _ _ | refine bdr ?_))
                                          rintro e we ⟨rfl, hbe'⟩
                                          have hbe : Below wr.heap.size wr we := bt (by (repeat (first | exact Below.refl _ _ | refine bdr ?_))) hbe'
                                          have d0 : we.cell? ⟨w1.heap.size, 0, none⟩ = some ((.slice av lh.length cv)) := cell_below f0 hbe
                                          have d1 : we.cell? ⟨w1.heap.size, 1, none⟩ = some (.slice av2 la.length cv2) := cell_below f1 hbe
                                          have H4e := Lib.hid (H4q.out.below hbe)
                                          have H4y := H4e.out
                                          obtain ⟨⟨r0, r1⟩, q0, q1⟩ := H4y))
              all_goals
                go_wp2
                (try simp only [Exit.inBlock, Exit.then])
                refine bodyPost_ret (v := .tuple #[.agg #[(.slice av lh.length cv), .slice av2 la.length cv2], .bool false]) ?_ rfl ?_
                · rw [results_cell_tmp rfl]
                  simp [asAddr, Result.andThen, load_query2 H4e.out, Act.put]
                · exact RqEnd.no rfl (.inr (by rw [HQ.out]; exact Heq.out)) (below_two2 (bt Bq hbe) (Nat.le_refl _) _ _)
theorem rdQ_bd {t : List UInt8} (h : okQ t = true) (ht : t.length ≤ 1048576) : (termsL (rdQ t).atoms).length ≤ 1048576 := by
  have h0 : (Lib.cut t ifS).2.2 = true := by
    cases hc : (Lib.cut t ifS).2.2 with
    | false => rw [okQ_cut hc] at h; cases h
    | true => rfl
  have h1 := cut_found t ifS h0
  have h2 := split_sum andS (by decide) (Lib.count (Lib.cut t ifS).2.1 andS) (Lib.cut t ifS).2.1
  have h3 := rdA_sum (partsQ (Lib.cut t ifS).2.1)
  have h4 : ifS.length = 4 := rfl
  show (termsL ((partsQ (Lib.cut t ifS).2.1).map rdA)).length ≤ _
  unfold partsQ at h3 ⊢
  omega
set_option maxRecDepth 100000 in
set_option maxHeartbeats 12800000 in
theorem implParseQuery_any (vs : Value) (s : List Int) (fs : List Nat) (t : ByteArray) (w : World) (hs : ints w vs s fs) (ht : t.size ≤ 1048576) (hL : LibW w) :
    Calls Tryz.prog 39 #[vs, .string t] w (PqEnd s t.data.toList w) := by
  have Htl := Lib.hid (show t.data.toList.length ≤ 1048576 by simpa using ht)
  have HLW := Lib.hid hL
  clear hL
  have hb0 : Below w.heap.size w (w.alloc (.cells #[.slice none 0 0, .slice none 0 0] 58)) := ba (Below.refl _ _)
  have h40 : Two (w.alloc (.cells #[.slice none 0 0, .slice none 0 0] 58)) w.heap.size (.slice none 0 0) (.slice none 0 0) := Two.new _ _ _ _
  go_enter Tryz.func39, Tryz.ntmps39
  go_wp2_with fail
  refine (readQuery_any t _ ht (HLW.out.on hb0)).mono ?_
  rintro e w1 ⟨vh, va, k, rfl, hb1, (⟨rfl, hno, ⟨ah, nh, ch, rfl⟩, aa, na, ca, rfl⟩ | ⟨rfl, hok, hfe, fh, fa, hih, hia, hfr⟩)⟩
  · have HN := Lib.hid (queryI_no (s := s) (hno.elim .inl fun h => .inr (.inr h)))
    clear hno
    have B1 := bt hb0 hb1
    have H4e := Lib.hid ((h40.below hb1).below (ba (o := .cells #[.slice ah nh ch, .slice aa na ca] 58) (Below.refl _ _)))
    have H4y := H4e.out
    obtain ⟨⟨r0, r1⟩, q0, q1⟩ := H4y
    go_wp2
    (try simp only [Exit.inBlock, Exit.then])
    refine bodyPost_ret (v := .tuple #[.agg #[.slice none 0 0, .slice none 0 0], .bool false]) ?_ rfl ?_
    · rw [results_cell_tmp rfl]
      simp [asAddr, Result.andThen, load_query2 H4e.out]
    · exact PqEnd.no rfl HN.out (below_two2 (ba B1) (Nat.le_refl _) _ _)
  · have HT := Lib.hid (rdQ_bd hok Htl.out)
    have HNB := Lib.hid (show queryB s (rdQ t.data.toList) = false → ∀ n, queryB s n = true → queryFS n ≠ t.data.toList from fun h => queryI_no (.inr (.inl h)))
    clear hok
    obtain ⟨q, hq⟩ : ∃ q, rdQ t.data.toList = q := ⟨_, rfl⟩
    rw [hq] at HT HNB hfe hih hia
    clear hq
    have Hfe := Lib.hid hfe
    clear hfe
    obtain ⟨ph, qh, rfl⟩ := slR.form hih
    obtain ⟨pa, qa, rfl⟩ := slR.form hia
    have B1 := bt hb0 hb1
    have hbx : Below w1.heap.size w1 (w1.alloc (.cells #[.slice ph q.head.length qh, .slice pa q.atoms.length qa] 58)) := ba (Below.refl _ _)
    have F : Two (w1.alloc (.cells #[.slice ph q.head.length qh, .slice pa q.atoms.length qa] 58)) w1.heap.size (.slice ph q.head.length qh) (.slice pa q.atoms.length qa) := Two.new _ _ _ _
    have Bx := bt B1 hbx
    have hhx := hih.below' hbx
    have hax := hia.below' hbx
    have Hfr := Lib.hid (hfr.mono hb0.size)
    have h41 := h40.below hb1
    have Hnh := Lib.hid (show w.heap.size ∉ fh from fun hm => by have h1 := hfr.2 _ (List.mem_append.2 (.inl hm)); simp only [World.alloc, Array.size_push] at h1; omega)
    have Hna := Lib.hid (show w.heap.size ∉ fa from fun hm => by have h1 := hfr.2 _ (List.mem_append.2 (.inr hm)); simp only [World.alloc, Array.size_push] at h1; omega)
    have H4x := Lib.hid (h41.below hbx)
    clear hih hia hfr h41 h40
    have Fq := F
    obtain ⟨⟨f0, f1⟩, y0, y1⟩ := Fq
    go_wp2_with fail
    cases hmb : queryB s q with
    | false =>
      have HN := Lib.hid (HNB.out hmb)
      refine (retBB (implIsQuery_any vs s fs q _ _ _ _ _ (hs.below' Bx) hhx hax HT.out) hmb).mono ?_
      rintro e wy ⟨rfl, hby⟩
      clear hmb
      have H4e := Lib.hid (H4x.out.below hby)
      have H4y := H4e.out
      obtain ⟨⟨r0, r1⟩, q0, q1⟩ := H4y
      go_wp2
      (try simp only [Exit.inBlock, Exit.then])
      refine bodyPost_ret (v := .tuple #[.agg #[.slice none 0 0, .slice none 0 0], .bool false]) ?_ rfl ?_
      · rw [results_cell_tmp rfl]
        simp [asAddr, Result.andThen, load_query2 H4e.out]
      · exact PqEnd.no rfl HN.out (below_two2 (bt Bx hby) (Nat.le_refl _) _ _)
    | true =>
      have Hmb := Lib.hid hmb
      refine (retBB (implIsQuery_any vs s fs q _ _ _ _ _ (hs.below' Bx) hhx hax HT.out) hmb).mono ?_
      rintro e wy ⟨rfl, hby⟩
      clear hmb
      have Fy := F.below hby
      obtain ⟨⟨k0, k1⟩, m0, m1⟩ := Fy
      have H4e := Lib.hid (H4x.out.below hby)
      have H4y := H4e.out
      obtain ⟨⟨r0, r1⟩, q0, q1⟩ := H4y
      go_wp2
      (try simp only [Exit.inBlock, Exit.then])
      refine bodyPost_ret (v := .tuple #[.agg #[.slice ph q.head.length qh, .slice pa q.atoms.length qa], .bool true]) ?_ rfl ?_
      · rw [results_cell_tmp rfl]
        simp [asAddr, Result.andThen, load_query2 H4e.out]
      · exact PqEnd.yes q _ _ _ _ rfl Hmb.out Hfe.out (ints_two2 (ints.below' hhx hby) Hnh.out _ _) (atoms_two2 (atoms.below' hax hby) Hna.out _ _) Hfr.out (below_two2 (bt Bx hby) (Nat.le_refl _) _ _)
end Go.Proofs.YtojjojcmemifhaaGreatDoor
