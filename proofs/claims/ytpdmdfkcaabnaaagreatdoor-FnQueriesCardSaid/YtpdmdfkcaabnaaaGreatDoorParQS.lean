/- ParseQuery of the reference: it returns what 'QueryIs' says. Condition: the text is no longer than 2^20. -/
import Derived.Test.YtpdmdfkcaabnaaaGreatDoorMT
import Derived.Test.YtpdmdfkcaabnaaaGreatDoorFmtQ
import Derived.Test.YtpdmdfkcaabnaaaGreatDoorHQuery
namespace Go.Proofs.YtpdmdfkcaabnaaaGreatDoor
open Go.RowKit
set_option linter.unusedVariables false
set_option linter.unusedSimpArgs false
/-- What parsing a query ends in. -/
def PqEnd (s : List Int) (t : List UInt8) (w : World) (e : Ending) (w' : World) : Prop :=
  ∃ (q : QueryD) (k : Bool) (vh va : Value) (fh fa : List Nat), e = .returned (.tuple #[.agg #[vh, va], .bool k]) ∧ QueryIs s t q k ∧ ints w' vh q.head fh ∧ atoms w' va q.atoms fa ∧ Fresh w.heap.size (fh ++ fa) ∧ Below w.heap.size w w'
theorem PqEnd.no {s : List Int} {t : List UInt8} {w : World} {e : Ending} {w' : World} (he : e = .returned (.tuple #[.agg #[.slice none 0 0, .slice none 0 0], .bool false])) (h : ∀ n, queryB s n = true → queryFS n ≠ t) (hb : Below w.heap.size w w') : PqEnd s t w e w' :=
  ⟨⟨[], []⟩, false, _, _, [], [], he, .inr ⟨h, rfl, rfl⟩, slR.nilv _ _ _ _, slR.nilv _ _ _ _, Fresh.nil _, hb⟩
theorem PqEnd.yes {s : List Int} {t : List UInt8} {w : World} {e : Ending} {w' : World} (x : QueryD) (vh va : Value) (fh fa : List Nat) (he : e = .returned (.tuple #[.agg #[vh, va], .bool true])) (h : queryB s x = true) (h3 : queryFS x = t) (hh : ints w' vh x.head fh) (ha : atoms w' va x.atoms fa) (hf : Fresh w.heap.size (fh ++ fa)) (hb : Below w.heap.size w w') : PqEnd s t w e w' :=
  ⟨x, true, vh, va, fh, fa, he, .inl ⟨h, h3, rfl⟩, hh, ha, hf, hb⟩
theorem query_bd {s : List Int} {q : QueryD} (h : queryB s q = true) : q.head.length ≤ 3 ∧ q.atoms.length ≤ 4 ∧ (termsL q.atoms).length ≤ 12 ∧ (q.atoms.map cntAtom).sum ≤ 16 := by
  have hf := query_fmt h
  obtain ⟨h1, h2, h3⟩ := queryFB_parts hf
  have h1 := inR_true h1
  unfold headB at h2
  simp only [Bool.and_eq_true, decide_eq_true_eq] at h2
  have ht : ∀ a ∈ q.atoms, a.terms.length ≤ 3 := fun a ha => by have := inR_true (atomFB_parts (atoms_all hf a ha)).2.1; omega
  have hs : ∀ l : List AtomD, (∀ a ∈ l, a.terms.length ≤ 3) → (termsL l).length ≤ 3 * l.length ∧ (l.map cntAtom).sum ≤ 4 * l.length := by
    intro l
    induction l with
    | nil => intro _; simp [termsL]
    | cons a t ih =>
      intro h
      obtain ⟨i1, i2⟩ := ih fun b hb => h b (by simp [hb])
      have ha := h a (by simp)
      constructor
      · unfold termsL at i1 ⊢
        simp only [List.flatMap_cons, List.length_append, List.length_cons]
        omega
      · simp only [List.map_cons, List.sum_cons, List.length_cons]
        have : cntAtom a = 1 + a.terms.length := rfl
        omega
  obtain ⟨h4, h5⟩ := hs _ ht
  exact ⟨by omega, by omega, by omega, by omega⟩
theorem QueryIs.small {s : List Int} {t : List UInt8} {x : QueryD} {k : Bool} (h : QueryIs s t x k) (ht : t.length ≤ 1048576) : x.head.length ≤ 3 ∧ (x.atoms.map cntAtom).sum ≤ 16 := by
  rcases h with ⟨h2, _, _⟩ | ⟨_, rfl, _⟩
  · exact ⟨(query_bd h2).1, (query_bd h2).2.2.2⟩
  · simp
theorem load_query {w : World} {g : Nat} {a b : Value} (h : Two w g a b) : (loadVar 58 ⟨g, 0, none⟩).run Tryz.prog w = .ok (.agg #[a, b]) w := load2 h Tryz.underlying58 rfl (by kernel_rfl)
theorem load_query2 {w : World} {g : Nat} {a b : Value} (h : Two w g a b) (a' b' : Value) : (loadVar 58 ⟨g, 0, none⟩).run Tryz.prog ((w.setCell ⟨g, 0, none⟩ a').setCell ⟨g, 1, none⟩ b') = .ok (.agg #[a', b']) ((w.setCell ⟨g, 0, none⟩ a').setCell ⟨g, 1, none⟩ b') := load_query (h.set a' b')
theorem atoms_two2 {w : World} {v : Value} {l : List AtomD} {f : List Nat} {g : Nat} (h : atoms w v l f) (hg : g ∉ f) (a b : Value) : atoms (two2 w g a b) v l f := (h.far hg a).far hg b
theorem relV_bd (t : List UInt8) : -999999999 ≤ relV t ∧ relV t ≤ 999999999 := by
  unfold relV
  split
  · exact numV_bd _
  · omega
theorem callS_parts (t : List UInt8) : (callS t).2.length ≤ t.length := by
  unfold callS
  split
  · rename_i h
    have hc : (Lib.cut t [40]).2.1.length + 1 ≤ t.length := by
      have h2 := h.2
      unfold Lib.cut at h2 ⊢
      split
      · rename_i h3
        rw [if_pos h3] at h2
        have := Lib.index_room t [40] h3
        simp at this ⊢
        omega
      · rename_i h3; rw [if_neg h3] at h2; cases h2
    have h1 := cutL_len 44 (Lib.cut t [40]).2.1.dropLast
    simp only [List.length_dropLast] at h1 ⊢
    omega
  · simp
theorem take_sum (W : List (List UInt8)) (m : Nat) : ((W.take (m + 1)).map List.length).sum = ((W.take m).map List.length).sum + (W.getD m []).length := by
  by_cases h : m < W.length
  · rw [List.take_succ_eq_append_getElem h, List.map_append, List.sum_append]; simp [h]
  · rw [List.take_of_length_le (by omega), List.take_of_length_le (by omega)]; simp [List.getElem?_eq_none (show W.length ≤ m by omega)]
theorem words_sum (W : List (List UInt8)) : ∀ n, (((List.range n).map fun k => W.getD (2 * k + 2) []).map List.length).sum ≤ ((W.take (2 * n + 1)).map List.length).sum
  | 0 => by simp
  | n + 1 => by
    have ih := words_sum W n
    have h1 := take_sum W (2 * n + 1)
    have h2 := take_sum W (2 * n + 2)
    rw [List.range_succ, List.map_append, List.map_append, List.sum_append, show 2 * (n + 1) + 1 = 2 * n + 2 + 1 by omega, h2]
    have h1 : ((W.take (2 * n + 2)).map List.length).sum = ((W.take (2 * n + 1)).map List.length).sum + (W.getD (2 * n + 1) []).length := h1
    simp only [List.map_cons, List.map_nil, List.sum_cons, List.sum_nil]
    omega
theorem suml_take_le (W : List (List UInt8)) (m : Nat) : ((W.take m).map List.length).sum ≤ (W.map List.length).sum := by
  conv => rhs; rw [← List.take_append_drop m W]
  rw [List.map_append, List.sum_append]; omega
/-- How many terms there are in all the atoms that are read. -/
theorem terms_bd {c : UInt8} {t : List UInt8} {W : List (List UInt8)} (h : cutL c t = W) : (termsL ((wordsA W).map atomV)).length ≤ t.length := by
  have h1 := cutL_sum c t
  rw [h] at h1
  have hne : W ≠ [] := by rw [← h]; exact cutL_ne c t
  have hlen : 1 ≤ W.length := by cases W with
    | nil => exact absurd rfl hne
    | cons x y => simp
  have h2 := words_sum W ((W.length - 1) / 2)
  have h3 := suml_take_le W (2 * ((W.length - 1) / 2) + 1)
  have h4 : ∀ l : List (List UInt8), (termsL (l.map atomV)).length ≤ (l.map List.length).sum := by
    intro l
    induction l with
    | nil => simp [termsL]
    | cons p r ih =>
      have hp := callS_parts p
      have he : (atomV p).terms.length = (callS p).2.length := by unfold atomV; simp
      unfold termsL at ih ⊢
      simp only [List.map_cons, List.flatMap_cons, List.length_append, List.sum_cons]
      omega
  have h5 := h4 (wordsA W)
  unfold wordsA at h5 ⊢
  omega
theorem wordsA_at {W : List (List UInt8)} {k : Nat} (hk : k < (W.length - 1) / 2) (hj : 2 * k + 2 < W.length) : (wordsA W).take (k + 1) = (wordsA W).take k ++ [W[2 * k + 2]] := by
  have hl : k < (wordsA W).length := by unfold wordsA; simp; exact hk
  rw [List.take_succ_eq_append_getElem hl]
  congr 1
  unfold wordsA
  simp [hj]
theorem wordsA_len (W : List (List UInt8)) : (wordsA W).length = (W.length - 1) / 2 := by unfold wordsA; simp
theorem query_no1 {s : List Int} {t : List UInt8} {x : QueryD} (h : (queryB s x = false ∨ queryFS x ≠ t) → ∀ n, queryB s n = true → queryFS n ≠ t) (hx : queryB s x = false) : ∀ n, queryB s n = true → queryFS n ≠ t := h (.inl hx)
theorem query_no2 {s : List Int} {t : List UInt8} {x : QueryD} (h : (queryB s x = false ∨ queryFS x ≠ t) → ∀ n, queryB s n = true → queryFS n ≠ t) (hx : queryFS x ≠ t) : ∀ n, queryB s n = true → queryFS n ≠ t := h (.inr hx)
set_option maxRecDepth 100000 in
set_option maxHeartbeats 12800000 in
theorem specParseQuery_any (vs : Value) (s : List Int) (fs : List Nat) (t : ByteArray) (w : World) (hs : ints w vs s fs) (ht : t.size ≤ 1048576) :
    Calls Tryz.prog 52 #[vs, .string t] w (PqEnd s t.data.toList w) := by
  have Htl := Lib.hid (show t.data.toList.length ≤ 1048576 by simpa using ht)
  have hb0 : Below w.heap.size w (w.alloc (.cells #[.slice none 0 0, .slice none 0 0] 58)) := ba (Below.refl _ _)
  have h40 : Two (w.alloc (.cells #[.slice none 0 0, .slice none 0 0] 58)) w.heap.size (.slice none 0 0) (.slice none 0 0) := Two.new _ _ _ _
  have hq : Calls Tryz.prog 131 #[.string t, .int .u8 32] (w.alloc (.cells #[.slice none 0 0, .slice none 0 0] 58)) (CutEnd (cutL 32 t.data.toList) (w.alloc (.cells #[.slice none 0 0, .slice none 0 0] 58))) := l2Cut_any t 32 _ ht
  obtain ⟨W, hW⟩ : ∃ W, cutL 32 t.data.toList = W := ⟨_, rfl⟩
  have HW := Lib.hid hW
  have HWp := Lib.hid (show ∀ p ∈ W, p.length ≤ 1048576 from fun p hp => Nat.le_trans (cutL_piece 32 _ p (by rw [hW]; exact hp)) Htl.out)
  have hWn : 0 < W.length := by rw [← hW]; exact List.length_pos_iff.2 (cutL_ne 32 _)
  have hWl : W.length ≤ 1048577 := by rw [← hW]; have := cutL_len 32 t.data.toList; have := Htl.out; omega
  rw [hW] at hq
  clear hW
  go_enter Tryz.func52, Tryz.ntmps52
  go_wp2_with fail
  refine hq.mono ?_
  rintro e w1 ⟨gw, cw, fw, rfl, hgw, hb1⟩
  have B1 := bt hb0 hb1
  have h41 := h40.below hb1
  have hgwlt : gw < w1.heap.size := (strs_cells hgw rfl).2.1
  have hgwg : gw ≠ w1.heap.size := by omega
  have hwg : w.heap.size ≠ w1.heap.size := by have := h41.lt; omega
  clear hq h40
  have hba1 : Below w1.heap.size w1 (w1.alloc (.cells #[.slice none 0 0, .slice none 0 0] 58)) := ba (Below.refl _ _)
  have F0 : Two (w1.alloc (.cells #[.slice none 0 0, .slice none 0 0] 58)) w1.heap.size (.slice none 0 0) (.slice none 0 0) := Two.new _ _ _ _
  have p0 := cell_below (strs_at hgw rfl 0 hWn) hba1
  have hW0 : W.getD 0 [] = W[0] := by simp [hWn]
  have HW0 := Lib.hid hW0
  have Ha0 := Lib.hid (HWp.out W[0] (List.getElem_mem hWn))
  obtain ⟨a0, ha0⟩ : ∃ a0, W[0] = a0 := ⟨_, rfl⟩
  rw [ha0] at p0 HW0 Ha0
  clear ha0 hW0
  have hW0i : (0 : Int) < (W.length : Int) := by omega
  by_cases hyes : a0 = [121, 101, 115]
  · have hyb : (a0 == [121, 101, 115]) = true := by simp [hyes]
    have HHD := Lib.hid (show headW (W.getD 0 []) = [] by rw [HW0.out]; unfold headW; rw [if_pos (show a0 = yesS from hyes)])
    clear hyes
    have Fz := F0
    have S1 : SX [w1.heap.size] w1 (w1.alloc (.cells #[.slice none 0 0, .slice none 0 0] 58)) := (SX.alloc _ _).more (by simp)
    have Bz := bt B1 hba1
    have H4z := Lib.hid (h41.below hba1)
    have hh0 : ints (w1.alloc (.cells #[.slice none 0 0, .slice none 0 0] 58)) (.slice none 0 0) [] [] := slR.nilv _ _ _ _
    have Hgh := Lib.hid (show w1.heap.size ∉ ([] : List Nat) by simp)
    have Hfh := Lib.hid (Fresh.nil (w1.heap.size + 1))
    have hzg : w1.heap.size < (w1.alloc (.cells #[.slice none 0 0, .slice none 0 0] 58)).heap.size := Fz.lt
    have hfhl := Lib.hid hh0.lt
    go_wp2
    go_loopw [10] (fun i wr => ∃ (k2 j : Nat) (va : Value) (la : List AtomD) (fa : List Nat), i = .int .i64 (j : Int) ∧ Hid (j = 2 * k2 + 2) ∧ k2 ≤ (W.length - 1) / 2 ∧ j ≤ W.length + 3 ∧ Hid (la = ((wordsA W).take k2).map atomV) ∧ Two wr w1.heap.size (.slice none 0 0) va ∧ grR 69 2 atomR (w1.alloc (.cells #[.slice none 0 0, .slice none 0 0] 58)).heap.size wr va la fa ∧ SX [w1.heap.size] (w1.alloc (.cells #[.slice none 0 0, .slice none 0 0] 58)) wr ∧ Below w.heap.size w wr) (fun i _ => W.length + 3 - (intOf i).toNat)
    case atStart => exact ⟨0, 2, _, [], [], rfl, Lib.hid rfl, Nat.zero_le _, by omega, Lib.hid (by simp), Fz, grR.nilv atomR, SX.refl _ _, Bz⟩
    case round =>
      obtain ⟨k2, j, va, la, fa, rfl, Hj, hk, hjl, Hla, Fq, hgq, hsq, Bq⟩ := hrel
      have hlb : la.length ≤ 1048577 := by rw [Hla.out]; simp; omega
      obtain ⟨av2, cv2, rfl⟩ := slR.form hgq.sl
      by_cases hlt : j < W.length
      · have hk2 : k2 < (W.length - 1) / 2 := by have := Hj.out; omega
        have pk := hsq.cell (S1.cell (strs_at hgw rfl j hlt) (by simpa using hgwg)) (by simpa using hgwg)
        have hkl : (j : Int) < (W.length : Int) := by omega
        have hk0 : (0 : Int) ≤ (j : Int) := by omega
        have Hsz := Lib.hid (arr_sz _ (HWp.out W[j] (List.getElem_mem hlt)))
        have HS := Lib.hid (show la ++ [atomV W[j]] = ((wordsA W).take (k2 + 1)).map atomV by
          have hj2 := Hj.out
          subst hj2
          rw [Hla.out, wordsA_at hk2 hlt, List.map_append]; rfl)
        have hrb := relV_bd (callS W[j]).1
        have hqa := fun (x : World) => l3ParseAtom_any ⟨W[j].toArray⟩ x Hsz.out
        unfold PaEnd at hqa
        rw [show (relV (callS W[j]).1) = (atomV W[j]).rel from rfl] at hrb
        have hqa2 := fun (x : World) => (show Calls Tryz.prog 133 #[.string ⟨W[j].toArray⟩] x fun e w' => ∃ (vi : Value) (fi : List Nat), e = .returned (.agg #[.int .i64 (atomV W[j]).rel, vi]) ∧ ints w' vi (atomV W[j]).terms fi ∧ Fresh x.heap.size fi ∧ Below x.heap.size x w' from hqa x)
        clear hqa
        generalize atomV W[j] = ax at HS hrb hqa2
        generalize W[j] = x at pk Hsz hqa2
        have hI : I64 ax.rel := ⟨by omega, by omega⟩
        have Fq2 := Fq
        obtain ⟨⟨f0, f1⟩, y0, y1⟩ := Fq2
        clear f0 y0
        go_wp2_with fail
        go_region_law ((first
            | (refine step_gr slAtomS good_atom rfl _ _ rfl hgr3 hcb (by rfl) #[.int .i64 ax.rel, .slice pt ax.terms.length qt] ax fi ⟨_, rfl, hI, hi3⟩ rfl hfr3 hdis (by rfl) (by simp [Value.oneCell']) (by omega) (by unfold maxLen; omega) ?_
               intro g4 cap4 w4 fa4 hgr4 hb4 hg4
               rw [cutW_size hle] at hgr4
               have hown : ∀ j, (Value.slice av2 la.length cv2).ownBlock = some j → (w1.alloc (.cells #[.slice none 0 0, .slice none 0 0] 58)).heap.size ≤ j := gr_base hgq
               have s4 : SX [w1.heap.size] (w1.alloc (.cells #[.slice none 0 0, .slice none 0 0] 58)) w4 := s3.grownBy hg4 hown
               have s34 := SX.of_grown hg4
               have hno : w1.heap.size ∉ (Value.slice av2 la.length cv2).ownBlock.toList := own_not hown hzg
               have F4 := F3.sx s34 hno
               have B4 : Below w.heap.size w w4 := (bt Bq hb3).trans (below_of_grown hg4 (bt Bq hb3).size fun j hj => Nat.le_trans Bz.size (hown j hj))
               have F4' := F4
               obtain ⟨⟨x0, x1⟩, z0, z1⟩ := F4')
            | (go_simp
               go_wp2_with (go_at_call 133
                            refine (hqa2 _).mono ?_
                            rintro e w3 ⟨vt, fi, rfl, hi3, hfi, hb3'⟩
                            obtain ⟨pt, qt, rfl⟩ := slR.form hi3
                            have hfi0 : Fresh wr.heap.size fi := hfi
                            have hb3 : Below wr.heap.size wr w3 := bt (by (repeat (first | exact Below.refl _ _ | refine bdr ?_ | refine ba ?_))) hb3'
                            have d1 : w3.cell? ⟨w1.heap.size, 1, none⟩ = some (.slice av2 la.length cv2) := cell_below f1 hb3
                            have d1' : (w3.alloc (.cells #[.int .i64 ax.rel, .slice pt ax.terms.length qt] 69)).cell? ⟨w1.heap.size, 1, none⟩ = some (.slice av2 la.length cv2) := cell_al d1 _
                            have hdis : ∀ g ∈ fi, g ∉ fa := fun g hg hm => (by have h1 := hfi0.2 g hg; have h2 := grR.lt good_atom hgq g hm; omega)
                            have hgr3 := hgq.below' good_atom hb3
                            have s3 : SX [w1.heap.size] (w1.alloc (.cells #[.slice none 0 0, .slice none 0 0] 58)) w3 := hsq.below hb3
                            have F3 := Fq.below hb3
                            have hle : (w1.alloc (.cells #[.slice none 0 0, .slice none 0 0] 58)).heap.size ≤ w3.heap.size := s3.1
                            have hcb := cutW_below hle
                            have hfr3 := hfi0.mono hsq.1
                            rw [← cutW_size hle] at hgr3 hfr3))))
        all_goals
          have Hgr5 := Lib.hid (hgr4.frame good_atom fun j hj => Below.heap_setCell w4 ⟨w1.heap.size, 1, none⟩ (.slice (some ⟨g4, 0, none⟩) (la.length + 1) cap4) j (fun e => by
            have h1 := hgr4.fresh.2 j hj
            simp only [] at e
            omega))
          have HF5 := Lib.hid (F4.set1 (.slice (some ⟨g4, 0, none⟩) (la.length + 1) cap4))
          have HB5 := Lib.hid (bs (u := .slice (some ⟨g4, 0, none⟩) (la.length + 1) cap4) B4 (p := ⟨w1.heap.size, 1, none⟩) B1.size)
          have HS5 := Lib.hid (s4.setIn 1 (.slice (some ⟨g4, 0, none⟩) (la.length + 1) cap4))
          have HJ2 := Lib.hid (show j + 2 = 2 * (k2 + 1) + 2 by have := Hj.out; omega)
          clear hgr4 F4 s4 F3 s3 hgr3 hcb s34 hi3 hfi hfi0 hfr3 hqa2
          go_wp2
          go_roundw
          case rel => exact ⟨k2 + 1, j + 2, _, la ++ [ax], fa4, by go_num, HJ2, by omega, by omega, HS, HF5.out, by simpa using Hgr5.out, HS5.out, HB5.out⟩
          case measure => simp [intOf]; omega
      · have hkk : k2 = (W.length - 1) / 2 := by have := Hj.out; omega
        have HQ := Lib.hid (show queryV t.data.toList = ⟨[], la⟩ by
          unfold queryV
          rw [HW.out, HHD.out, Hla.out, hkk, ← wordsA_len W, List.take_length])
        have HT := Lib.hid (show (termsL (⟨[], la⟩ : QueryD).atoms).length ≤ 1048576 by
          have h1 := terms_bd HW.out
          have h2 : la = (wordsA W).map atomV := by rw [Hla.out, hkk, ← wordsA_len W, List.take_length]
          rw [← h2] at h1
          exact Nat.le_trans h1 Htl.out)
        clear hkk
        have hha := hgq.sl
        have hhq : ints wr (.slice none 0 0) [] [] := hh0.frame fun j hj => hsq.2 j (hfhl.out j hj) (by intro hm; rw [List.mem_singleton] at hm; subst hm; exact Hgh.out hj)
        have Hnh := Lib.hid (show w.heap.size ∉ [] from fun hm => by have h1 := Hfh.out.2 _ hm; have := B1.size; omega)
        have Hna := Lib.hid (show w.heap.size ∉ fa from fun hm => by have h1 := hgq.fresh.2 _ hm; have h2 := H4z.out.lt; omega)
        have Hfr := Lib.hid (show Fresh w.heap.size ([] ++ fa) from ⟨List.nodup_append.2 ⟨Hfh.out.1, hgq.fresh.1, fun a ha b hb e => by
          subst e
          have h1 := hfhl.out a ha
          have h2 := hgq.fresh.2 a hb
          omega⟩, fun a ha => (List.mem_append.1 ha).elim (fun h => Nat.le_trans B1.size (Nat.le_of_succ_le (Hfh.out.2 a h))) (fun h => Nat.le_trans Bz.size (hgq.fresh.2 a h))⟩)
        have H4q := Lib.hid (H4z.out.sx hsq (by simpa using hwg))
        have hkl : ¬ (j : Int) < (W.length : Int) := by omega
        have Fq2 := Fq
        obtain ⟨⟨f0, f1⟩, y0, y1⟩ := Fq2
        go_wp2_with fail
        cases hmb : queryB s ⟨[], la⟩ with
        | false =>
          have HN := Lib.hid (query_no1 (s := s) (by rw [← HQ.out]; exact query_no) hmb)
          refine (retBB (specIsQuery_any vs s fs ⟨[], la⟩ _ _ _ _ _ (hs.below' Bq) hhq hha HT.out) hmb).mono ?_
          rintro e wy ⟨rfl, hby⟩
          clear hmb
          have H4e := Lib.hid (H4q.out.below hby)
          have H4y := H4e.out
          obtain ⟨⟨r0, r1⟩, q0, q1⟩ := H4y
          go_wp2
          (try simp only [Exit.inBlock, Exit.then])
          refine bodyPost_ret (v := .tuple #[.agg #[.slice none 0 0, .slice none 0 0], .bool false]) ?_ rfl ?_
          · rw [results_cell_tmp rfl]
            simp [asAddr, Result.andThen, load_query2 H4e.out]
          · exact PqEnd.no rfl HN.out (below_two2 (bt Bq hby) (Nat.le_refl _) _ _)
        | true =>
          have Hmb := Lib.hid hmb
          have hqb := query_bd hmb
          have Hqb := Lib.hid hqb
          refine (retBB (specIsQuery_any vs s fs ⟨[], la⟩ _ _ _ _ _ (hs.below' Bq) hhq hha HT.out) hmb).mono ?_
          rintro e wy ⟨rfl, hby⟩
          clear hmb hqb
          have Fy := Fq.below hby
          have Fy2 := Fy
          obtain ⟨⟨k0, k1⟩, m0, m1⟩ := Fy2
          go_wp2_with fail
          refine (specFormatQuery_any ⟨[], la⟩ _ _ _ _ _ (ints.below' hhq hby) (atoms.below' hha hby) HT.out (Nat.le_trans Hqb.out.1 (by omega)) (Nat.le_trans Hqb.out.2.1 (by omega))).mono ?_
          rintro e we ⟨rfl, hbe⟩
          have hbye := bt hby hbe
          have H4e := Lib.hid (H4q.out.below hbye)
          by_cases heq : queryFS ⟨[], la⟩ = t.data.toList
          · have hse := str_eq heq
            have Heq := Lib.hid heq
            clear heq
            rw [hse]
            clear hse
            have Fz := Fy.below hbe
            obtain ⟨⟨x0', x1'⟩, z0, z1⟩ := Fz
            have H4y := H4e.out
            obtain ⟨⟨r0, r1⟩, q0, q1⟩ := H4y
            go_wp2
            (try simp only [Exit.inBlock, Exit.then])
            refine bodyPost_ret (v := .tuple #[.agg #[(.slice none 0 0), (.slice av2 la.length cv2)], .bool true]) ?_ rfl ?_
            · rw [results_cell_tmp rfl]
              simp [asAddr, Result.andThen, load_query2 H4e.out]
            · exact PqEnd.yes ⟨[], la⟩ _ _ _ _ rfl Hmb.out Heq.out (ints_two2 (ints.below' hhq hbye) Hnh.out _ _) (atoms_two2 (atoms.below' hha hbye) Hna.out _ _) Hfr.out (below_two2 (bt Bq hbye) (Nat.le_refl _) _ _)
          · have hse := str_ne heq
            have HN := Lib.hid (query_no2 (s := s) (by rw [← HQ.out]; exact query_no) heq)
            clear heq
            have H4y := H4e.out
            obtain ⟨⟨r0, r1⟩, q0, q1⟩ := H4y
            go_wp2
            (try simp only [Exit.inBlock, Exit.then])
            refine bodyPost_ret (v := .tuple #[.agg #[.slice none 0 0, .slice none 0 0], .bool false]) ?_ rfl ?_
            · rw [results_cell_tmp rfl]
              simp [asAddr, Result.andThen, load_query2 H4e.out]
            · exact PqEnd.no rfl HN.out (below_two2 (bt Bq hbye) (Nat.le_refl _) _ _)
  · have hyb : (a0 == [121, 101, 115]) = false := by simp [hyes]
    have HHD0 := Lib.hid (show headW (W.getD 0 []) = (cutL 44 a0).map termV by rw [HW0.out]; unfold headW; rw [if_neg (show a0 ≠ yesS from hyes)])
    clear hyes
    have Hl2 := Lib.hid (arr_sz a0 Ha0.out)
    go_wp2_with fail
    refine (l2Cut_any ⟨a0.toArray⟩ 44 _ Hl2.out).mono ?_
    rintro e w2 ⟨gp, cp, fp, rfl, hgp, hbp⟩
    obtain ⟨L, hL⟩ : ∃ L, cutL 44 a0 = L := ⟨_, rfl⟩
    have hLn : L.length ≤ 1048577 := by rw [← hL]; have := cutL_len 44 a0; have := Ha0.out; omega
    have HLp := Lib.hid (show ∀ p ∈ L, p.length ≤ 1048576 from fun p hp => Nat.le_trans (cutL_piece 44 _ p (by rw [hL]; exact hp)) Ha0.out)
    have HHD1 := Lib.hid (show headW (W.getD 0 []) = L.map termV by rw [HHD0.out, hL])
    rw [show cutL 44 (⟨a0.toArray⟩ : ByteArray).data.toList = L from hL] at hgp
    rw [show cutL 44 (⟨a0.toArray⟩ : ByteArray).data.toList = L from hL]
    clear hL HHD0
    have Bp := bt (bt B1 hba1) hbp
    have Fp := F0.below hbp
    have hgpne : gp ≠ w1.heap.size := by
      have h2 := gr_base hgp gp rfl
      simp only [World.alloc, Array.size_push] at h2
      omega
    have h12 : w1.heap.size < w2.heap.size := Fp.lt
    have hgplt : gp < w2.heap.size := (strs_cells hgp rfl).2.1
    have Hba1 := Lib.hid hba1
    go_wp2
    go_loopw [9] (fun i wr => ∃ (k : Nat) (vi : Value) (lo : List Int) (fo : List Nat), i = .int .i64 (k : Int) ∧ k ≤ L.length ∧ Hid (lo = (L.take k).map termV) ∧ Two wr w1.heap.size vi (.slice none 0 0) ∧ grR 3 1 intR w2.heap.size wr vi lo fo ∧ SX [w1.heap.size] w2 wr ∧ Below w.heap.size w wr) (fun i _ => L.length - (intOf i).toNat)
    case atStart => exact ⟨0, _, [], [], rfl, Nat.zero_le _, Lib.hid (by simp), Fp, grR.nilv intR, SX.refl _ _, Bp⟩
    case round =>
      obtain ⟨k, vi, lo, fo, rfl, hk, Hlo, Fr, hgr, hsx, Br⟩ := hrel
      have hlb : lo.length ≤ 1048577 := by rw [Hlo.out]; simp; omega
      obtain ⟨av, cv, rfl⟩ := slR.form hgr.sl
      by_cases hlt : k < L.length
      · have hkl : (k : Int) < (L.length : Int) := by omega
        have hk0 : (0 : Int) ≤ (k : Int) := by omega
        have pk := hsx.cell (strs_at hgp rfl k hlt) (by simpa using hgpne)
        have Hsz := Lib.hid (arr_sz _ (HLp.out L[k] (List.getElem_mem hlt)))
        have HS := Lib.hid (show lo ++ [termV L[k]] = (L.take (k + 1)).map termV by rw [Hlo.out, List.take_succ_eq_append_getElem hlt, List.map_append]; rfl)
        have hnb := termV_bd L[k]
        generalize L[k] = x at pk Hsz HS hnb
        have hI : I64 (termV x) := ⟨by omega, by omega⟩
        have Fr2 := Fr
        obtain ⟨⟨f0, f1⟩, y0, y1⟩ := Fr2
        clear f1 y1
        go_wp2_with fail
        go_region_law ((first
            | (refine step_gr slInt good_int rfl _ _ rfl hgr3 hcb (by rfl) #[.int .i64 (termV x)] (termV x) [] ⟨rfl, rfl, hI⟩ rfl (Fresh.nil _) (by simp) (by rfl) (by simp [Value.oneCell']) (by omega) (by unfold maxLen; omega) ?_
               intro g4 cap4 w4 fo4 hgr4 hb4 hg4
               rw [cutW_size hle] at hgr4
               have hown : ∀ j, (Value.slice av lo.length cv).ownBlock = some j → w2.heap.size ≤ j := gr_base hgr
               have s4 : SX [w1.heap.size] w2 w4 := s3.grownBy hg4 hown
               have s34 := SX.of_grown hg4
               have hno : w1.heap.size ∉ (Value.slice av lo.length cv).ownBlock.toList := own_not hown h12
               have F4 := F3.sx s34 hno
               have B4 : Below w.heap.size w w4 := (bt Br hb3).trans (below_of_grown hg4 (bt Br hb3).size fun j hj => Nat.le_trans Bp.size (hown j hj))
               have F4' := F4
               obtain ⟨⟨x0, x1⟩, z0, z1⟩ := F4')
            | (go_simp
               go_wp2_with (go_at_call 132
                            refine (l3ParseTerm_any ⟨x.toArray⟩ _ Hsz.out).mono ?_
                            rintro e w3 ⟨rfl, hb3'⟩
                            have hb3 : Below wr.heap.size wr w3 := bt (by (repeat (first | exact Below.refl _ _ | refine bdr ?_ | refine ba ?_))) hb3'
                            have d1 : w3.cell? ⟨w1.heap.size, 0, none⟩ = some (.slice av lo.length cv) := cell_below f0 hb3
                            have d1' : (w3.alloc (.cells #[.int .i64 (termV x)] 3)).cell? ⟨w1.heap.size, 0, none⟩ = some (.slice av lo.length cv) := cell_al d1 _
                            have hgr3 := hgr.below' good_int hb3
                            have s3 : SX [w1.heap.size] w2 w3 := hsx.below hb3
                            have F3 := Fr.below hb3
                            have hle : w2.heap.size ≤ w3.heap.size := s3.1
                            have hcb := cutW_below hle
                            rw [← cutW_size hle] at hgr3))))
        all_goals
          have Hgr5 := Lib.hid (hgr4.frame good_int fun j hj => Below.heap_setCell w4 ⟨w1.heap.size, 0, none⟩ (.slice (some ⟨g4, 0, none⟩) (lo.length + 1) cap4) j (fun e => by
            have h1 := hgr4.fresh.2 j hj
            simp only [] at e
            omega))
          have HF5 := Lib.hid (F4.set0 (.slice (some ⟨g4, 0, none⟩) (lo.length + 1) cap4))
          have HB5 := Lib.hid (bs (u := .slice (some ⟨g4, 0, none⟩) (lo.length + 1) cap4) B4 (p := ⟨w1.heap.size, 0, none⟩) B1.size)
          have HS5 := Lib.hid (s4.setIn 0 (.slice (some ⟨g4, 0, none⟩) (lo.length + 1) cap4))
          clear hgr4 F4 s4 F3 s3 hgr3 hcb s34
          go_wp2
          go_roundw
          case rel => exact ⟨k + 1, _, lo ++ [termV x], fo4, by go_num, by omega, HS, HF5.out, Hgr5.out, HS5.out, HB5.out⟩
          case measure => simp [intOf]; omega
      · have HHD := Lib.hid (show headW (W.getD 0 []) = lo by rw [HHD1.out, Hlo.out, List.take_of_length_le (by omega)])
        have Fz := Fr
        have S1 : SX [w1.heap.size] w1 wr := ((SX.of_below (bt Hba1.out hbp)).more (by simp)).one hsx
        have Bz := Br
        have H4z := Lib.hid (((h41.below Hba1.out).below hbp).sx hsx (by simpa using hwg))
        have hh0 := ints.frame hgr.sl (w' := wr) fun _ _ => rfl
        have Hgh := Lib.hid (show w1.heap.size ∉ fo from fun hm => by have h1 := hgr.fresh.2 _ hm; omega)
        have Hfh := Lib.hid (hgr.fresh.mono (show w1.heap.size + 1 ≤ w2.heap.size from h12))
        have hkl : ¬ (k : Int) < (L.length : Int) := by omega
        clear hgp Fp hgr p0 F0
        obtain ⟨wz, ewz⟩ : ∃ x, x = wr := ⟨_, rfl⟩
        subst ewz
        have hzg : w1.heap.size < wz.heap.size := Fz.lt
        have hfhl := Lib.hid hh0.lt
        go_wp2
        go_loopw [10] (fun i wr => ∃ (k2 j : Nat) (va : Value) (la : List AtomD) (fa : List Nat), i = .int .i64 (j : Int) ∧ Hid (j = 2 * k2 + 2) ∧ k2 ≤ (W.length - 1) / 2 ∧ j ≤ W.length + 3 ∧ Hid (la = ((wordsA W).take k2).map atomV) ∧ Two wr w1.heap.size (.slice av lo.length cv) va ∧ grR 69 2 atomR wz.heap.size wr va la fa ∧ SX [w1.heap.size] wz wr ∧ Below w.heap.size w wr) (fun i _ => W.length + 3 - (intOf i).toNat)
        case atStart => exact ⟨0, 2, _, [], [], rfl, Lib.hid rfl, Nat.zero_le _, by omega, Lib.hid (by simp), Fz, grR.nilv atomR, SX.refl _ _, Bz⟩
        case round =>
          obtain ⟨k2, j, va, la, fa, rfl, Hj, hk, hjl, Hla, Fq, hgq, hsq, Bq⟩ := hrel
          have hlb : la.length ≤ 1048577 := by rw [Hla.out]; simp; omega
          obtain ⟨av2, cv2, rfl⟩ := slR.form hgq.sl
          by_cases hlt : j < W.length
          · have hk2 : k2 < (W.length - 1) / 2 := by have := Hj.out; omega
            have pk := hsq.cell (S1.cell (strs_at hgw rfl j hlt) (by simpa using hgwg)) (by simpa using hgwg)
            have hkl : (j : Int) < (W.length : Int) := by omega
            have hk0 : (0 : Int) ≤ (j : Int) := by omega
            have Hsz := Lib.hid (arr_sz _ (HWp.out W[j] (List.getElem_mem hlt)))
            have HS := Lib.hid (show la ++ [atomV W[j]] = ((wordsA W).take (k2 + 1)).map atomV by
              have hj2 := Hj.out
              subst hj2
              rw [Hla.out, wordsA_at hk2 hlt, List.map_append]; rfl)
            have hrb := relV_bd (callS W[j]).1
            have hqa := fun (x : World) => l3ParseAtom_any ⟨W[j].toArray⟩ x Hsz.out
            unfold PaEnd at hqa
            rw [show (relV (callS W[j]).1) = (atomV W[j]).rel from rfl] at hrb
            have hqa2 := fun (x : World) => (show Calls Tryz.prog 133 #[.string ⟨W[j].toArray⟩] x fun e w' => ∃ (vi : Value) (fi : List Nat), e = .returned (.agg #[.int .i64 (atomV W[j]).rel, vi]) ∧ ints w' vi (atomV W[j]).terms fi ∧ Fresh x.heap.size fi ∧ Below x.heap.size x w' from hqa x)
            clear hqa
            generalize atomV W[j] = ax at HS hrb hqa2
            generalize W[j] = x at pk Hsz hqa2
            have hI : I64 ax.rel := ⟨by omega, by omega⟩
            have Fq2 := Fq
            obtain ⟨⟨f0, f1⟩, y0, y1⟩ := Fq2
            clear f0 y0
            go_wp2_with fail
            go_region_law ((first
                | (refine step_gr slAtomS good_atom rfl _ _ rfl hgr3 hcb (by rfl) #[.int .i64 ax.rel, .slice pt ax.terms.length qt] ax fi ⟨_, rfl, hI, hi3⟩ rfl hfr3 hdis (by rfl) (by simp [Value.oneCell']) (by omega) (by unfold maxLen; omega) ?_
                   intro g4 cap4 w4 fa4 hgr4 hb4 hg4
                   rw [cutW_size hle] at hgr4
                   have hown : ∀ j, (Value.slice av2 la.length cv2).ownBlock = some j → wz.heap.size ≤ j := gr_base hgq
                   have s4 : SX [w1.heap.size] wz w4 := s3.grownBy hg4 hown
                   have s34 := SX.of_grown hg4
                   have hno : w1.heap.size ∉ (Value.slice av2 la.length cv2).ownBlock.toList := own_not hown hzg
                   have F4 := F3.sx s34 hno
                   have B4 : Below w.heap.size w w4 := (bt Bq hb3).trans (below_of_grown hg4 (bt Bq hb3).size fun j hj => Nat.le_trans Bz.size (hown j hj))
                   have F4' := F4
                   obtain ⟨⟨x0, x1⟩, z0, z1⟩ := F4')
                | (go_simp
                   go_wp2_with (go_at_call 133
                                refine (hqa2 _).mono ?_
                                rintro e w3 ⟨vt, fi, rfl, hi3, hfi, hb3'⟩
                                obtain ⟨pt, qt, rfl⟩ := slR.form hi3
                                have hfi0 : Fresh wr.heap.size fi := hfi
                                have hb3 : Below wr.heap.size wr w3 := bt (by (repeat (first | exact Below.refl _ _ | refine bdr ?_ | refine ba ?_))) hb3'
                                have d1 : w3.cell? ⟨w1.heap.size, 1, none⟩ = some (.slice av2 la.length cv2) := cell_below f1 hb3
                                have d1' : (w3.alloc (.cells #[.int .i64 ax.rel, .slice pt ax.terms.length qt] 69)).cell? ⟨w1.heap.size, 1, none⟩ = some (.slice av2 la.length cv2) := cell_al d1 _
                                have hdis : ∀ g ∈ fi, g ∉ fa := fun g hg hm => (by have h1 := hfi0.2 g hg; have h2 := grR.lt good_atom hgq g hm; omega)
                                have hgr3 := hgq.below' good_atom hb3
                                have s3 : SX [w1.heap.size] wz w3 := hsq.below hb3
                                have F3 := Fq.below hb3
                                have hle : wz.heap.size ≤ w3.heap.size := s3.1
                                have hcb := cutW_below hle
                                have hfr3 := hfi0.mono hsq.1
                                rw [← cutW_size hle] at hgr3 hfr3))))
            all_goals
              have Hgr5 := Lib.hid (hgr4.frame good_atom fun j hj => Below.heap_setCell w4 ⟨w1.heap.size, 1, none⟩ (.slice (some ⟨g4, 0, none⟩) (la.length + 1) cap4) j (fun e => by
                have h1 := hgr4.fresh.2 j hj
                simp only [] at e
                omega))
              have HF5 := Lib.hid (F4.set1 (.slice (some ⟨g4, 0, none⟩) (la.length + 1) cap4))
              have HB5 := Lib.hid (bs (u := .slice (some ⟨g4, 0, none⟩) (la.length + 1) cap4) B4 (p := ⟨w1.heap.size, 1, none⟩) B1.size)
              have HS5 := Lib.hid (s4.setIn 1 (.slice (some ⟨g4, 0, none⟩) (la.length + 1) cap4))
              have HJ2 := Lib.hid (show j + 2 = 2 * (k2 + 1) + 2 by have := Hj.out; omega)
              clear hgr4 F4 s4 F3 s3 hgr3 hcb s34 hi3 hfi hfi0 hfr3 hqa2
              go_wp2
              go_roundw
              case rel => exact ⟨k2 + 1, j + 2, _, la ++ [ax], fa4, by go_num, HJ2, by omega, by omega, HS, HF5.out, by simpa using Hgr5.out, HS5.out, HB5.out⟩
              case measure => simp [intOf]; omega
          · have hkk : k2 = (W.length - 1) / 2 := by have := Hj.out; omega
            have HQ := Lib.hid (show queryV t.data.toList = ⟨lo, la⟩ by
              unfold queryV
              rw [HW.out, HHD.out, Hla.out, hkk, ← wordsA_len W, List.take_length])
            have HT := Lib.hid (show (termsL (⟨lo, la⟩ : QueryD).atoms).length ≤ 1048576 by
              have h1 := terms_bd HW.out
              have h2 : la = (wordsA W).map atomV := by rw [Hla.out, hkk, ← wordsA_len W, List.take_length]
              rw [← h2] at h1
              exact Nat.le_trans h1 Htl.out)
            clear hkk
            have hha := hgq.sl
            have hhq : ints wr (.slice av lo.length cv) lo fo := hh0.frame fun j hj => hsq.2 j (hfhl.out j hj) (by intro hm; rw [List.mem_singleton] at hm; subst hm; exact Hgh.out hj)
            have Hnh := Lib.hid (show w.heap.size ∉ fo from fun hm => by have h1 := Hfh.out.2 _ hm; have := B1.size; omega)
            have Hna := Lib.hid (show w.heap.size ∉ fa from fun hm => by have h1 := hgq.fresh.2 _ hm; have h2 := H4z.out.lt; omega)
            have Hfr := Lib.hid (show Fresh w.heap.size (fo ++ fa) from ⟨List.nodup_append.2 ⟨Hfh.out.1, hgq.fresh.1, fun a ha b hb e => by
              subst e
              have h1 := hfhl.out a ha
              have h2 := hgq.fresh.2 a hb
              omega⟩, fun a ha => (List.mem_append.1 ha).elim (fun h => Nat.le_trans B1.size (Nat.le_of_succ_le (Hfh.out.2 a h))) (fun h => Nat.le_trans Bz.size (hgq.fresh.2 a h))⟩)
            have H4q := Lib.hid (H4z.out.sx hsq (by simpa using hwg))
            have hkl : ¬ (j : Int) < (W.length : Int) := by omega
            have Fq2 := Fq
            obtain ⟨⟨f0, f1⟩, y0, y1⟩ := Fq2
            go_wp2_with fail
            cases hmb : queryB s ⟨lo, la⟩ with
            | false =>
              have HN := Lib.hid (query_no1 (s := s) (by rw [← HQ.out]; exact query_no) hmb)
              refine (retBB (specIsQuery_any vs s fs ⟨lo, la⟩ _ _ _ _ _ (hs.below' Bq) hhq hha HT.out) hmb).mono ?_
              rintro e wy ⟨rfl, hby⟩
              clear hmb
              have H4e := Lib.hid (H4q.out.below hby)
              have H4y := H4e.out
              obtain ⟨⟨r0, r1⟩, q0, q1⟩ := H4y
              go_wp2
              (try simp only [Exit.inBlock, Exit.then])
              refine bodyPost_ret (v := .tuple #[.agg #[.slice none 0 0, .slice none 0 0], .bool false]) ?_ rfl ?_
              · rw [results_cell_tmp rfl]
                simp [asAddr, Result.andThen, load_query2 H4e.out]
              · exact PqEnd.no rfl HN.out (below_two2 (bt Bq hby) (Nat.le_refl _) _ _)
            | true =>
              have Hmb := Lib.hid hmb
              have hqb := query_bd hmb
              have Hqb := Lib.hid hqb
              refine (retBB (specIsQuery_any vs s fs ⟨lo, la⟩ _ _ _ _ _ (hs.below' Bq) hhq hha HT.out) hmb).mono ?_
              rintro e wy ⟨rfl, hby⟩
              clear hmb hqb
              have Fy := Fq.below hby
              have Fy2 := Fy
              obtain ⟨⟨k0, k1⟩, m0, m1⟩ := Fy2
              go_wp2_with fail
              refine (specFormatQuery_any ⟨lo, la⟩ _ _ _ _ _ (ints.below' hhq hby) (atoms.below' hha hby) HT.out (Nat.le_trans Hqb.out.1 (by omega)) (Nat.le_trans Hqb.out.2.1 (by omega))).mono ?_
              rintro e we ⟨rfl, hbe⟩
              have hbye := bt hby hbe
              have H4e := Lib.hid (H4q.out.below hbye)
              by_cases heq : queryFS ⟨lo, la⟩ = t.data.toList
              · have hse := str_eq heq
                have Heq := Lib.hid heq
                clear heq
                rw [hse]
                clear hse
                have Fz := Fy.below hbe
                obtain ⟨⟨x0', x1'⟩, z0, z1⟩ := Fz
                have H4y := H4e.out
                obtain ⟨⟨r0, r1⟩, q0, q1⟩ := H4y
                go_wp2
                (try simp only [Exit.inBlock, Exit.then])
                refine bodyPost_ret (v := .tuple #[.agg #[(.slice av lo.length cv), (.slice av2 la.length cv2)], .bool true]) ?_ rfl ?_
                · rw [results_cell_tmp rfl]
                  simp [asAddr, Result.andThen, load_query2 H4e.out]
                · exact PqEnd.yes ⟨lo, la⟩ _ _ _ _ rfl Hmb.out Heq.out (ints_two2 (ints.below' hhq hbye) Hnh.out _ _) (atoms_two2 (atoms.below' hha hbye) Hna.out _ _) Hfr.out (below_two2 (bt Bq hbye) (Nat.le_refl _) _ _)
              · have hse := str_ne heq
                have HN := Lib.hid (query_no2 (s := s) (by rw [← HQ.out]; exact query_no) heq)
                clear heq
                have H4y := H4e.out
                obtain ⟨⟨r0, r1⟩, q0, q1⟩ := H4y
                go_wp2
                (try simp only [Exit.inBlock, Exit.then])
                refine bodyPost_ret (v := .tuple #[.agg #[.slice none 0 0, .slice none 0 0], .bool false]) ?_ rfl ?_
                · rw [results_cell_tmp rfl]
                  simp [asAddr, Result.andThen, load_query2 H4e.out]
                · exact PqEnd.no rfl HN.out (below_two2 (bt Bq hbye) (Nat.le_refl _) _ _)
end Go.Proofs.YtpdmdfkcaabnaaaGreatDoor
