/- ParseMethod of the program: it returns what 'MethIs' says. Conditions: the text is no longer than 2^20; what the library's own variables hold. -/
import Derived.Test.YtojjojcmemifhaaDoorParMS
import Derived.Test.YtojjojcmemifhaaDoorSplitI
namespace Go.Proofs.YtojjojcmemifhaaDoor
open Go.RowKit
set_option linter.unusedVariables false
set_option linter.unusedSimpArgs false
def inI (t : List UInt8) : List Int := if t = [102, 114, 101, 101] then [] else valI (cutL 44 t)
def okI (w : List (List UInt8)) : Bool := (decide (w.getD 2 [] = [102, 114, 101, 101]) || allI (cutL 44 (w.getD 2 []))) && (pInt (Lib.trimPrefix (w.getD 0 []) [114])).isSome
def mI (w : List (List UInt8)) : MethD := ⟨(pInt (Lib.trimPrefix (w.getD 0 []) [114])).getD 0, inI (w.getD 2 []), (pInt (w.getD 4 [])).getD 0, (pInt (w.getD 6 [])).getD 0, (pInt (w.getD 8 [])).getD 0⟩
theorem mI_meth {m : MethD} (h : methFB m = true) : okI (cutL 32 (methFS m)) = true ∧ mI (cutL 32 (methFS m)) = m := by
  obtain ⟨h1, h2, h3, h4, h5⟩ := meth_small (s := []) h
  obtain ⟨h6, h7⟩ := allI_itoa h5
  rw [cut_meth h]
  unfold okI mI
  simp only [List.getD_cons_zero, List.getD_cons_succ, trimP, pInt_itoa h1.1 h1.2, pInt_itoa h2.1 h2.2, pInt_itoa h3.1 h3.2, pInt_itoa h4.1 h4.2]
  unfold inI inpS
  by_cases hl : 0 < m.inputs.length
  · rw [if_pos hl, if_neg (inp_free hl), cut_inp hl, h6, h7]
    simp
  · have e : m.inputs = [] := by cases h : m.inputs with
      | nil => rfl
      | cons x t => rw [h] at hl; simp at hl
    obtain ⟨a, b, c, d, f⟩ := m
    simp only at e
    subst e
    simp
theorem fs_yes {m : MethD} {t : List UInt8} {W : List (List UInt8)} (hW : cutL 32 t = W) (h9 : W.length = 9) (h2 : methFS m = t) : methFB m = true := by
  cases h : methFB m with
  | true => rfl
  | false =>
    rw [methFS_no h] at h2
    subst h2
    rw [← hW] at h9
    simp [cutL] at h9
theorem pm_noI {s : List Int} {t : List UInt8} {W : List (List UInt8)} (hW : cutL 32 t = W) (h : okI W = false ∨ methB s (mI W) = false ∨ methFS (mI W) ≠ t) : ∀ n, methB s n = true → methFB n = true → methFS n ≠ t := by
  intro n h1 h2 e
  obtain ⟨h3, h4⟩ := mI_meth h2
  rw [e, hW] at h3 h4
  rw [h3, h4] at h
  rcases h with h | h | h
  · cases h
  · rw [h] at h1; cases h1
  · exact h e
/-- Three pointers into a box. -/
def Lit3 (w : World) (gl g : Nat) : Prop := w.cell? ⟨gl, 0, none⟩ = some (.pointer (some ⟨g, 2, none⟩)) ∧ w.cell? ⟨gl, 1, none⟩ = some (.pointer (some ⟨g, 3, none⟩)) ∧ w.cell? ⟨gl, 2, none⟩ = some (.pointer (some ⟨g, 4, none⟩))
theorem Lit3.sx {X : List Nat} {w w' : World} {gl g : Nat} (h : Lit3 w gl g) (s : SX X w w') (hg : gl ∉ X) : Lit3 w' gl g := ⟨s.cell h.1 hg, s.cell h.2.1 hg, s.cell h.2.2 hg⟩
theorem Lit3.lt {w : World} {gl g : Nat} (h : Lit3 w gl g) : gl < w.heap.size := lt_of_cell h.1
def sel (k j : Nat) (x : Int) : Int := if j < k then x else 0
theorem gr_ge {α : Type} {E : TypeId} {sz B : Nat} {R : Rd α} {w : World} {g n cap : Nat} {l : List α} {f : List Nat} (h : grR E sz R B w (.slice (some ⟨g, 0, none⟩) n cap) l f) : B ≤ g := gr_base h g rfl
set_option maxRecDepth 100000 in
set_option maxHeartbeats 12800000 in
theorem implParseMethod_any (vs : Value) (s : List Int) (fs : List Nat) (t : ByteArray) (w : World) (hs : ints w vs s fs) (ht : t.size ≤ 1048576) (hL : LibW w) :
    Calls Tryd.prog 6 #[vs, .string t] w (PmEnd s t.data.toList w) := by
  have hb0 : Below w.heap.size w (w.alloc (.cells #[.int .i64 0, .slice none 0 0, .int .i64 0, .int .i64 0, .int .i64 0] 24)) := ba (Below.refl _ _)
  have h40 : Five (w.alloc (.cells #[.int .i64 0, .slice none 0 0, .int .i64 0, .int .i64 0, .int .i64 0] 24)) w.heap.size (.int .i64 0) (.slice none 0 0) (.int .i64 0) (.int .i64 0) (.int .i64 0) := Five.new _ _ _ _ _ _ _
  have HLW := Lib.hid hL
  have hq := split1_any t 32 _ ht (HLW.out.on hb0).2.2.2
  obtain ⟨W, hW⟩ : ∃ W, cutL 32 t.data.toList = W := ⟨_, rfl⟩
  have HW := Lib.hid hW
  have Hpl := Lib.hid (show ∀ p ∈ W, p.length ≤ 1048576 from fun p hp => Nat.le_trans (cutL_piece 32 _ p (by rw [hW]; exact hp)) (by simpa using ht))
  have Hpl9 := Lib.hid (show W.length = 9 → ∀ p ∈ W, p.length ≤ 1048568 from fun h9 p hp => by
    have h1 := cutL_sum 32 t.data.toList
    have h2 := sum_ge_mem (f := List.length) hp
    rw [hW, h9] at h1
    have h3 : t.data.toList.length = t.size := by simp
    omega)
  rw [hW] at hq
  clear hW hL
  go_enter Tryd.func6, Tryd.ntmps6
  go_wp2_with fail
  refine hq.mono ?_
  rintro e w1 ⟨gw, cw, fw, rfl, hgw0, hb1⟩
  have B1 := bt hb0 hb1
  have h41 := h40.below hb1
  have hgwlt : gw < w1.heap.size := (strs_cells hgw0 rfl).2.1
  clear hq h40
  have hba1 : Below w1.heap.size w1 (w1.alloc (.cells #[.int .i64 0, .slice none 0 0, .int .i64 0, .int .i64 0, .int .i64 0] 24)) := ba (Below.refl _ _)
  by_cases h9 : W.length = 9
  case neg =>
    have h9i : ((W.length : Int) == 9) = false := by rw [beq_eq_false_iff_ne]; omega
    have HN := Lib.hid (show ∀ n, methB s n = true → methFB n = true → methFS n ≠ t.data.toList from fun n h1 h2 e => h9 (by rw [← HW.out]; exact (meth_words h2 e).1))
    have H4e := Lib.hid (h41.below hba1)
    clear h9
    have H4y := H4e.out
    obtain ⟨⟨r0, r1, r2, r3, r4⟩, q0, q1, q2, q3, q4⟩ := H4y
    go_wp2
    (try simp only [Exit.inBlock, Exit.then])
    refine bodyPost_ret (v := .tuple #[.agg #[.int .i64 0, .slice none 0 0, .int .i64 0, .int .i64 0, .int .i64 0], .bool false]) ?_ rfl ?_
    · rw [results_cell_tmp rfl]
      simp [asAddr, Result.andThen, load_set5 H4e.out]
    · exact PmEnd.no rfl HN.out (below_set5 (bt B1 hba1) (Nat.le_refl _) _ _ _ _ _)
  have H9 := Lib.hid h9
  obtain ⟨a0, a1, a2, a3, a4, a5, a6, a7, a8, rfl⟩ := nine h9
  clear h9
  have hqT : ∀ w, Calls Tryd.prog 20 #[.string ⟨a0.toArray⟩, .string ⟨#[114]⟩] w fun e w' => e = .returned (.string ⟨(Lib.trimPrefix a0 [114]).toArray⟩) ∧ w = w' := fun w => (Tryd.strings_TrimPrefix ⟨a0.toArray⟩ ⟨#[114]⟩ w).mono (by rintro e w' ⟨rfl, rfl⟩; exact ⟨rfl, rfl⟩)
  obtain ⟨r, hr⟩ : ∃ r, (pInt (Lib.trimPrefix a0 [114])).getD 0 = r := ⟨_, rfl⟩
  obtain ⟨kr, hkr⟩ : ∃ kr, (pInt (Lib.trimPrefix a0 [114])).isSome = kr := ⟨_, rfl⟩
  obtain ⟨x4, hx4⟩ : ∃ x, (pInt a4).getD 0 = x := ⟨_, rfl⟩
  obtain ⟨x6, hx6⟩ : ∃ x, (pInt a6).getD 0 = x := ⟨_, rfl⟩
  obtain ⟨x8, hx8⟩ : ∃ x, (pInt a8).getD 0 = x := ⟨_, rfl⟩
  have hp0 : ∀ w, LibW w → Calls Tryd.prog 19 #[.string ⟨(Lib.trimPrefix a0 [114]).toArray⟩] w fun e w' => e = .returned (.tuple #[.int .i64 r, .bool kr]) ∧ Below w.heap.size w w' := fun w h => ret2 (libParseInt_any ⟨(Lib.trimPrefix a0 [114]).toArray⟩ w (arr_sz _ (Nat.le_trans (Lib.trimPrefix_le _ _) (Hpl.out a0 (by simp)))) h) hr hkr
  have hp4 : ∀ w, LibW w → Calls Tryd.prog 19 #[.string ⟨a4.toArray⟩] w fun e w' => e = .returned (.tuple #[.int .i64 x4, .bool (pInt a4).isSome]) ∧ Below w.heap.size w w' := fun w h => ret2 (libParseInt_any ⟨a4.toArray⟩ w (arr_sz _ (Hpl.out a4 (by simp))) h) hx4 rfl
  have hp6 : ∀ w, LibW w → Calls Tryd.prog 19 #[.string ⟨a6.toArray⟩] w fun e w' => e = .returned (.tuple #[.int .i64 x6, .bool (pInt a6).isSome]) ∧ Below w.heap.size w w' := fun w h => ret2 (libParseInt_any ⟨a6.toArray⟩ w (arr_sz _ (Hpl.out a6 (by simp))) h) hx6 rfl
  have hp8 : ∀ w, LibW w → Calls Tryd.prog 19 #[.string ⟨a8.toArray⟩] w fun e w' => e = .returned (.tuple #[.int .i64 x8, .bool (pInt a8).isSome]) ∧ Below w.heap.size w w' := fun w h => ret2 (libParseInt_any ⟨a8.toArray⟩ w (arr_sz _ (Hpl.out a8 (by simp))) h) hx8 rfl
  have hokr : ∀ x, kr = x → (pInt (Lib.trimPrefix a0 [114])).isSome = x := fun x e => e ▸ hkr
  have hgwg : gw ≠ w1.heap.size := by omega
  have hgw : w.heap.size < w1.heap.size := h41.lt
  have HR := Lib.hid (show ∀ inp, inI a2 = inp → mI [a0, a1, a2, a3, a4, a5, a6, a7, a8] = (⟨r, inp, x4, x6, x8⟩ : MethD) from fun inp h => by
    unfold mI; simp only [List.getD_cons_zero, List.getD_cons_succ]; rw [hr, hx4, hx6, hx8, h])
  have HO := Lib.hid (show ∀ x, kr = x → okI [a0, a1, a2, a3, a4, a5, a6, a7, a8] = ((decide (a2 = [102, 114, 101, 101]) || allI (cutL 44 a2)) && x) from fun x e => by
    unfold okI; simp only [List.getD_cons_zero, List.getD_cons_succ]; rw [hkr, e])
  clear hr hkr hx4 hx6 hx8 hokr
  have p0' := strs_at2 hgw0 rfl 0 (by simp)
  have p2' := strs_at2 hgw0 rfl 2 (by simp)
  have p4' := strs_at2 hgw0 rfl 4 (by simp)
  have p6' := strs_at2 hgw0 rfl 6 (by simp)
  have p8' := strs_at2 hgw0 rfl 8 (by simp)
  simp only [List.getElem_cons_zero, List.getElem_cons_succ] at p0' p2' p4' p6' p8'
  have F0 := Five.new w1 24 (.int .i64 0) (.slice none 0 0) (.int .i64 0) (.int .i64 0) (.int .i64 0)
  by_cases hfree : a2 = [102, 114, 101, 101]
  · have hfb : (a2 == [102, 114, 101, 101]) = true := by simp [hfree]
    have HMI := Lib.hid (HR.out [] (by unfold inI; rw [if_pos hfree]))
    have HOK := Lib.hid (show ∀ x, kr = x → okI [a0, a1, a2, a3, a4, a5, a6, a7, a8] = x from fun x e => by rw [HO.out x e, decide_eq_true hfree]; rfl)
    clear hfree
    have Bz := bt B1 hba1
    have F := F0
    have H4z := Lib.hid (h41.below hba1)
    have p0 := cell_below p0' hba1
    have p2 := cell_below p2' hba1
    have p4 := cell_below p4' hba1
    have p6 := cell_below p6' hba1
    have p8 := cell_below p8' hba1
    have hin0 : ints (w1.alloc (.cells #[.int .i64 0, .slice none 0 0, .int .i64 0, .int .i64 0, .int .i64 0] 24)) (.slice none 0 0) [] [] := slR.nilv _ _ _ _
    have hlb : ([] : List Int).length ≤ 1048576 := by simp
    have Hg := Lib.hid (show w1.heap.size ∉ ([] : List Nat) by simp)
    have Hnot := Lib.hid (show w.heap.size ∉ ([] : List Nat) by simp)
    have Hfr := Lib.hid (Fresh.nil w.heap.size)
    go_wp2_with fail
    refine (hqT _).mono ?_
    rintro e wt ⟨rfl, rfl⟩
    go_wp2_with fail
    refine (hp0 _ (HLW.out.on Bz)).mono ?_
    rintro e wa ⟨rfl, hba⟩
    have Ba := bt Bz hba
    have Fa := F.below hba
    have Fa2 := Fa
    obtain ⟨⟨f0, f1, f2, f3, f4⟩, y0, y1, y2, y3, y4⟩ := Fa2
    have q4 := cell_below p4 hba
    have q6 := cell_below p6 hba
    have q8 := cell_below p8 hba
    have hgwa : w1.heap.size < wa.heap.size := Fa.lt
    have hina := hin0.below' hba
    have HFl := Lib.hid (show Five ((wa.setCell ⟨w1.heap.size, 0, none⟩ (.int .i64 r)).alloc (.cells #[.pointer (some ⟨w1.heap.size, 2, none⟩), .pointer (some ⟨w1.heap.size, 3, none⟩), .pointer (some ⟨w1.heap.size, 4, none⟩)] 44)) w1.heap.size (.int .i64 r) (.slice none 0 0) (.int .i64 0) (.int .i64 0) (.int .i64 0) from (Fa.set0 (.int .i64 r)).below (ba (Below.refl _ _)))
    have HLl := Lib.hid (show Lit3 ((wa.setCell ⟨w1.heap.size, 0, none⟩ (.int .i64 r)).alloc (.cells #[.pointer (some ⟨w1.heap.size, 2, none⟩), .pointer (some ⟨w1.heap.size, 3, none⟩), .pointer (some ⟨w1.heap.size, 4, none⟩)] 44)) wa.heap.size w1.heap.size from by
      have hs : (wa.setCell ⟨w1.heap.size, 0, none⟩ (.int .i64 r)).heap.size = wa.heap.size := by simp [World.setCell]
      exact ⟨cell_at _ _ hs _ _ 0 _ rfl, cell_at _ _ hs _ _ 1 _ rfl, cell_at _ _ hs _ _ 2 _ rfl⟩)
    have HSl := Lib.hid (show SX [w1.heap.size] wa ((wa.setCell ⟨w1.heap.size, 0, none⟩ (.int .i64 r)).alloc (.cells #[.pointer (some ⟨w1.heap.size, 2, none⟩), .pointer (some ⟨w1.heap.size, 3, none⟩), .pointer (some ⟨w1.heap.size, 4, none⟩)] 44)) from (SX.set ⟨w1.heap.size, 0, none⟩ _).below (ba (Below.refl _ _)))
    have HBl := Lib.hid (show Below w.heap.size w ((wa.setCell ⟨w1.heap.size, 0, none⟩ (.int .i64 r)).alloc (.cells #[.pointer (some ⟨w1.heap.size, 2, none⟩), .pointer (some ⟨w1.heap.size, 3, none⟩), .pointer (some ⟨w1.heap.size, 4, none⟩)] 44)) from ba (bs Ba (Nat.le_of_lt hgw)))
    go_wp2
    go_loopw [50] (fun i wr => ∃ (k : Nat) (ki : Int), i = .int .i64 ki ∧ Hid (ki = (k : Int)) ∧ k ≤ 3 ∧ Five wr w1.heap.size (.int .i64 r) (.slice none 0 0) (.int .i64 (sel k 0 x4)) (.int .i64 (sel k 1 x6)) (.int .i64 (sel k 2 x8)) ∧ SX [w1.heap.size] wa wr ∧ Lit3 wr wa.heap.size w1.heap.size ∧ Below w.heap.size w wr) (fun i _ => 3 - (intOf i).toNat)
    case atStart => exact ⟨0, 0, rfl, Lib.hid rfl, by omega, by first | exact HFl.out | simpa [sel] using HFl.out, HSl.out, HLl.out, HBl.out⟩
    case round =>
      obtain ⟨k, ki, rfl, HK, hk, F, hsx, hlit, Br⟩ := hrel
      have hgl := hlit.lt
      rcases (show k = 0 ∨ k = 1 ∨ k = 2 ∨ k = 3 by omega) with rfl | rfl | rfl | rfl
      · obtain rfl : ki = 0 := by have := HK.out; omega
        have Fk := F
        obtain ⟨⟨f0, f1, f2, f3, f4⟩, y0, y1, y2, y3, y4⟩ := Fk
        have pw := hsx.cell q4 (by simpa using hgwg)
        have ⟨l0, l1, l2⟩ := hlit
        go_wp2_with fail
        refine (hp4 _ (HLW.out.on Br)).mono ?_
        rintro e w3 ⟨rfl, hb3⟩
        have F3 := F.below hb3
        have F3' := F3
        obtain ⟨⟨g0, g1, g2, g3, g4⟩, z0, z1, z2, z3, z4⟩ := F3'
        clear f0 f1 f2 f3 f4 y0 y1 y2 y3 y4
        have HF := Lib.hid (F3.set2 (.int .i64 x4))
        have HSX := Lib.hid ((hsx.below hb3).setIn 2 (.int .i64 x4))
        have HLI := Lib.hid ((hlit.sx (SX.of_below hb3) (by simp)).sx (SX.set (w := w3) ⟨w1.heap.size, 2, none⟩ (.int .i64 x4)) (by simp; omega))
        have HB := Lib.hid (bs (p := ⟨w1.heap.size, 2, none⟩) (u := .int .i64 x4) (bt Br hb3) (Nat.le_of_lt hgw))
        go_wp2
        go_roundw
        case rel => exact ⟨1, 1, rfl, Lib.hid rfl, by omega, by first | exact HF.out | simpa [sel] using HF.out, HSX.out, HLI.out, HB.out⟩
        case measure => simp [intOf]
      · obtain rfl : ki = 1 := by have := HK.out; omega
        have Fk := F
        obtain ⟨⟨f0, f1, f2, f3, f4⟩, y0, y1, y2, y3, y4⟩ := Fk
        have pw := hsx.cell q6 (by simpa using hgwg)
        have ⟨l0, l1, l2⟩ := hlit
        go_wp2_with fail
        refine (hp6 _ (HLW.out.on Br)).mono ?_
        rintro e w3 ⟨rfl, hb3⟩
        have F3 := F.below hb3
        have F3' := F3
        obtain ⟨⟨g0, g1, g2, g3, g4⟩, z0, z1, z2, z3, z4⟩ := F3'
        clear f0 f1 f2 f3 f4 y0 y1 y2 y3 y4
        have HF := Lib.hid (F3.set3 (.int .i64 x6))
        have HSX := Lib.hid ((hsx.below hb3).setIn 3 (.int .i64 x6))
        have HLI := Lib.hid ((hlit.sx (SX.of_below hb3) (by simp)).sx (SX.set (w := w3) ⟨w1.heap.size, 3, none⟩ (.int .i64 x6)) (by simp; omega))
        have HB := Lib.hid (bs (p := ⟨w1.heap.size, 3, none⟩) (u := .int .i64 x6) (bt Br hb3) (Nat.le_of_lt hgw))
        go_wp2
        go_roundw
        case rel => exact ⟨2, 2, rfl, Lib.hid rfl, by omega, by first | exact HF.out | simpa [sel] using HF.out, HSX.out, HLI.out, HB.out⟩
        case measure => simp [intOf]
      · obtain rfl : ki = 2 := by have := HK.out; omega
        have Fk := F
        obtain ⟨⟨f0, f1, f2, f3, f4⟩, y0, y1, y2, y3, y4⟩ := Fk
        have pw := hsx.cell q8 (by simpa using hgwg)
        have ⟨l0, l1, l2⟩ := hlit
        go_wp2_with fail
        refine (hp8 _ (HLW.out.on Br)).mono ?_
        rintro e w3 ⟨rfl, hb3⟩
        have F3 := F.below hb3
        have F3' := F3
        obtain ⟨⟨g0, g1, g2, g3, g4⟩, z0, z1, z2, z3, z4⟩ := F3'
        clear f0 f1 f2 f3 f4 y0 y1 y2 y3 y4
        have HF := Lib.hid (F3.set4 (.int .i64 x8))
        have HSX := Lib.hid ((hsx.below hb3).setIn 4 (.int .i64 x8))
        have HLI := Lib.hid ((hlit.sx (SX.of_below hb3) (by simp)).sx (SX.set (w := w3) ⟨w1.heap.size, 4, none⟩ (.int .i64 x8)) (by simp; omega))
        have HB := Lib.hid (bs (p := ⟨w1.heap.size, 4, none⟩) (u := .int .i64 x8) (bt Br hb3) (Nat.le_of_lt hgw))
        go_wp2
        go_roundw
        case rel => exact ⟨3, 3, rfl, Lib.hid rfl, by omega, by first | exact HF.out | simpa [sel] using HF.out, HSX.out, HLI.out, HB.out⟩
        case measure => simp [intOf]
      · obtain rfl : ki = 3 := by have := HK.out; omega
        have F5 : Five wr w1.heap.size (.int .i64 r) (.slice none 0 0) (.int .i64 x4) (.int .i64 x6) (.int .i64 x8) := by simpa [sel] using F
        have H4r := Lib.hid ((H4z.out.below hba).sx hsx (by simp; omega))
        have hin := show ints wr (.slice none 0 0) [] _ from hina.frame fun j hj => hsx.2 j (hina.lt j hj) (by intro hm; rw [List.mem_singleton] at hm; subst hm; exact Hg.out hj)
        cases kr with
        | false =>
          have HN := Lib.hid (pm_noI (s := s) HW.out (.inl (HOK.out false rfl)))
          have H4e := H4r
          have H4y := H4e.out
          obtain ⟨⟨r0, r1, r2, r3, r4⟩, q0, q1, q2, q3, q4⟩ := H4y
          go_wp2
          (try simp only [Exit.inBlock, Exit.then])
          refine bodyPost_ret (v := .tuple #[.agg #[.int .i64 0, .slice none 0 0, .int .i64 0, .int .i64 0, .int .i64 0], .bool false]) ?_ rfl ?_
          · rw [results_cell_tmp rfl]
            simp [asAddr, Result.andThen, load_set5 H4e.out]
          · exact PmEnd.no rfl HN.out (below_set5 Br (Nat.le_refl _) _ _ _ _ _)
        | true =>
          have hmo := HMI
          cases hmb : methB s ⟨r, [], x4, x6, x8⟩ with
          | false =>
            have HN := Lib.hid (pm_noI HW.out (.inr (.inl (by rw [hmo.out]; exact hmb))))
            have F6 := F5
            obtain ⟨⟨f0, f1, f2, f3, f4⟩, y0, y1, y2, y3, y4⟩ := F6
            go_wp2_with fail
            refine (retBB (implIsMethod_any vs s fs ⟨r, [], x4, x6, x8⟩ _ _ _ (hs.below' Br) hin) hmb).mono ?_
            rintro e wy ⟨rfl, hby⟩
            clear hmb
            have H4e := Lib.hid (H4r.out.below hby)
            have H4y := H4e.out
            obtain ⟨⟨r0, r1, r2, r3, r4⟩, q0, q1, q2, q3, q4⟩ := H4y
            go_wp2
            (try simp only [Exit.inBlock, Exit.then])
            refine bodyPost_ret (v := .tuple #[.agg #[.int .i64 0, .slice none 0 0, .int .i64 0, .int .i64 0, .int .i64 0], .bool false]) ?_ rfl ?_
            · rw [results_cell_tmp rfl]
              simp [asAddr, Result.andThen, load_set5 H4e.out]
            · exact PmEnd.no rfl HN.out (below_set5 (bt Br hby) (Nat.le_refl _) _ _ _ _ _)
          | true =>
            have Hmb := Lib.hid hmb
            have F6 := F5
            obtain ⟨⟨f0, f1, f2, f3, f4⟩, y0, y1, y2, y3, y4⟩ := F6
            go_wp2_with fail
            refine (retBB (implIsMethod_any vs s fs ⟨r, [], x4, x6, x8⟩ _ _ _ (hs.below' Br) hin) hmb).mono ?_
            rintro e wy ⟨rfl, hby⟩
            clear hmb
            have Fy := F5.below hby
            have Fy2 := Fy
            obtain ⟨⟨k0, k1, k2, k3, k4⟩, m0, m1, m2, m3, m4⟩ := Fy2
            go_wp2_with fail
            refine (implFormatMethod_any ⟨r, [], x4, x6, x8⟩ _ _ _ (hin.below' hby) hlb ((HLW.out.on (bt Br hby)).2.2.1)).mono ?_
            rintro e we ⟨rfl, hbe⟩
            have hbye := bt hby hbe
            have H4e := Lib.hid (H4r.out.below hbye)
            by_cases heq : methFS ⟨r, [], x4, x6, x8⟩ = t.data.toList
            · have hse := str_eq heq
              have HY := Lib.hid (fs_yes HW.out H9.out heq)
              have Heq := Lib.hid heq
              clear heq
              rw [hse]
              clear hse
              have Fz := Fy.below hbe
              obtain ⟨⟨x0', x1', x2', x3', x4'⟩, z0, z1, z2, z3, z4⟩ := Fz
              have H4y := H4e.out
              obtain ⟨⟨r0, r1, r2, r3, r4⟩, q0, q1, q2, q3, q4⟩ := H4y
              go_wp2
              (try simp only [Exit.inBlock, Exit.then])
              refine bodyPost_ret (v := .tuple #[.agg #[.int .i64 r, (.slice none 0 0), .int .i64 x4, .int .i64 x6, .int .i64 x8], .bool true]) ?_ rfl ?_
              · rw [results_cell_tmp rfl]
                simp [asAddr, Result.andThen, load_set5 H4e.out]
              · exact PmEnd.yes ⟨r, [], x4, x6, x8⟩ _ _ rfl Hmb.out HY.out Heq.out (ints_set5 (hin.below' hbye) Hnot.out _ _ _ _ _) Hfr.out (below_set5 (bt Br hbye) (Nat.le_refl _) _ _ _ _ _)
            · have hse := str_ne heq
              have HN := Lib.hid (pm_noI (s := s) HW.out (.inr (.inr (by rw [hmo.out]; exact heq))))
              clear heq
              have H4y := H4e.out
              obtain ⟨⟨r0, r1, r2, r3, r4⟩, q0, q1, q2, q3, q4⟩ := H4y
              go_wp2
              (try simp only [Exit.inBlock, Exit.then])
              refine bodyPost_ret (v := .tuple #[.agg #[.int .i64 0, .slice none 0 0, .int .i64 0, .int .i64 0, .int .i64 0], .bool false]) ?_ rfl ?_
              · rw [results_cell_tmp rfl]
                simp [asAddr, Result.andThen, load_set5 H4e.out]
              · exact PmEnd.no rfl HN.out (below_set5 (bt Br hbye) (Nat.le_refl _) _ _ _ _ _)
  · have hfb : (a2 == [102, 114, 101, 101]) = false := by simp [hfree]
    have HI := Lib.hid (show inI a2 = valI (cutL 44 a2) by unfold inI; rw [if_neg hfree])
    have HOK0 := Lib.hid (show ∀ x, kr = x → okI [a0, a1, a2, a3, a4, a5, a6, a7, a8] = (allI (cutL 44 a2) && x) from fun x e => by rw [HO.out x e, decide_eq_false hfree]; rfl)
    clear hfree
    have Bz0 := bt B1 hba1
    have p2 := cell_below p2' hba1
    have Hl2 := Lib.hid (arr_sz a2 (Hpl.out _ (by simp)))
    have Ha2 := Lib.hid (Hpl9.out H9.out a2 (by simp))
    have HZ := Lib.hid hba1
    go_wp2_with fail
    refine (split1_any ⟨a2.toArray⟩ 44 _ Hl2.out (HLW.out.on Bz0).2.2.2).mono ?_
    rintro e w2 ⟨gp, cp, fp, rfl, hgp, hbp⟩
    obtain ⟨L, hL⟩ : ∃ L, cutL 44 a2 = L := ⟨_, rfl⟩
    have HLn := Lib.hid (show L.length ≤ 1048576 from by rw [← hL]; exact Nat.le_trans (cutL_len 44 a2) (by have := Ha2.out; omega))
    have HLp := Lib.hid (show ∀ p ∈ L, p.length ≤ 1048576 from fun p hp => Nat.le_trans (cutL_piece 44 _ p (by rw [hL]; exact hp)) (by have := Ha2.out; omega))
    have HI2 := Lib.hid (show inI a2 = valI L by rw [HI.out, hL])
    rw [show cutL 44 (⟨a2.toArray⟩ : ByteArray).data.toList = L from hL] at hgp
    rw [show cutL 44 (⟨a2.toArray⟩ : ByteArray).data.toList = L from hL]
    rw [hL] at HOK0
    clear hL HI
    have Bp := bt Bz0 hbp
    obtain ⟨ka, hka⟩ : ∃ ka, allI L = ka := ⟨_, rfl⟩
    have hq3 : ∀ v f, slR 9 1 strR w2 v L f → Calls Tryd.prog 18 #[v] w2 fun e w' => ∃ (v : Value) (f : List Nat), e = .returned (.tuple #[v, .bool ka]) ∧ ints w' v (if ka then valI L else []) f ∧ Fresh w2.heap.size f ∧ Below w2.heap.size w2 w' := fun v f h => by
      have h2 := readInts_any v L f w2 h (by have := HLn.out; omega) HLp.out (HLW.out.on Bp)
      unfold RdEnd at h2
      rw [hka] at h2
      exact h2
    have HOK1 := Lib.hid (show ∀ x, kr = x → okI [a0, a1, a2, a3, a4, a5, a6, a7, a8] = (ka && x) from fun x e => by rw [HOK0.out x e, hka])
    clear hka HOK0
    have hsl := hgp.sl
    go_wp2_with fail
    refine (hq3 _ _ hsl).mono ?_
    rintro e w3 ⟨vi, fi, rfl, hi, hfi, hb3⟩
    clear hq3 hsl
    have B3 := bt Bp hb3
    have hb13 := bt hbp hb3
    have h12 : w1.heap.size < w2.heap.size := Nat.lt_of_lt_of_le (by simp only [World.alloc, Array.size_push]; omega) hbp.size
    have F3 := F0.below hb13
    have F3' := F3
    obtain ⟨⟨f0, f1, f2, f3, f4⟩, y0, y1, y2, y3, y4⟩ := F3'
    have Hg := Lib.hid (show w1.heap.size ∉ fi from fun hm => by have := hfi.2 _ hm; omega)
    have H43 := Lib.hid ((h41.below HZ.out).below hb13)
    have hneg : w.heap.size ≠ w1.heap.size := by omega
    cases ka with
    | false =>
      have HN := Lib.hid (pm_noI (s := s) HW.out (.inl (show okI [a0, a1, a2, a3, a4, a5, a6, a7, a8] = false by rw [HOK1.out kr rfl]; rfl)))
      simp only [Bool.false_eq_true, if_false] at hi
      obtain ⟨av, cv, rfl⟩ : ∃ a c, vi = .slice a 0 c := slR.form hi
      have H4e := Lib.hid (H43.out.sx (SX.set (w := w3) ⟨w1.heap.size, 1, none⟩ (.slice av 0 cv)) (by simpa using hneg))
      have H4y := H43.out
      obtain ⟨⟨r0, r1, r2, r3, r4⟩, q0, q1, q2, q3, q4⟩ := H4y
      go_wp2
      (try simp only [Exit.inBlock, Exit.then])
      refine bodyPost_ret (v := .tuple #[.agg #[.int .i64 0, .slice none 0 0, .int .i64 0, .int .i64 0, .int .i64 0], .bool false]) ?_ rfl ?_
      · rw [results_cell_tmp rfl]
        simp [asAddr, Result.andThen, load_set5 H4e.out]
      · exact PmEnd.no rfl HN.out (below_set5 (bs (p := ⟨w1.heap.size, 1, none⟩) B3 (Nat.le_of_lt hgw)) (Nat.le_refl _) _ _ _ _ _)
    | true =>
      have HOK := Lib.hid (show ∀ x, kr = x → okI [a0, a1, a2, a3, a4, a5, a6, a7, a8] = x from fun x e => by rw [HOK1.out x e]; rfl)
      have HMI := Lib.hid (HR.out (valI L) HI2.out)
      rw [if_pos rfl] at hi
      obtain ⟨av, cv, rfl⟩ := slR.form hi
      have hlb : (valI L).length ≤ 1048576 := by have := HLn.out; unfold valI; rw [List.length_map]; omega
      have F : Five (w3.setCell ⟨w1.heap.size, 1, none⟩ (.slice av (valI L).length cv)) w1.heap.size (.int .i64 0) (.slice av (valI L).length cv) (.int .i64 0) (.int .i64 0) (.int .i64 0) := F3.set1 _
      have Bz : Below w.heap.size w (w3.setCell ⟨w1.heap.size, 1, none⟩ (.slice av (valI L).length cv)) := bs B3 (Nat.le_of_lt hgw)
      have S3 : SX [w1.heap.size] w3 (w3.setCell ⟨w1.heap.size, 1, none⟩ (.slice av (valI L).length cv)) := SX.set _ _
      have H4z := Lib.hid (H43.out.sx S3 (by simpa using hneg))
      have p0 := S3.cell (cell_below (cell_below p0' HZ.out) hb13) (by simpa using hgwg)
      have p4 := S3.cell (cell_below (cell_below p4' HZ.out) hb13) (by simpa using hgwg)
      have p6 := S3.cell (cell_below (cell_below p6' HZ.out) hb13) (by simpa using hgwg)
      have p8 := S3.cell (cell_below (cell_below p8' HZ.out) hb13) (by simpa using hgwg)
      have hin0 := hi.far (p := ⟨w1.heap.size, 1, none⟩) Hg.out (.slice av (valI L).length cv)
      have Hnot := Lib.hid (show w.heap.size ∉ fi from fun hm => by have := hfi.2 _ hm; omega)
      have Hfr := Lib.hid (hfi.mono Bp.size)
      clear hi hgp F0 p2 F3
      go_wp2_with fail
      refine (hqT _).mono ?_
      rintro e wt ⟨rfl, rfl⟩
      go_wp2_with fail
      refine (hp0 _ (HLW.out.on Bz)).mono ?_
      rintro e wa ⟨rfl, hba⟩
      have Ba := bt Bz hba
      have Fa := F.below hba
      have Fa2 := Fa
      obtain ⟨⟨f0, f1, f2, f3, f4⟩, y0, y1, y2, y3, y4⟩ := Fa2
      have q4 := cell_below p4 hba
      have q6 := cell_below p6 hba
      have q8 := cell_below p8 hba
      have hgwa : w1.heap.size < wa.heap.size := Fa.lt
      have hina := hin0.below' hba
      have HFl := Lib.hid (show Five ((wa.setCell ⟨w1.heap.size, 0, none⟩ (.int .i64 r)).alloc (.cells #[.pointer (some ⟨w1.heap.size, 2, none⟩), .pointer (some ⟨w1.heap.size, 3, none⟩), .pointer (some ⟨w1.heap.size, 4, none⟩)] 44)) w1.heap.size (.int .i64 r) (.slice av (valI L).length cv) (.int .i64 0) (.int .i64 0) (.int .i64 0) from (Fa.set0 (.int .i64 r)).below (ba (Below.refl _ _)))
      have HLl := Lib.hid (show Lit3 ((wa.setCell ⟨w1.heap.size, 0, none⟩ (.int .i64 r)).alloc (.cells #[.pointer (some ⟨w1.heap.size, 2, none⟩), .pointer (some ⟨w1.heap.size, 3, none⟩), .pointer (some ⟨w1.heap.size, 4, none⟩)] 44)) wa.heap.size w1.heap.size from by
        have hs : (wa.setCell ⟨w1.heap.size, 0, none⟩ (.int .i64 r)).heap.size = wa.heap.size := by simp [World.setCell]
        exact ⟨cell_at _ _ hs _ _ 0 _ rfl, cell_at _ _ hs _ _ 1 _ rfl, cell_at _ _ hs _ _ 2 _ rfl⟩)
      have HSl := Lib.hid (show SX [w1.heap.size] wa ((wa.setCell ⟨w1.heap.size, 0, none⟩ (.int .i64 r)).alloc (.cells #[.pointer (some ⟨w1.heap.size, 2, none⟩), .pointer (some ⟨w1.heap.size, 3, none⟩), .pointer (some ⟨w1.heap.size, 4, none⟩)] 44)) from (SX.set ⟨w1.heap.size, 0, none⟩ _).below (ba (Below.refl _ _)))
      have HBl := Lib.hid (show Below w.heap.size w ((wa.setCell ⟨w1.heap.size, 0, none⟩ (.int .i64 r)).alloc (.cells #[.pointer (some ⟨w1.heap.size, 2, none⟩), .pointer (some ⟨w1.heap.size, 3, none⟩), .pointer (some ⟨w1.heap.size, 4, none⟩)] 44)) from ba (bs Ba (Nat.le_of_lt hgw)))
      go_wp2
      go_loopw [50] (fun i wr => ∃ (k : Nat) (ki : Int), i = .int .i64 ki ∧ Hid (ki = (k : Int)) ∧ k ≤ 3 ∧ Five wr w1.heap.size (.int .i64 r) (.slice av (valI L).length cv) (.int .i64 (sel k 0 x4)) (.int .i64 (sel k 1 x6)) (.int .i64 (sel k 2 x8)) ∧ SX [w1.heap.size] wa wr ∧ Lit3 wr wa.heap.size w1.heap.size ∧ Below w.heap.size w wr) (fun i _ => 3 - (intOf i).toNat)
      case atStart => exact ⟨0, 0, rfl, Lib.hid rfl, by omega, by first | exact HFl.out | simpa [sel] using HFl.out, HSl.out, HLl.out, HBl.out⟩
      case round =>
        obtain ⟨k, ki, rfl, HK, hk, F, hsx, hlit, Br⟩ := hrel
        have hgl := hlit.lt
        rcases (show k = 0 ∨ k = 1 ∨ k = 2 ∨ k = 3 by omega) with rfl | rfl | rfl | rfl
        · obtain rfl : ki = 0 := by have := HK.out; omega
          have Fk := F
          obtain ⟨⟨f0, f1, f2, f3, f4⟩, y0, y1, y2, y3, y4⟩ := Fk
          have pw := hsx.cell q4 (by simpa using hgwg)
          have ⟨l0, l1, l2⟩ := hlit
          go_wp2_with fail
          refine (hp4 _ (HLW.out.on Br)).mono ?_
          rintro e w3 ⟨rfl, hb3⟩
          have F3 := F.below hb3
          have F3' := F3
          obtain ⟨⟨g0, g1, g2, g3, g4⟩, z0, z1, z2, z3, z4⟩ := F3'
          clear f0 f1 f2 f3 f4 y0 y1 y2 y3 y4
          have HF := Lib.hid (F3.set2 (.int .i64 x4))
          have HSX := Lib.hid ((hsx.below hb3).setIn 2 (.int .i64 x4))
          have HLI := Lib.hid ((hlit.sx (SX.of_below hb3) (by simp)).sx (SX.set (w := w3) ⟨w1.heap.size, 2, none⟩ (.int .i64 x4)) (by simp; omega))
          have HB := Lib.hid (bs (p := ⟨w1.heap.size, 2, none⟩) (u := .int .i64 x4) (bt Br hb3) (Nat.le_of_lt hgw))
          go_wp2
          go_roundw
          case rel => exact ⟨1, 1, rfl, Lib.hid rfl, by omega, by first | exact HF.out | simpa [sel] using HF.out, HSX.out, HLI.out, HB.out⟩
          case measure => simp [intOf]
        · obtain rfl : ki = 1 := by have := HK.out; omega
          have Fk := F
          obtain ⟨⟨f0, f1, f2, f3, f4⟩, y0, y1, y2, y3, y4⟩ := Fk
          have pw := hsx.cell q6 (by simpa using hgwg)
          have ⟨l0, l1, l2⟩ := hlit
          go_wp2_with fail
          refine (hp6 _ (HLW.out.on Br)).mono ?_
          rintro e w3 ⟨rfl, hb3⟩
          have F3 := F.below hb3
          have F3' := F3
          obtain ⟨⟨g0, g1, g2, g3, g4⟩, z0, z1, z2, z3, z4⟩ := F3'
          clear f0 f1 f2 f3 f4 y0 y1 y2 y3 y4
          have HF := Lib.hid (F3.set3 (.int .i64 x6))
          have HSX := Lib.hid ((hsx.below hb3).setIn 3 (.int .i64 x6))
          have HLI := Lib.hid ((hlit.sx (SX.of_below hb3) (by simp)).sx (SX.set (w := w3) ⟨w1.heap.size, 3, none⟩ (.int .i64 x6)) (by simp; omega))
          have HB := Lib.hid (bs (p := ⟨w1.heap.size, 3, none⟩) (u := .int .i64 x6) (bt Br hb3) (Nat.le_of_lt hgw))
          go_wp2
          go_roundw
          case rel => exact ⟨2, 2, rfl, Lib.hid rfl, by omega, by first | exact HF.out | simpa [sel] using HF.out, HSX.out, HLI.out, HB.out⟩
          case measure => simp [intOf]
        · obtain rfl : ki = 2 := by have := HK.out; omega
          have Fk := F
          obtain ⟨⟨f0, f1, f2, f3, f4⟩, y0, y1, y2, y3, y4⟩ := Fk
          have pw := hsx.cell q8 (by simpa using hgwg)
          have ⟨l0, l1, l2⟩ := hlit
          go_wp2_with fail
          refine (hp8 _ (HLW.out.on Br)).mono ?_
          rintro e w3 ⟨rfl, hb3⟩
          have F3 := F.below hb3
          have F3' := F3
          obtain ⟨⟨g0, g1, g2, g3, g4⟩, z0, z1, z2, z3, z4⟩ := F3'
          clear f0 f1 f2 f3 f4 y0 y1 y2 y3 y4
          have HF := Lib.hid (F3.set4 (.int .i64 x8))
          have HSX := Lib.hid ((hsx.below hb3).setIn 4 (.int .i64 x8))
          have HLI := Lib.hid ((hlit.sx (SX.of_below hb3) (by simp)).sx (SX.set (w := w3) ⟨w1.heap.size, 4, none⟩ (.int .i64 x8)) (by simp; omega))
          have HB := Lib.hid (bs (p := ⟨w1.heap.size, 4, none⟩) (u := .int .i64 x8) (bt Br hb3) (Nat.le_of_lt hgw))
          go_wp2
          go_roundw
          case rel => exact ⟨3, 3, rfl, Lib.hid rfl, by omega, by first | exact HF.out | simpa [sel] using HF.out, HSX.out, HLI.out, HB.out⟩
          case measure => simp [intOf]
        · obtain rfl : ki = 3 := by have := HK.out; omega
          have F5 : Five wr w1.heap.size (.int .i64 r) (.slice av (valI L).length cv) (.int .i64 x4) (.int .i64 x6) (.int .i64 x8) := by simpa [sel] using F
          have H4r := Lib.hid ((H4z.out.below hba).sx hsx (by simp; omega))
          have hin := show ints wr (.slice av (valI L).length cv) (valI L) _ from hina.frame fun j hj => hsx.2 j (hina.lt j hj) (by intro hm; rw [List.mem_singleton] at hm; subst hm; exact Hg.out hj)
          cases kr with
          | false =>
            have HN := Lib.hid (pm_noI (s := s) HW.out (.inl (HOK.out false rfl)))
            have H4e := H4r
            have H4y := H4e.out
            obtain ⟨⟨r0, r1, r2, r3, r4⟩, q0, q1, q2, q3, q4⟩ := H4y
            go_wp2
            (try simp only [Exit.inBlock, Exit.then])
            refine bodyPost_ret (v := .tuple #[.agg #[.int .i64 0, .slice none 0 0, .int .i64 0, .int .i64 0, .int .i64 0], .bool false]) ?_ rfl ?_
            · rw [results_cell_tmp rfl]
              simp [asAddr, Result.andThen, load_set5 H4e.out]
            · exact PmEnd.no rfl HN.out (below_set5 Br (Nat.le_refl _) _ _ _ _ _)
          | true =>
            have hmo := HMI
            cases hmb : methB s ⟨r, (valI L), x4, x6, x8⟩ with
            | false =>
              have HN := Lib.hid (pm_noI HW.out (.inr (.inl (by rw [hmo.out]; exact hmb))))
              have F6 := F5
              obtain ⟨⟨f0, f1, f2, f3, f4⟩, y0, y1, y2, y3, y4⟩ := F6
              go_wp2_with fail
              refine (retBB (implIsMethod_any vs s fs ⟨r, (valI L), x4, x6, x8⟩ _ _ _ (hs.below' Br) hin) hmb).mono ?_
              rintro e wy ⟨rfl, hby⟩
              clear hmb
              have H4e := Lib.hid (H4r.out.below hby)
              have H4y := H4e.out
              obtain ⟨⟨r0, r1, r2, r3, r4⟩, q0, q1, q2, q3, q4⟩ := H4y
              go_wp2
              (try simp only [Exit.inBlock, Exit.then])
              refine bodyPost_ret (v := .tuple #[.agg #[.int .i64 0, .slice none 0 0, .int .i64 0, .int .i64 0, .int .i64 0], .bool false]) ?_ rfl ?_
              · rw [results_cell_tmp rfl]
                simp [asAddr, Result.andThen, load_set5 H4e.out]
              · exact PmEnd.no rfl HN.out (below_set5 (bt Br hby) (Nat.le_refl _) _ _ _ _ _)
            | true =>
              have Hmb := Lib.hid hmb
              have F6 := F5
              obtain ⟨⟨f0, f1, f2, f3, f4⟩, y0, y1, y2, y3, y4⟩ := F6
              go_wp2_with fail
              refine (retBB (implIsMethod_any vs s fs ⟨r, (valI L), x4, x6, x8⟩ _ _ _ (hs.below' Br) hin) hmb).mono ?_
              rintro e wy ⟨rfl, hby⟩
              clear hmb
              have Fy := F5.below hby
              have Fy2 := Fy
              obtain ⟨⟨k0, k1, k2, k3, k4⟩, m0, m1, m2, m3, m4⟩ := Fy2
              go_wp2_with fail
              refine (implFormatMethod_any ⟨r, (valI L), x4, x6, x8⟩ _ _ _ (hin.below' hby) hlb ((HLW.out.on (bt Br hby)).2.2.1)).mono ?_
              rintro e we ⟨rfl, hbe⟩
              have hbye := bt hby hbe
              have H4e := Lib.hid (H4r.out.below hbye)
              by_cases heq : methFS ⟨r, (valI L), x4, x6, x8⟩ = t.data.toList
              · have hse := str_eq heq
                have HY := Lib.hid (fs_yes HW.out H9.out heq)
                have Heq := Lib.hid heq
                clear heq
                rw [hse]
                clear hse
                have Fz := Fy.below hbe
                obtain ⟨⟨x0', x1', x2', x3', x4'⟩, z0, z1, z2, z3, z4⟩ := Fz
                have H4y := H4e.out
                obtain ⟨⟨r0, r1, r2, r3, r4⟩, q0, q1, q2, q3, q4⟩ := H4y
                go_wp2
                (try simp only [Exit.inBlock, Exit.then])
                refine bodyPost_ret (v := .tuple #[.agg #[.int .i64 r, (.slice av (valI L).length cv), .int .i64 x4, .int .i64 x6, .int .i64 x8], .bool true]) ?_ rfl ?_
                · rw [results_cell_tmp rfl]
                  simp [asAddr, Result.andThen, load_set5 H4e.out]
                · exact PmEnd.yes ⟨r, (valI L), x4, x6, x8⟩ _ _ rfl Hmb.out HY.out Heq.out (ints_set5 (hin.below' hbye) Hnot.out _ _ _ _ _) Hfr.out (below_set5 (bt Br hbye) (Nat.le_refl _) _ _ _ _ _)
              · have hse := str_ne heq
                have HN := Lib.hid (pm_noI (s := s) HW.out (.inr (.inr (by rw [hmo.out]; exact heq))))
                clear heq
                have H4y := H4e.out
                obtain ⟨⟨r0, r1, r2, r3, r4⟩, q0, q1, q2, q3, q4⟩ := H4y
                go_wp2
                (try simp only [Exit.inBlock, Exit.then])
                refine bodyPost_ret (v := .tuple #[.agg #[.int .i64 0, .slice none 0 0, .int .i64 0, .int .i64 0, .int .i64 0], .bool false]) ?_ rfl ?_
                · rw [results_cell_tmp rfl]
                  simp [asAddr, Result.andThen, load_set5 H4e.out]
                · exact PmEnd.no rfl HN.out (below_set5 (bt Br hbye) (Nat.le_refl _) _ _ _ _ _)
end Go.Proofs.YtojjojcmemifhaaDoor
