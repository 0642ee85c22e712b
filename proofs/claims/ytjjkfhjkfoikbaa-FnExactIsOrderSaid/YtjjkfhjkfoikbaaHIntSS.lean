/- The laws' helpers at [][]int: size, copy, comparison, marks, marks held. Conditions: the sizes that the laws themselves ask. -/
import Derived.Test.YtjjkfhjkfoikbaaHBase
import Derived.StillTailTactics
namespace Go.Proofs.Ytjjkfhjkfoikbaa
open Go.RowKit
set_option linter.unusedVariables false
set_option linter.unusedSimpArgs false
theorem infoIntSS : (Try.prog.info? 22).map (fun i => (i.zero, i.size, i.bytes)) = some (some (.slice none 0 0), 1, 24) := by kernel_rfl
theorem slIntSS : SlT Try.prog 47 22 (.slice none 0 0) 1 24 := slT_of Try.underlying47 infoIntSS rfl (by decide)
def bulkIntSS (l : List (List Int)) : Nat := l.length + (l.map fun x => x.length).sum
set_option maxHeartbeats 800000 in
theorem toIntSS_any (v : Value) (l : List (List Int)) (w : World) (h : intssV w v l) (hn : l.length ≤ 1048576) (n : ∀ x ∈ l, x.length ≤ 1048576) :
    Calls Try.prog 28 #[v] w fun e w' => ∃ v' f, e = .returned v' ∧ intss w' v' l f ∧ Fresh w.heap.size f ∧ Below w.heap.size w w' := by
  obtain ⟨a, cap, rfl⟩ := slW.form h
  have hmk := make_row slIntSS l.length (by omega) (by omega)
  go_enter Try.func28, Try.ntmps28
  go_wp2
  go_loopw [4] (fun i wr => ∃ (k : Nat) (f : List Nat), i = .int .i64 k ∧ k ≤ l.length ∧ partR 22 1 intsR [.slice none 0 0] wr w.heap.size l k f ∧ Fresh (w.heap.size + 1) f ∧ Below w.heap.size w wr) (fun i _ => l.length - (intOf i).toNat)
  case atStart =>
    have h0 := part_start (E := 22) (sz := 1) (R := intsR) w (.slice none 0 0) rfl (by decide) l (by unfold maxLen; omega)
    rw [Nat.mul_one] at h0
    exact ⟨0, [], rfl, Nat.zero_le _, h0, Fresh.nil _, (Below.refl _ _).alloc (Nat.le_refl _) _⟩
  case round =>
    obtain ⟨k, f, rfl, hk, hp, hf, hbel⟩ := hrel
    by_cases hlt : k < l.length
    · obtain ⟨b, off, c, rfl, hcl, hc, x, rfl, hx⟩ := slW.at (h.below' hbel) k hlt
      have hc0 : wr.cell? ⟨b, off + k, none⟩ = some x := by have := hc 0 _ rfl; simpa using this
      have m := n l[k] (List.getElem_mem hlt)
      clear hc
      go_wp2_with fail
      refine (toIntS_any _ l[k] _ hx m).mono ?_
      rintro e w1 ⟨u, fk, rfl, hu, hfk, hb1⟩
      obtain ⟨a', c', rfl⟩ := slR.form hu
      have hp1 := part_below good_ints hp hb1
      have hd0 : w1.cell? ⟨w.heap.size, k, none⟩ = some (.slice none 0 0) := by have := part_cells hp1 hlt rfl 0 _ rfl; simpa using this
      have hz0 := part_frozen hp1 hlt (k)
      have hpl := part_lt good_ints hp
      have hs := part_step good_ints (by decide) hp1 hlt rfl (c := [.slice a' l[k].length c']) (fk := fk) rfl ⟨_, rfl, hu⟩ (hf.notin (by omega)) (hfk.notin hpl.1)
      rw [Nat.mul_one] at hs
      have hf' := hf.append hfk (by have := hpl.1; omega) hpl.2
      have hb2 := hbel.trans (hb1.mono hbel.size)
      clear hp hp1 hf hpl hc0 hfk hu
      go_wp2
      go_roundw
      case rel => exact ⟨k + 1, f ++ (fk), by go_num, by omega, hs, hf', (hb2.setCell (Nat.le_refl _) _)⟩
      case measure => simp [intOf]; omega
    · have hkl : k = l.length := by omega
      have hs := part_full hp hkl
      subst hkl
      go_wp2
      go_ret
      exact ⟨_, _, rfl, hs, ⟨List.nodup_cons.2 ⟨hf.notin (by omega), hf.1⟩, fun g hg => by
        rcases List.mem_cons.1 hg with rfl | hg
        · exact Nat.le_refl _
        · have := hf.2 g hg; omega⟩, hbel⟩
set_option maxRecDepth 100000 in
set_option maxHeartbeats 800000 in
theorem eqIntSS_any (va vb : Value) (l m : List (List Int)) (fa fb : List Nat) (w : World) (ha : intss w va l fa) (hb : intss w vb m fb) :
    Calls Try.prog 31 #[va, vb] w fun e w' => e = .returned (.bool (decide (l = m))) ∧ Below w.heap.size w w' := by
  obtain ⟨a, cap, rfl⟩ := slR.form ha
  obtain ⟨b, cap', rfl⟩ := slR.form hb
  have hla := slR.le_max ha
  by_cases hlen : l.length = m.length
  · have Hlen := Lib.hid hlen
    have hle : m.length ≤ l.length := by omega
    have hge : l.length ≤ m.length := by omega
    have hne0 : ((l.length : Int) != (m.length : Int)) = false := by simp [hlen]
    clear hlen
    go_enter Try.func31, Try.ntmps31
    go_wp2
    go_loopw [5] (fun i wr => ∃ k : Nat, i = .int .i64 k ∧ k ≤ l.length ∧ Hid (l.take k = m.take k) ∧ Below w.heap.size w wr) (fun i _ => l.length - (intOf i).toNat)
    case atStart => exact ⟨0, rfl, Nat.zero_le _, Lib.hid (by simp), Below.refl _ _⟩
    case round =>
      obtain ⟨k, rfl, hk, HT, hbel⟩ := hrel
      by_cases hlt : k < l.length
      · obtain ⟨g, c, fi, rfl, ⟨px, rfl, ph⟩, _, hc, _, _, _⟩ := slR.at (ha.below' hbel) k hlt
        obtain ⟨g', c', fi', rfl, ⟨qx, rfl, qh⟩, _, hc', _, _, _⟩ := slR.at (hb.below' hbel) k (by omega)
        have hp0 : wr.cell? ⟨g, k, none⟩ = some px := by have := hc 0 _ rfl; simpa using this
        have hq0 : wr.cell? ⟨g', k, none⟩ = some qx := by have := hc' 0 _ rfl; simpa using this
        clear hc hc'
        have hkm : (k : Int) < (m.length : Int) := by omega
        have hkl : (k : Int) < (l.length : Int) := by omega
        by_cases he : l[k] = m[k]
        · have HS := Lib.hid (take_eq_step hlt (by omega) HT.out he)
          have hne : decide (l[k] = m[k]) = true := by simp [he]
          clear he
          go_wp2
          have Hla := Lib.hid hla; clear hla
          refine wp_region_still_tail 8 (by kernel_rfl) (by kernel_rfl) ?_
          change wpStill _ _ (World.drew _) _ _ _
          simp only [List.take_succ_cons, List.take_zero, List.drop_succ_cons, List.drop_zero]
          iterate 8 still_step
          refine wpStill_nil ?_
          have hla := Hla.out
          change wpList _ _ _ _ _ wr.drew
          go_wp2_with fail
          refine (eqIntS_any _ _ l[k] m[k] _ _ _ (ph.below' (Below.drew (Below.refl _ _))) (qh.below' (Below.drew (Below.refl _ _)))).mono ?_
          rintro e w1 ⟨rfl, hb1⟩
          have hb2 : Below w.heap.size w w1 := Below.trans hbel.drew (hb1.mono hbel.size)
          go_wp2
          go_roundw
          case rel => exact ⟨k + 1, by go_num, by omega, HS, hb2⟩
          case measure => simp [intOf]; omega
        · have Hfin := Lib.hid (ne_of_get hlt (by omega) he)
          have hne : decide (l[k] = m[k]) = false := by simp [he]
          clear he
          go_wp2
          have Hla := Lib.hid hla; clear hla
          refine wp_region_still_tail 8 (by kernel_rfl) (by kernel_rfl) ?_
          change wpStill _ _ (World.drew _) _ _ _
          simp only [List.take_succ_cons, List.take_zero, List.drop_succ_cons, List.drop_zero]
          iterate 8 still_step
          refine wpStill_nil ?_
          have hla := Hla.out
          change wpList _ _ _ _ _ wr.drew
          go_wp2_with fail
          refine (eqIntS_any _ _ l[k] m[k] _ _ _ (ph.below' (Below.drew (Below.refl _ _))) (qh.below' (Below.drew (Below.refl _ _)))).mono ?_
          rintro e w1 ⟨rfl, hb1⟩
          have hb2 : Below w.heap.size w w1 := Below.trans hbel.drew (hb1.mono hbel.size)
          go_wp2
          go_ret
          exact ⟨ret_bool (by simp [Hfin.out]), hb2⟩
      · have hkl : k = l.length := by omega
        have Hfin := Lib.hid (eq_of_take Hlen.out (by have := HT.out; rw [hkl] at this; exact this))
        go_wp2
        go_ret
        exact ⟨ret_bool (by simp [Hfin.out]), hbel⟩
  · have hne0 : ((l.length : Int) != (m.length : Int)) = true := by simp; omega
    have Hfin := Lib.hid (show l ≠ m from fun h => hlen (by rw [h]))
    clear hlen
    go_enter Try.func31, Try.ntmps31
    go_wp2
    go_ret
    exact ⟨ret_bool (by simp [Hfin.out]), Below.refl _ _⟩
theorem bulkIntSS_left (l : List (List Int)) (b : Int) (m k : Nat) (hk : k = l.length) (h : ((l.map fun x => x.length).take k).sum = m) (hm : 0 ≤ b - (l.length : Int) - (m : Int)) : left (bulkIntSS l) b = b - (l.length : Int) - (m : Int) := by
  unfold bulkIntSS
  have h0 := left_sum (l.map fun x => x.length) l.length b m k
  exact h0 (by rw [List.length_map]; exact hk) h hm
set_option maxHeartbeats 800000 in
theorem szIntSS_any (v : Value) (l : List (List Int)) (b : Int) (w : World) (h : intssV w v l) (hb : 0 ≤ b ∧ b ≤ 1048576) :
    Calls Try.prog 26 #[v, .int .i64 b] w fun e w' => e = .returned (.int .i64 (left (bulkIntSS l) b)) ∧ Below w.heap.size w w' := by
  obtain ⟨a, cap, rfl⟩ := slW.form h
  have hla := slW.le_max h
  by_cases h0 : b - l.length < 0
  · have Hf := Lib.hid (show left (bulkIntSS l) b = -1 from left_neg (by unfold bulkIntSS; omega))
    go_enter Try.func26, Try.ntmps26
    go_wp2
    go_ret
    exact ⟨ret_int (by rw [Hf.out]), Below.refl _ _⟩
  · go_enter Try.func26, Try.ntmps26
    go_wp2
    go_loopw [1, 5] (fun x i wr => ∃ k m : Nat, i = .int .i64 k ∧ k ≤ l.length ∧ x = .int .i64 (b - l.length - (m : Int)) ∧ Hid (((l.map fun x => x.length).take k).sum = m) ∧ 0 ≤ b - l.length - (m : Int) ∧ Below w.heap.size w wr) (fun _ i _ => l.length - (intOf i).toNat)
    case atStart => exact ⟨0, 0, rfl, Nat.zero_le _, by simp, Lib.hid (by simp), by omega, Below.refl _ _⟩
    case round =>
      obtain ⟨k, m, rfl, hk, rfl, HM, hm, hbel⟩ := hrel
      by_cases hlt : k < l.length
      · obtain ⟨bb, off, c, rfl, hcl, hc, x, rfl, hx⟩ := slW.at (h.below' hbel) k hlt
        have hc0 : wr.cell? ⟨bb, off + k, none⟩ = some x := by have := hc 0 _ rfl; simpa using this
        clear hc
        have HN := Lib.hid (sum_take_step (l.map fun x => x.length) k (by simpa using hlt) m HM.out)
        have hge := sum_take_le (l.map fun x => x.length) k (by simpa using hlt) m HM.out
        simp only [List.getElem_map] at hge
        have hpos : 0 ≤ b - l.length - (m : Int) ∧ b - l.length - (m : Int) ≤ 1048576 := ⟨hm, by omega⟩
        have hsg := left_sign (l[k].length) (b - l.length - (m : Int))
        rcases left_cases (l[k].length) (b - l.length - (m : Int)) hm with ⟨h2, h3⟩ | ⟨h2, h3⟩
        · have Hf := Lib.hid (show left (bulkIntSS l) b = -1 from left_neg (by unfold bulkIntSS; have := (left_le_iff h2 h3); omega))
          have H3 := Lib.hid h3; clear h3
          go_wp2_with fail
          refine (szIntS_any _ l[k] _ _ hx hpos).mono ?_
          rintro e w1 ⟨rfl, rfl⟩
          have hb2 := hbel
          go_wp2
          go_ret
          exact ⟨ret_int (by rw [Hf.out]), hb2⟩
        · have H3 := Lib.hid h3; clear h3
          go_wp2_with fail
          refine (szIntS_any _ l[k] _ _ hx hpos).mono ?_
          rintro e w1 ⟨rfl, rfl⟩
          have hb2 := hbel
          go_wp2
          go_roundw
          case rel => exact ⟨k + 1, m + (l[k].length), by go_num, by omega, by rw [H3.out]; go_num, Lib.hid (by have := HN.out; simpa using this), by have := H3.out; omega, hb2⟩
          case measure => simp [intOf]; omega
      · have hkl : k = l.length := by omega
        have Hf := Lib.hid (bulkIntSS_left l b m k hkl HM.out hm)
        subst hkl
        go_wp2
        go_ret
        exact ⟨ret_int (by rw [Hf.out]), hbel⟩
def markIntSD (k : Int) (x : List Int) : List Int := marks k x.length
def cntIntS (x : List Int) : Nat := x.length
set_option maxRecDepth 100000 in
set_option maxHeartbeats 1600000 in
theorem markIntSS_any (v : Value) (l : List (List Int)) (f : List Nat) (k0 : Int) (w : World) (h : intss w v l f) (hnd : f.Nodup) (hk0 : 0 ≤ k0) (hk1 : k0 + ((l.map cntIntS).sum : Nat) ≤ 1000000000) :
    Calls Try.prog 33 #[v, .int .i64 k0] w fun e w' => e = .returned (.int .i64 (k0 + ((l.map cntIntS).sum : Nat))) ∧ intss w' v (markL markIntSD cntIntS k0 l) f ∧ Wrote f w w' := by
  obtain ⟨a, cap, rfl⟩ := slR.form h
  have hla := slR.le_max h
  go_enter Try.func33, Try.ntmps33
  go_wp2
  go_loopw [1, 5] (fun x i wr => ∃ j m : Nat, i = .int .i64 j ∧ j ≤ l.length ∧ x = .int .i64 (k0 + m) ∧ Hid (((l.map cntIntS).take j).sum = m) ∧ intss wr (.slice a l.length cap) (markL markIntSD cntIntS k0 (l.take j) ++ l.drop j) f ∧ Wrote f w wr) (fun _ i _ => l.length - (intOf i).toNat)
  case atStart => exact ⟨0, 0, rfl, Nat.zero_le _, by simp, Lib.hid (by simp), by simpa [markL] using h, Wrote.refl _ _⟩
  case round =>
    obtain ⟨j, m, rfl, hj, rfl, HM, hr, hwr⟩ := hrel
    by_cases hlt : j < l.length
    · have hjl : j < (markL markIntSD cntIntS k0 (l.take j) ++ l.drop j).length := by simp [markL_length]; omega
      have hle : m + cntIntS l[j] ≤ (l.map cntIntS).sum := by have := sum_take_le (l.map cntIntS) j (by simpa using hlt) m HM.out; simpa using this
      have hcnt : cntIntS l[j] = l[j].length := rfl
      have HS := Lib.hid (markL_step (mk := markIntSD) (cnt := cntIntS) k0 l j hlt m HM.out)
      have HN := Lib.hid (sum_take_step (l.map cntIntS) j (by simpa using hlt) m HM.out)
      obtain ⟨g, c, fi, rfl, ho, hR⟩ := slR.open good_ints hr hnd hjl
      rw [markL_at k0 l j hlt hjl] at hR
      obtain ⟨x, rfl, h0⟩ := hR
      have hmem := ho.mem
      clear hr h
      have hc0_0 : wr.cell? ⟨g, j, none⟩ = some x := by have := ho.cell (by omega) 0 _ rfl; simpa using this
      have hz0_0 := ho.frozen (by omega) (j)
      go_wp2_with fail
      refine (markIntS_any _ l[j] fi _ _ h0 ⟨by omega, by omega⟩ (by omega)).mono ?_
      rintro e w0 ⟨rfl, hm, hw0⟩
      have ho0 := ho.wrote hw0 (fun x hx => by simp [hx])
      have hs := ho0.shut (d := markIntSD (k0 + (m : Int)) l[j]) (by exact ⟨_, rfl, hm⟩)
      rw [HS.out] at hs
      have hwr0 := Wrote.trans hwr (Wrote.mono hw0 (fun x hx => hmem.2.2.1 x (by simp [hx])))
      clear hmem ho
      go_wp2
      go_roundw
      case rel => exact ⟨j + 1, m + cntIntS l[j], by go_num, by omega, by rw [hcnt]; go_num, Lib.hid (by have := HN.out; simpa using this), hs, hwr0⟩
      case measure => simp [intOf]; omega
    · have hkl : j = l.length := by omega
      have HM2 := Lib.hid (show (l.map cntIntS).sum = m by have := HM.out; rw [hkl, List.take_of_length_le (by simp)] at this; exact this)
      have hr' : intss wr (.slice a l.length cap) (markL markIntSD cntIntS k0 l) f := by rw [hkl] at hr; simpa using hr
      subst hkl
      clear hr
      go_wp2
      go_ret
      exact ⟨ret_int (by rw [HM2.out]), hr', hwr⟩
set_option maxRecDepth 100000 in
set_option maxHeartbeats 1600000 in
theorem heldIntSS_any (v : Value) (l : List (List Int)) (f : List Nat) (k0 : Int) (w : World) (h : intss w v (markL markIntSD cntIntS k0 l) f) (hk0 : 0 ≤ k0) (hk1 : k0 + ((l.map cntIntS).sum : Nat) ≤ 1000000000) :
    Calls Try.prog 35 #[v, .int .i64 k0] w fun e w' => e = .returned (.int .i64 (k0 + ((l.map cntIntS).sum : Nat))) ∧ Below w.heap.size w w' := by
  obtain ⟨a, cap, hv⟩ := slR.form h
  have hla := slR.le_max h
  rw [markL_length] at hv hla
  subst hv
  go_enter Try.func35, Try.ntmps35
  go_wp2
  go_loopw [1, 5] (fun x i wr => ∃ j m : Nat, i = .int .i64 j ∧ j ≤ l.length ∧ x = .int .i64 (k0 + m) ∧ Hid (((l.map cntIntS).take j).sum = m) ∧ Below w.heap.size w wr) (fun _ i _ => l.length - (intOf i).toNat)
  case atStart => exact ⟨0, 0, rfl, Nat.zero_le _, by simp, Lib.hid (by simp), Below.refl _ _⟩
  case round =>
    obtain ⟨j, m, rfl, hj, rfl, HM, hbel⟩ := hrel
    by_cases hlt : j < l.length
    · have hjl : j < (markL markIntSD cntIntS k0 l).length := by rw [markL_length]; exact hlt
      have hle : m + cntIntS l[j] ≤ (l.map cntIntS).sum := by have := sum_take_le (l.map cntIntS) j (by simpa using hlt) m HM.out; simpa using this
      have hcnt : cntIntS l[j] = l[j].length := rfl
      have HN := Lib.hid (sum_take_step (l.map cntIntS) j (by simpa using hlt) m HM.out)
      obtain ⟨g, c, fi, rfl, hR, _, hc, _, _, _⟩ := slR.at (h.below' hbel) j hjl
      rw [markL_get k0 l j hlt m HM.out hjl] at hR
      obtain ⟨x, rfl, h0⟩ := hR
      have hc0 : wr.cell? ⟨g, j, none⟩ = some x := by have := hc 0 _ rfl; simpa using this
      have hh : ints wr x (marks (k0 + (m : Int)) l[j].length) fi := h0
      clear hc
      go_wp2_with fail
      refine (heldIntS_any _ l[j].length _ _ _ hh ⟨by omega, by omega⟩ (by omega)).mono ?_
      rintro e w1 ⟨rfl, hb1⟩
      have hB1 := Below.trans hbel (hb1.mono (Below.size hbel))
      have hb1_ : Below wr.heap.size wr w1 := hb1
      have hc0_1 : w1.cell? ⟨g, j, none⟩ = _ := cell_below hc0 hb1_
      go_wp2
      go_roundw
      case rel => exact ⟨j + 1, m + cntIntS l[j], by go_num, by omega, by rw [hcnt]; go_num, Lib.hid (by have := HN.out; simpa using this), hB1⟩
      case measure => simp [intOf]; omega
    · have hkl : j = l.length := by omega
      have HM2 := Lib.hid (show (l.map cntIntS).sum = m by have := HM.out; rw [hkl, List.take_of_length_le (by simp)] at this; exact this)
      subst hkl
      go_wp2
      go_ret
      exact ⟨ret_int (by rw [HM2.out]), hbel⟩
end Go.Proofs.Ytjjkfhjkfoikbaa
