/- The walk of the law FnIntegerEncodings: it returns true, whatever the input. -/
import Derived.Test.YtkjlfhccjpimcaaDoorDraws
import Derived.Test.YtkjlfhccjpimcaaDoorEncL
import Derived.Test.YtkjlfhccjpimcaaDoorParI
import Derived.Test.YtkjlfhccjpimcaaDoorVarI
import Derived.Test.YtkjlfhccjpimcaaDoorVarint
import Derived.Test.YtkjlfhccjpimcaaDoorEncFixed
import Derived.Test.YtkjlfhccjpimcaaDoorHex
namespace Go.Proofs.YtkjlfhccjpimcaaDoor
open Go.RowKit
set_option linter.unusedVariables false
set_option linter.unusedSimpArgs false
theorem big_any (b : Option Addr) (n cap : Nat) (w : World) : Calls Tryd.prog 9 #[.slice b n cap] w fun e w' => e = .returned (.bool (decide ((1048576 : Int) < (n : Int)))) ∧ w' = w := by
  go_enter Tryd.func9, Tryd.ntmps9
  go_wp2
  go_ret
  exact ⟨rfl, rfl⟩
theorem arr_append (a b : List UInt8) (s : ByteArray) (h : s.data.toList = b) : (⟨a.toArray⟩ : ByteArray) ++ s = ⟨(a ++ b).toArray⟩ := by
  apply ByteArray.ext
  subst h
  simp
theorem ne_nil {l : List UInt8} (h : 0 < l.length) : l ≠ [] := by intro e; rw [e] at h; simp at h
theorem arr_size (l : List UInt8) : (⟨l.toArray⟩ : ByteArray).size = l.length := by simp [ByteArray.size]
theorem numS_toList (x : Int) : (numS x).data.toList = Lib.itoa x := by unfold numS; simp
theorem numS_size {x : Int} (h : I64 x) : (numS x).size ≤ 21 := by unfold numS; rw [arr_size]; exact itoa_le h
set_option maxRecDepth 100000 in
set_option maxHeartbeats 8000000 in
theorem fnIntegerEncodings_walk (v : Value) (l : List Int) (w : World) (g0 : bytesV w v l)
    (hT : (∃ tp p, w.cell? ⟨0, 0, none⟩ = some (.iface tp p)) ∧ (∃ tp p, w.cell? ⟨1, 0, none⟩ = some (.iface tp p)) ∧ (∃ tp p, w.cell? ⟨2, 0, none⟩ = some (.iface tp p)) ∧
      Lib.TabBelow Tryd.prog w.heap.size w "internal/strconv.uint64pow10" .u64 Lib.pow10Tab) :
    Calls Tryd.prog 4 #[v] w fun e w' => e = .returned (.bool true) ∧ Below w.heap.size w w' := by
  obtain ⟨b, cap, rfl⟩ := slW.form g0
  obtain ⟨⟨t0, p0, hL⟩, ⟨t1, p1, hE⟩, ⟨t2, p2, hR⟩, hT⟩ := hT
  have HT := Lib.hid hT
  clear hT
  by_cases hn : l.length ≤ 1048576
  case neg =>
    have hni : (1048576 : Int) < (l.length : Int) := by omega
    go_enter Tryd.func4, Tryd.ntmps4
    go_wp2_with (go_at_call 9; refine (big_any _ _ _ _).mono ?_; rintro e w' ⟨rfl, rfl⟩)
    go_ret
    exact ⟨rfl, Below.refl _ _⟩
  have hni : ¬ (1048576 : Int) < (l.length : Int) := by omega
  go_enter Tryd.func4, Tryd.ntmps4
  go_wp2_with (go_at_call 9; refine (big_any _ _ _ _).mono ?_; rintro e w' ⟨rfl, rfl⟩)
  refine (DrawEncodeVarint_any b cap l _ g0 hn).mono ?_
  rintro e w1 ⟨n, rfl, hI, hb1⟩
  go_wp2_with fail
  refine (DrawEncodeHex_any b cap l _ (g0.below' hb1) hn).mono ?_
  rintro e w2 ⟨tl, rfl, htl, hb2⟩
  have B2 := bt hb1 hb2
  obtain ⟨tb, htb⟩ : ∃ tb : List UInt8, tl.data.toList = tb := ⟨_, rfl⟩
  have Htb := Lib.hid htb
  have htl2 : tb.length ≤ 40 := by rw [← htb]; simpa using htl
  clear htb
  cases hin : inR n 0 562949953421311 with
  | false =>
    have Hev := Lib.hid (encVar_no hin)
    have hor : ¬ (0 : Int) ≤ n ∨ ((0 : Int) ≤ n ∧ ¬ n ≤ 562949953421311) := by
      unfold inR at hin
      simp only [Bool.and_eq_false_iff, decide_eq_false_iff_not] at hin
      omega
    clear hin
    go_wp2_with fail
    refine (f12_any n _).mono ?_
    rintro e w3 ⟨rfl, hb3⟩
    have B3 := bt B2 hb3
    rw [Hev.out]
    go_wp2_with fail
    refine (implDecodeVarint_any _ _ (by rw [ByteArray.size_append]; have e0 : (⟨#[]⟩ : ByteArray).size = 0 := rfl; omega)).mono ?_
    rintro e w4 ⟨xv, kv, rfl, hD, hb4⟩
    have B4 := bt B3 hb4
    clear hD
    rcases hor with hc0 | ⟨hc0, hc1⟩
    · skip
      go_wp2_with fail
      refine (DrawEncodeFixed_any b cap l _ (g0.below' B4) hn).mono ?_
      rintro e w5 ⟨x, wd, rfl, hIx, ⟨hwd0, hwd1⟩, hb5⟩
      have B5 := bt B4 hb5
      cases hfx : fixFits x wd with
      | false =>
        have Hef := Lib.hid (show encFixed x wd = ⟨#[]⟩ by unfold encFixed; rw [hfx]; rfl)
        clear hfx
        go_wp2_with fail
        refine (f15_any x wd _ hIx.2).mono ?_
        rintro e w6 ⟨rfl, hb6⟩
        have B6 := bt B5 hb6
        rw [Hef.out]
        go_wp2_with fail
        refine (f16_any _ _ _ (by rw [ByteArray.size_append]; have e0 : (⟨#[]⟩ : ByteArray).size = 0 := rfl; omega)).mono ?_
        rintro e w6' ⟨rfl, rfl⟩
        generalize decFixed _ _ = dv
        generalize fixOk _ _ = dk
        go_wp2_with fail
        refine (f17_any x wd _ hIx.2).mono ?_
        rintro e w7 ⟨rfl, hb7⟩
        have B7 := bt B6 hb7
        rw [Hef.out]
        go_wp2_with fail
        refine (f18_any tl _ (by omega)).mono ?_
        rintro e w8 ⟨rfl, hb8⟩
        have B8 := bt B7 hb8
        obtain ⟨hx1, hx2, hx3⟩ := dec_hex tl
        have hxs : (encHex tl).size ≤ 80 := by omega
        have hq := implDecodeHex_any (encHex tl) w8 (by omega) t0 p0 (cell_below hL B8)
        rw [hx1, hx2] at hq
        have htt : (⟨tl.data.toList.toArray⟩ : ByteArray) = tl := by simp
        rw [htt] at hq
        have Hx3 := Lib.hid hx3
        clear hx1 hx2 hx3 htt
        go_wp2_with fail
        refine hq.mono ?_
        rintro e w9 ⟨rfl, hb9⟩
        have B9 := bt B8 hb9
        clear hq
        go_wp2_with fail
        refine (implFormatInt_any x _ hIx (Tab.on HT.out B9 _ (Below.refl _ _))).mono ?_
        rintro e w10 ⟨rfl, hb10⟩
        have B10 := bt B9 hb10
        have hds : (numS x).size ≤ 21 := numS_size hIx
        go_wp2_with fail
        refine (implParseInt_any (numS x) _ (by omega) ⟨t1, p1, cell_below hE B10⟩ ⟨t2, p2, cell_below hR B10⟩ (Tab.on HT.out B10)).mono ?_
        rintro e w11 ⟨z, k, rfl, hZ, hb11⟩
        have B11 := bt B10 hb11
        rw [numS_toList] at hZ
        obtain ⟨hk, hz⟩ := dec_int hZ
        have hqs := specFormatInt_any x w11 hIx
        have hx3 := Hx3.out
        generalize encHex tl = eh at hx3
        have hxi : (eh.size : Int) = 2 * (tl.size : Int) := by omega
        have hkk : (k == (decide ((-1000000000 : Int) < x) && decide (x < 1000000000))) = true := by simp [hk]
        clear hx3 Hx3 hZ
        cases k with
        | true =>
          have hzx := hz rfl
          subst hzx
          clear hz
          have hkt : (decide ((-1000000000 : Int) < z) && decide (z < 1000000000)) = true := hk.symm
          simp only [Bool.and_eq_true, decide_eq_true_eq] at hkt
          obtain ⟨hk1, hk2⟩ := hkt
          generalize numS z = ds at hqs ⊢
          clear hk hkk hds
          go_wp2_with fail
          refine hqs.mono ?_
          rintro e w12 ⟨rfl, hb12⟩
          have B12 := bt B11 hb12
          go_wp2
          go_ret
          exact ⟨rfl, B12⟩
        | false =>
          clear hz
          have hkt : (decide ((-1000000000 : Int) < x) && decide (x < 1000000000)) = false := hk.symm
          have hor2 : ¬ (-1000000000 : Int) < x ∨ ((-1000000000 : Int) < x ∧ ¬ x < 1000000000) := by
            simp only [Bool.and_eq_false_iff, decide_eq_false_iff_not] at hkt
            omega
          generalize numS x = ds at hqs ⊢
          clear hk hkk hds hkt
          rcases hor2 with hk1 | ⟨hk1, hk2⟩
          · go_wp2_with fail
            refine hqs.mono ?_
            rintro e w12 ⟨rfl, hb12⟩
            have B12 := bt B11 hb12
            go_wp2
            go_ret
            exact ⟨rfl, B12⟩
          · go_wp2_with fail
            refine hqs.mono ?_
            rintro e w12 ⟨rfl, hb12⟩
            have B12 := bt B11 hb12
            go_wp2
            go_ret
            exact ⟨ret_bool (by rw [decide_eq_false (show ¬ x < 1000000000 by omega)]; rfl), B12⟩
      | true =>
        have Hef := Lib.hid (show encFixed x wd = ⟨(lowB wd.toNat x.toNat).toArray⟩ by unfold encFixed; rw [hfx]; rfl)
        have hfl := fix_len hfx
        obtain ⟨hd1, hd2⟩ := dec_fix hfx tb
        obtain ⟨hw1, hw2⟩ := inR_true (show inR wd 1 7 = true by unfold fixFits at hfx; simp only [Bool.and_eq_true] at hfx; exact hfx.1)
        clear hfx
        obtain ⟨fb, hfb⟩ : ∃ fb, lowB wd.toNat x.toNat = fb := ⟨_, rfl⟩
        have Hfb := Lib.hid hfb
        rw [hfb] at hfl hd1 hd2
        clear hfb
        have hfe : fb.isEmpty = false := by cases fb with
          | nil => simp at hfl; omega
          | cons q r => rfl
        go_wp2_with fail
        refine (f15_any x wd _ hIx.2).mono ?_
        rintro e w6 ⟨rfl, hb6⟩
        have B6 := bt B5 hb6
        rw [Hef.out, Hfb.out]
        go_wp2_with fail
        rw [arr_append fb tb tl Htb.out]
        refine (f16_any _ _ _ (by rw [arr_size]; simp; omega)).mono ?_
        rintro e w6' ⟨rfl, rfl⟩
        rw [hd1, hd2]
        have hfl2 : (fb.length : Int) = wd := hfl
        go_wp2_with fail
        refine (f17_any x wd _ hIx.2).mono ?_
        rintro e w7 ⟨rfl, hb7⟩
        have B7 := bt B6 hb7
        rw [Hef.out, Hfb.out]
        go_wp2_with fail
        refine (f18_any tl _ (by omega)).mono ?_
        rintro e w8 ⟨rfl, hb8⟩
        have B8 := bt B7 hb8
        obtain ⟨hx1, hx2, hx3⟩ := dec_hex tl
        have hxs : (encHex tl).size ≤ 80 := by omega
        have hq := implDecodeHex_any (encHex tl) w8 (by omega) t0 p0 (cell_below hL B8)
        rw [hx1, hx2] at hq
        have htt : (⟨tl.data.toList.toArray⟩ : ByteArray) = tl := by simp
        rw [htt] at hq
        have Hx3 := Lib.hid hx3
        clear hx1 hx2 hx3 htt
        go_wp2_with fail
        refine hq.mono ?_
        rintro e w9 ⟨rfl, hb9⟩
        have B9 := bt B8 hb9
        clear hq
        go_wp2_with fail
        refine (implFormatInt_any x _ hIx (Tab.on HT.out B9 _ (Below.refl _ _))).mono ?_
        rintro e w10 ⟨rfl, hb10⟩
        have B10 := bt B9 hb10
        have hds : (numS x).size ≤ 21 := numS_size hIx
        go_wp2_with fail
        refine (implParseInt_any (numS x) _ (by omega) ⟨t1, p1, cell_below hE B10⟩ ⟨t2, p2, cell_below hR B10⟩ (Tab.on HT.out B10)).mono ?_
        rintro e w11 ⟨z, k, rfl, hZ, hb11⟩
        have B11 := bt B10 hb11
        rw [numS_toList] at hZ
        obtain ⟨hk, hz⟩ := dec_int hZ
        have hqs := specFormatInt_any x w11 hIx
        have hx3 := Hx3.out
        generalize encHex tl = eh at hx3
        have hxi : (eh.size : Int) = 2 * (tl.size : Int) := by omega
        have hkk : (k == (decide ((-1000000000 : Int) < x) && decide (x < 1000000000))) = true := by simp [hk]
        clear hx3 Hx3 hZ
        cases k with
        | true =>
          have hzx := hz rfl
          subst hzx
          clear hz
          have hkt : (decide ((-1000000000 : Int) < z) && decide (z < 1000000000)) = true := hk.symm
          simp only [Bool.and_eq_true, decide_eq_true_eq] at hkt
          obtain ⟨hk1, hk2⟩ := hkt
          generalize numS z = ds at hqs ⊢
          clear hk hkk hds
          go_wp2_with fail
          refine hqs.mono ?_
          rintro e w12 ⟨rfl, hb12⟩
          have B12 := bt B11 hb12
          go_wp2
          go_ret
          exact ⟨rfl, B12⟩
        | false =>
          clear hz
          have hkt : (decide ((-1000000000 : Int) < x) && decide (x < 1000000000)) = false := hk.symm
          have hor2 : ¬ (-1000000000 : Int) < x ∨ ((-1000000000 : Int) < x ∧ ¬ x < 1000000000) := by
            simp only [Bool.and_eq_false_iff, decide_eq_false_iff_not] at hkt
            omega
          generalize numS x = ds at hqs ⊢
          clear hk hkk hds hkt
          rcases hor2 with hk1 | ⟨hk1, hk2⟩
          · go_wp2_with fail
            refine hqs.mono ?_
            rintro e w12 ⟨rfl, hb12⟩
            have B12 := bt B11 hb12
            go_wp2
            go_ret
            exact ⟨rfl, B12⟩
          · go_wp2_with fail
            refine hqs.mono ?_
            rintro e w12 ⟨rfl, hb12⟩
            have B12 := bt B11 hb12
            go_wp2
            go_ret
            exact ⟨ret_bool (by rw [decide_eq_false (show ¬ x < 1000000000 by omega)]; rfl), B12⟩
    · skip
      go_wp2_with fail
      refine (DrawEncodeFixed_any b cap l _ (g0.below' B4) hn).mono ?_
      rintro e w5 ⟨x, wd, rfl, hIx, ⟨hwd0, hwd1⟩, hb5⟩
      have B5 := bt B4 hb5
      cases hfx : fixFits x wd with
      | false =>
        have Hef := Lib.hid (show encFixed x wd = ⟨#[]⟩ by unfold encFixed; rw [hfx]; rfl)
        clear hfx
        go_wp2_with fail
        refine (f15_any x wd _ hIx.2).mono ?_
        rintro e w6 ⟨rfl, hb6⟩
        have B6 := bt B5 hb6
        rw [Hef.out]
        go_wp2_with fail
        refine (f16_any _ _ _ (by rw [ByteArray.size_append]; have e0 : (⟨#[]⟩ : ByteArray).size = 0 := rfl; omega)).mono ?_
        rintro e w6' ⟨rfl, rfl⟩
        generalize decFixed _ _ = dv
        generalize fixOk _ _ = dk
        go_wp2_with fail
        refine (f17_any x wd _ hIx.2).mono ?_
        rintro e w7 ⟨rfl, hb7⟩
        have B7 := bt B6 hb7
        rw [Hef.out]
        go_wp2_with fail
        refine (f18_any tl _ (by omega)).mono ?_
        rintro e w8 ⟨rfl, hb8⟩
        have B8 := bt B7 hb8
        obtain ⟨hx1, hx2, hx3⟩ := dec_hex tl
        have hxs : (encHex tl).size ≤ 80 := by omega
        have hq := implDecodeHex_any (encHex tl) w8 (by omega) t0 p0 (cell_below hL B8)
        rw [hx1, hx2] at hq
        have htt : (⟨tl.data.toList.toArray⟩ : ByteArray) = tl := by simp
        rw [htt] at hq
        have Hx3 := Lib.hid hx3
        clear hx1 hx2 hx3 htt
        go_wp2_with fail
        refine hq.mono ?_
        rintro e w9 ⟨rfl, hb9⟩
        have B9 := bt B8 hb9
        clear hq
        go_wp2_with fail
        refine (implFormatInt_any x _ hIx (Tab.on HT.out B9 _ (Below.refl _ _))).mono ?_
        rintro e w10 ⟨rfl, hb10⟩
        have B10 := bt B9 hb10
        have hds : (numS x).size ≤ 21 := numS_size hIx
        go_wp2_with fail
        refine (implParseInt_any (numS x) _ (by omega) ⟨t1, p1, cell_below hE B10⟩ ⟨t2, p2, cell_below hR B10⟩ (Tab.on HT.out B10)).mono ?_
        rintro e w11 ⟨z, k, rfl, hZ, hb11⟩
        have B11 := bt B10 hb11
        rw [numS_toList] at hZ
        obtain ⟨hk, hz⟩ := dec_int hZ
        have hqs := specFormatInt_any x w11 hIx
        have hx3 := Hx3.out
        generalize encHex tl = eh at hx3
        have hxi : (eh.size : Int) = 2 * (tl.size : Int) := by omega
        have hkk : (k == (decide ((-1000000000 : Int) < x) && decide (x < 1000000000))) = true := by simp [hk]
        clear hx3 Hx3 hZ
        cases k with
        | true =>
          have hzx := hz rfl
          subst hzx
          clear hz
          have hkt : (decide ((-1000000000 : Int) < z) && decide (z < 1000000000)) = true := hk.symm
          simp only [Bool.and_eq_true, decide_eq_true_eq] at hkt
          obtain ⟨hk1, hk2⟩ := hkt
          generalize numS z = ds at hqs ⊢
          clear hk hkk hds
          go_wp2_with fail
          refine hqs.mono ?_
          rintro e w12 ⟨rfl, hb12⟩
          have B12 := bt B11 hb12
          go_wp2
          go_ret
          exact ⟨rfl, B12⟩
        | false =>
          clear hz
          have hkt : (decide ((-1000000000 : Int) < x) && decide (x < 1000000000)) = false := hk.symm
          have hor2 : ¬ (-1000000000 : Int) < x ∨ ((-1000000000 : Int) < x ∧ ¬ x < 1000000000) := by
            simp only [Bool.and_eq_false_iff, decide_eq_false_iff_not] at hkt
            omega
          generalize numS x = ds at hqs ⊢
          clear hk hkk hds hkt
          rcases hor2 with hk1 | ⟨hk1, hk2⟩
          · go_wp2_with fail
            refine hqs.mono ?_
            rintro e w12 ⟨rfl, hb12⟩
            have B12 := bt B11 hb12
            go_wp2
            go_ret
            exact ⟨rfl, B12⟩
          · go_wp2_with fail
            refine hqs.mono ?_
            rintro e w12 ⟨rfl, hb12⟩
            have B12 := bt B11 hb12
            go_wp2
            go_ret
            exact ⟨ret_bool (by rw [decide_eq_false (show ¬ x < 1000000000 by omega)]; rfl), B12⟩
      | true =>
        have Hef := Lib.hid (show encFixed x wd = ⟨(lowB wd.toNat x.toNat).toArray⟩ by unfold encFixed; rw [hfx]; rfl)
        have hfl := fix_len hfx
        obtain ⟨hd1, hd2⟩ := dec_fix hfx tb
        obtain ⟨hw1, hw2⟩ := inR_true (show inR wd 1 7 = true by unfold fixFits at hfx; simp only [Bool.and_eq_true] at hfx; exact hfx.1)
        clear hfx
        obtain ⟨fb, hfb⟩ : ∃ fb, lowB wd.toNat x.toNat = fb := ⟨_, rfl⟩
        have Hfb := Lib.hid hfb
        rw [hfb] at hfl hd1 hd2
        clear hfb
        have hfe : fb.isEmpty = false := by cases fb with
          | nil => simp at hfl; omega
          | cons q r => rfl
        go_wp2_with fail
        refine (f15_any x wd _ hIx.2).mono ?_
        rintro e w6 ⟨rfl, hb6⟩
        have B6 := bt B5 hb6
        rw [Hef.out, Hfb.out]
        go_wp2_with fail
        rw [arr_append fb tb tl Htb.out]
        refine (f16_any _ _ _ (by rw [arr_size]; simp; omega)).mono ?_
        rintro e w6' ⟨rfl, rfl⟩
        rw [hd1, hd2]
        have hfl2 : (fb.length : Int) = wd := hfl
        go_wp2_with fail
        refine (f17_any x wd _ hIx.2).mono ?_
        rintro e w7 ⟨rfl, hb7⟩
        have B7 := bt B6 hb7
        rw [Hef.out, Hfb.out]
        go_wp2_with fail
        refine (f18_any tl _ (by omega)).mono ?_
        rintro e w8 ⟨rfl, hb8⟩
        have B8 := bt B7 hb8
        obtain ⟨hx1, hx2, hx3⟩ := dec_hex tl
        have hxs : (encHex tl).size ≤ 80 := by omega
        have hq := implDecodeHex_any (encHex tl) w8 (by omega) t0 p0 (cell_below hL B8)
        rw [hx1, hx2] at hq
        have htt : (⟨tl.data.toList.toArray⟩ : ByteArray) = tl := by simp
        rw [htt] at hq
        have Hx3 := Lib.hid hx3
        clear hx1 hx2 hx3 htt
        go_wp2_with fail
        refine hq.mono ?_
        rintro e w9 ⟨rfl, hb9⟩
        have B9 := bt B8 hb9
        clear hq
        go_wp2_with fail
        refine (implFormatInt_any x _ hIx (Tab.on HT.out B9 _ (Below.refl _ _))).mono ?_
        rintro e w10 ⟨rfl, hb10⟩
        have B10 := bt B9 hb10
        have hds : (numS x).size ≤ 21 := numS_size hIx
        go_wp2_with fail
        refine (implParseInt_any (numS x) _ (by omega) ⟨t1, p1, cell_below hE B10⟩ ⟨t2, p2, cell_below hR B10⟩ (Tab.on HT.out B10)).mono ?_
        rintro e w11 ⟨z, k, rfl, hZ, hb11⟩
        have B11 := bt B10 hb11
        rw [numS_toList] at hZ
        obtain ⟨hk, hz⟩ := dec_int hZ
        have hqs := specFormatInt_any x w11 hIx
        have hx3 := Hx3.out
        generalize encHex tl = eh at hx3
        have hxi : (eh.size : Int) = 2 * (tl.size : Int) := by omega
        have hkk : (k == (decide ((-1000000000 : Int) < x) && decide (x < 1000000000))) = true := by simp [hk]
        clear hx3 Hx3 hZ
        cases k with
        | true =>
          have hzx := hz rfl
          subst hzx
          clear hz
          have hkt : (decide ((-1000000000 : Int) < z) && decide (z < 1000000000)) = true := hk.symm
          simp only [Bool.and_eq_true, decide_eq_true_eq] at hkt
          obtain ⟨hk1, hk2⟩ := hkt
          generalize numS z = ds at hqs ⊢
          clear hk hkk hds
          go_wp2_with fail
          refine hqs.mono ?_
          rintro e w12 ⟨rfl, hb12⟩
          have B12 := bt B11 hb12
          go_wp2
          go_ret
          exact ⟨rfl, B12⟩
        | false =>
          clear hz
          have hkt : (decide ((-1000000000 : Int) < x) && decide (x < 1000000000)) = false := hk.symm
          have hor2 : ¬ (-1000000000 : Int) < x ∨ ((-1000000000 : Int) < x ∧ ¬ x < 1000000000) := by
            simp only [Bool.and_eq_false_iff, decide_eq_false_iff_not] at hkt
            omega
          generalize numS x = ds at hqs ⊢
          clear hk hkk hds hkt
          rcases hor2 with hk1 | ⟨hk1, hk2⟩
          · go_wp2_with fail
            refine hqs.mono ?_
            rintro e w12 ⟨rfl, hb12⟩
            have B12 := bt B11 hb12
            go_wp2
            go_ret
            exact ⟨rfl, B12⟩
          · go_wp2_with fail
            refine hqs.mono ?_
            rintro e w12 ⟨rfl, hb12⟩
            have B12 := bt B11 hb12
            go_wp2
            go_ret
            exact ⟨ret_bool (by rw [decide_eq_false (show ¬ x < 1000000000 by omega)]; rfl), B12⟩
  | true =>
    obtain ⟨vn, rfl, hvn, hev⟩ := encVar_yes hin
    have Hev := Lib.hid hev
    have hin2 := inR_true hin
    clear hin hev
    have hlen := varBytes_length 8 vn
    have hpos := varBytes_pos 8 vn
    go_wp2_with fail
    refine (f12_any _ _).mono ?_
    rintro e w3 ⟨rfl, hb3⟩
    have B3 := bt B2 hb3
    rw [Hev.out]
    have hD0 := fun x n => dec_var hvn tb (x := x) (n := n)
    obtain ⟨vb, hvb⟩ : ∃ vb, varBytes 8 vn = vb := ⟨_, rfl⟩
    rw [hvb] at hlen hpos hD0 ⊢
    clear hvb
    have hve : vb.isEmpty = false := by cases vb with
      | nil => simp at hpos
      | cons q r => rfl
    go_wp2_with fail
    rw [arr_append vb tb tl Htb.out]
    refine (implDecodeVarint_any _ _ (by rw [arr_size]; simp; omega)).mono ?_
    rintro e w4 ⟨xv, kv, rfl, hD, hb4⟩
    have B4 := bt B3 hb4
    obtain ⟨rfl, rfl⟩ := hD0 _ _ hD
    clear hD hD0
    go_wp2_with fail
    refine (DrawEncodeFixed_any b cap l _ (g0.below' B4) hn).mono ?_
    rintro e w5 ⟨x, wd, rfl, hIx, ⟨hwd0, hwd1⟩, hb5⟩
    have B5 := bt B4 hb5
    cases hfx : fixFits x wd with
    | false =>
      have Hef := Lib.hid (show encFixed x wd = ⟨#[]⟩ by unfold encFixed; rw [hfx]; rfl)
      clear hfx
      go_wp2_with fail
      refine (f15_any x wd _ hIx.2).mono ?_
      rintro e w6 ⟨rfl, hb6⟩
      have B6 := bt B5 hb6
      rw [Hef.out]
      go_wp2_with fail
      refine (f16_any _ _ _ (by rw [ByteArray.size_append]; have e0 : (⟨#[]⟩ : ByteArray).size = 0 := rfl; omega)).mono ?_
      rintro e w6' ⟨rfl, rfl⟩
      generalize decFixed _ _ = dv
      generalize fixOk _ _ = dk
      go_wp2_with fail
      refine (f17_any x wd _ hIx.2).mono ?_
      rintro e w7 ⟨rfl, hb7⟩
      have B7 := bt B6 hb7
      rw [Hef.out]
      go_wp2_with fail
      refine (f18_any tl _ (by omega)).mono ?_
      rintro e w8 ⟨rfl, hb8⟩
      have B8 := bt B7 hb8
      obtain ⟨hx1, hx2, hx3⟩ := dec_hex tl
      have hxs : (encHex tl).size ≤ 80 := by omega
      have hq := implDecodeHex_any (encHex tl) w8 (by omega) t0 p0 (cell_below hL B8)
      rw [hx1, hx2] at hq
      have htt : (⟨tl.data.toList.toArray⟩ : ByteArray) = tl := by simp
      rw [htt] at hq
      have Hx3 := Lib.hid hx3
      clear hx1 hx2 hx3 htt
      go_wp2_with fail
      refine hq.mono ?_
      rintro e w9 ⟨rfl, hb9⟩
      have B9 := bt B8 hb9
      clear hq
      go_wp2_with fail
      refine (implFormatInt_any x _ hIx (Tab.on HT.out B9 _ (Below.refl _ _))).mono ?_
      rintro e w10 ⟨rfl, hb10⟩
      have B10 := bt B9 hb10
      have hds : (numS x).size ≤ 21 := numS_size hIx
      go_wp2_with fail
      refine (implParseInt_any (numS x) _ (by omega) ⟨t1, p1, cell_below hE B10⟩ ⟨t2, p2, cell_below hR B10⟩ (Tab.on HT.out B10)).mono ?_
      rintro e w11 ⟨z, k, rfl, hZ, hb11⟩
      have B11 := bt B10 hb11
      rw [numS_toList] at hZ
      obtain ⟨hk, hz⟩ := dec_int hZ
      have hqs := specFormatInt_any x w11 hIx
      have hx3 := Hx3.out
      generalize encHex tl = eh at hx3
      have hxi : (eh.size : Int) = 2 * (tl.size : Int) := by omega
      have hkk : (k == (decide ((-1000000000 : Int) < x) && decide (x < 1000000000))) = true := by simp [hk]
      clear hx3 Hx3 hZ
      cases k with
      | true =>
        have hzx := hz rfl
        subst hzx
        clear hz
        have hkt : (decide ((-1000000000 : Int) < z) && decide (z < 1000000000)) = true := hk.symm
        simp only [Bool.and_eq_true, decide_eq_true_eq] at hkt
        obtain ⟨hk1, hk2⟩ := hkt
        generalize numS z = ds at hqs ⊢
        clear hk hkk hds
        go_wp2_with fail
        refine hqs.mono ?_
        rintro e w12 ⟨rfl, hb12⟩
        have B12 := bt B11 hb12
        go_wp2
        go_ret
        exact ⟨rfl, B12⟩
      | false =>
        clear hz
        have hkt : (decide ((-1000000000 : Int) < x) && decide (x < 1000000000)) = false := hk.symm
        have hor2 : ¬ (-1000000000 : Int) < x ∨ ((-1000000000 : Int) < x ∧ ¬ x < 1000000000) := by
          simp only [Bool.and_eq_false_iff, decide_eq_false_iff_not] at hkt
          omega
        generalize numS x = ds at hqs ⊢
        clear hk hkk hds hkt
        rcases hor2 with hk1 | ⟨hk1, hk2⟩
        · go_wp2_with fail
          refine hqs.mono ?_
          rintro e w12 ⟨rfl, hb12⟩
          have B12 := bt B11 hb12
          go_wp2
          go_ret
          exact ⟨rfl, B12⟩
        · go_wp2_with fail
          refine hqs.mono ?_
          rintro e w12 ⟨rfl, hb12⟩
          have B12 := bt B11 hb12
          go_wp2
          go_ret
          exact ⟨ret_bool (by rw [decide_eq_false (show ¬ x < 1000000000 by omega)]; rfl), B12⟩
    | true =>
      have Hef := Lib.hid (show encFixed x wd = ⟨(lowB wd.toNat x.toNat).toArray⟩ by unfold encFixed; rw [hfx]; rfl)
      have hfl := fix_len hfx
      obtain ⟨hd1, hd2⟩ := dec_fix hfx tb
      obtain ⟨hw1, hw2⟩ := inR_true (show inR wd 1 7 = true by unfold fixFits at hfx; simp only [Bool.and_eq_true] at hfx; exact hfx.1)
      clear hfx
      obtain ⟨fb, hfb⟩ : ∃ fb, lowB wd.toNat x.toNat = fb := ⟨_, rfl⟩
      have Hfb := Lib.hid hfb
      rw [hfb] at hfl hd1 hd2
      clear hfb
      have hfe : fb.isEmpty = false := by cases fb with
        | nil => simp at hfl; omega
        | cons q r => rfl
      go_wp2_with fail
      refine (f15_any x wd _ hIx.2).mono ?_
      rintro e w6 ⟨rfl, hb6⟩
      have B6 := bt B5 hb6
      rw [Hef.out, Hfb.out]
      go_wp2_with fail
      rw [arr_append fb tb tl Htb.out]
      refine (f16_any _ _ _ (by rw [arr_size]; simp; omega)).mono ?_
      rintro e w6' ⟨rfl, rfl⟩
      rw [hd1, hd2]
      have hfl2 : (fb.length : Int) = wd := hfl
      go_wp2_with fail
      refine (f17_any x wd _ hIx.2).mono ?_
      rintro e w7 ⟨rfl, hb7⟩
      have B7 := bt B6 hb7
      rw [Hef.out, Hfb.out]
      go_wp2_with fail
      refine (f18_any tl _ (by omega)).mono ?_
      rintro e w8 ⟨rfl, hb8⟩
      have B8 := bt B7 hb8
      obtain ⟨hx1, hx2, hx3⟩ := dec_hex tl
      have hxs : (encHex tl).size ≤ 80 := by omega
      have hq := implDecodeHex_any (encHex tl) w8 (by omega) t0 p0 (cell_below hL B8)
      rw [hx1, hx2] at hq
      have htt : (⟨tl.data.toList.toArray⟩ : ByteArray) = tl := by simp
      rw [htt] at hq
      have Hx3 := Lib.hid hx3
      clear hx1 hx2 hx3 htt
      go_wp2_with fail
      refine hq.mono ?_
      rintro e w9 ⟨rfl, hb9⟩
      have B9 := bt B8 hb9
      clear hq
      go_wp2_with fail
      refine (implFormatInt_any x _ hIx (Tab.on HT.out B9 _ (Below.refl _ _))).mono ?_
      rintro e w10 ⟨rfl, hb10⟩
      have B10 := bt B9 hb10
      have hds : (numS x).size ≤ 21 := numS_size hIx
      go_wp2_with fail
      refine (implParseInt_any (numS x) _ (by omega) ⟨t1, p1, cell_below hE B10⟩ ⟨t2, p2, cell_below hR B10⟩ (Tab.on HT.out B10)).mono ?_
      rintro e w11 ⟨z, k, rfl, hZ, hb11⟩
      have B11 := bt B10 hb11
      rw [numS_toList] at hZ
      obtain ⟨hk, hz⟩ := dec_int hZ
      have hqs := specFormatInt_any x w11 hIx
      have hx3 := Hx3.out
      generalize encHex tl = eh at hx3
      have hxi : (eh.size : Int) = 2 * (tl.size : Int) := by omega
      have hkk : (k == (decide ((-1000000000 : Int) < x) && decide (x < 1000000000))) = true := by simp [hk]
      clear hx3 Hx3 hZ
      cases k with
      | true =>
        have hzx := hz rfl
        subst hzx
        clear hz
        have hkt : (decide ((-1000000000 : Int) < z) && decide (z < 1000000000)) = true := hk.symm
        simp only [Bool.and_eq_true, decide_eq_true_eq] at hkt
        obtain ⟨hk1, hk2⟩ := hkt
        generalize numS z = ds at hqs ⊢
        clear hk hkk hds
        go_wp2_with fail
        refine hqs.mono ?_
        rintro e w12 ⟨rfl, hb12⟩
        have B12 := bt B11 hb12
        go_wp2
        go_ret
        exact ⟨rfl, B12⟩
      | false =>
        clear hz
        have hkt : (decide ((-1000000000 : Int) < x) && decide (x < 1000000000)) = false := hk.symm
        have hor2 : ¬ (-1000000000 : Int) < x ∨ ((-1000000000 : Int) < x ∧ ¬ x < 1000000000) := by
          simp only [Bool.and_eq_false_iff, decide_eq_false_iff_not] at hkt
          omega
        generalize numS x = ds at hqs ⊢
        clear hk hkk hds hkt
        rcases hor2 with hk1 | ⟨hk1, hk2⟩
        · go_wp2_with fail
          refine hqs.mono ?_
          rintro e w12 ⟨rfl, hb12⟩
          have B12 := bt B11 hb12
          go_wp2
          go_ret
          exact ⟨rfl, B12⟩
        · go_wp2_with fail
          refine hqs.mono ?_
          rintro e w12 ⟨rfl, hb12⟩
          have B12 := bt B11 hb12
          go_wp2
          go_ret
          exact ⟨ret_bool (by rw [decide_eq_false (show ¬ x < 1000000000 by omega)]; rfl), B12⟩
end Go.Proofs.YtkjlfhccjpimcaaDoor
