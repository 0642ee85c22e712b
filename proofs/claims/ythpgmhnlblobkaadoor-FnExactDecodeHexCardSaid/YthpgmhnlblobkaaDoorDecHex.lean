/- DecodeHex of the program and of the reference: both say which bytes' digits the text is. Condition: the text is no longer than 2^20; what ErrLength holds. -/
import Derived.Test.YthpgmhnlblobkaaDoorHex
import Derived.Test.YthpgmhnlblobkaaDoorCalc
import Derived.Test.YthpgmhnlblobkaaDoorFmtInt
import Derived.Test.YthpgmhnlblobkaaDoorGrow
import Derived.Lib.ShelfFacts
namespace Go.Proofs.YthpgmhnlblobkaaDoor
open Go.RowKit Go.Lib
set_option linter.unusedVariables false
set_option linter.unusedSimpArgs false
/-- Whether a text is the digits of bytes, and of which. -/
def hexOk (t : List UInt8) : Bool := decide (Hx.encode (Hx.decode t).1 = t)
def hexL (t : List UInt8) : List UInt8 := if hexOk t then (Hx.decode t).1 else []
theorem hexOk_of {t l : List UInt8} (h : Hx.encode l = t) : hexOk t = true ∧ hexL t = l ∧ (Hx.decode t).2 = .ok ∧ (Hx.decode t).1 = l := by
  have hd := Hx.decode_encode l
  rw [h] at hd
  have h1 : hexOk t = true := by unfold hexOk; rw [hd]; simpa using h
  exact ⟨h1, by unfold hexL; rw [if_pos h1, hd], by rw [hd], by rw [hd]⟩
theorem hexOk_no {t : List UInt8} (h : ∀ l, Hx.encode l ≠ t) : hexOk t = false ∧ hexL t = [] := by
  have h1 : hexOk t = false := by unfold hexOk; exact decide_eq_false (h _)
  exact ⟨h1, by unfold hexL; rw [h1]; rfl⟩
theorem hex_at {t l : List UInt8} (h : Hx.encode l = t) {j : Nat} (hj : 2 * j + 1 < t.length) :
    (∃ d, d < 16 ∧ Hx.digit d = t[2 * j]) ∧ (∃ d, d < 16 ∧ Hx.digit d = t[2 * j + 1]) := by
  have hl := Hx.encode_length l
  rw [h] at hl
  have hjl : j < l.length := by omega
  have he := Hx.encode_at l j l[j] (List.getElem?_eq_getElem hjl)
  rw [h, List.getElem?_eq_getElem (by omega), List.getElem?_eq_getElem hj] at he
  simp only [Option.some.injEq] at he
  have hb := (l[j]).toNat_lt
  exact ⟨⟨l[j].toNat / 16, by omega, he.1.symm⟩, ⟨l[j].toNat % 16, by omega, he.2.symm⟩⟩
theorem hex_byte (d1 d2 : Nat) (h1 : d1 < 16) (h2 : d2 < 16) : Hx.encode [UInt8.ofNat (16 * d1 + d2)] = [Hx.digit d1, Hx.digit d2] := by
  have e : (UInt8.ofNat (16 * d1 + d2)).toNat = 16 * d1 + d2 := toNat_ofNat_lt _ (by omega)
  rw [Hx.encode_cons, e]
  rw [show (16 * d1 + d2) / 16 = d1 by omega, show (16 * d1 + d2) % 16 = d2 by omega]
  rfl
def HexV (c : UInt8) (x : Int) : Prop := (x = -1 ∧ ∀ d, d < 16 → Hx.digit d ≠ c) ∨ ∃ d : Nat, d < 16 ∧ x = d ∧ Hx.digit d = c
set_option maxRecDepth 100000 in
set_option maxHeartbeats 800000 in
theorem l1FromHex_any (c : UInt8) (w : World) :
    Calls Tryd.prog 90 #[.int .u8 (c.toNat : Int)] w fun e w' => ∃ x : Int, e = .returned (.int .i64 x) ∧ HexV c x ∧ w' = w := by
  go_enter Tryd.func90, Tryd.ntmps90
  go_wp2
  go_loop [3] (fun i => ∃ k : Nat, k ≤ 16 ∧ i = .int .i64 k ∧ Hid (∀ d, d < k → Hx.digit d ≠ c)) (fun i => 16 - (intOf i).toNat)
  case atStart => exact ⟨0, Nat.zero_le _, rfl, Lib.hid (fun d h => by omega)⟩
  case round =>
    obtain ⟨k, hk, rfl, HN⟩ := hrel
    by_cases hlt : k < 16
    · by_cases he : Hx.digit k = c
      · have Hc := Lib.hid he
        have heq : ((Hx.digit k).toNat : Int) = (c.toNat : Int) := by rw [he]
        have hdc : decide (((Hx.digit k).toNat : Int) = (c.toNat : Int)) = true := decide_eq_true heq
        clear he
        go_wp2_with (go_at_call 118; refine (f118_any _ _ (by omega) (by omega)).mono ?_; rintro e w' ⟨rfl, rfl⟩)
        go_ret
        exact ⟨_, rfl, .inr ⟨k, hlt, rfl, Hc.out⟩, rfl⟩
      · have HN2 := Lib.hid (show ∀ d, d < k + 1 → Hx.digit d ≠ c from fun d hd => by
          rcases Nat.lt_or_ge d k with h | h
          · exact HN.out d h
          · obtain rfl : d = k := by omega
            exact he)
        have hne : ¬ ((Hx.digit k).toNat : Int) = (c.toNat : Int) := fun h => he (UInt8.toNat_inj.1 (by omega))
        have hdc : decide (((Hx.digit k).toNat : Int) = (c.toNat : Int)) = false := decide_eq_false hne
        clear he
        go_wp2_with (go_at_call 118; refine (f118_any _ _ (by omega) (by omega)).mono ?_; rintro e w' ⟨rfl, rfl⟩)
        go_round
        case rel => exact ⟨k + 1, by omega, by go_num, HN2⟩
        case measure => simp [intOf]; omega
    · have hk16 : k = 16 := by omega
      subst hk16
      go_wp2
      go_ret
      exact ⟨-1, rfl, .inl ⟨rfl, HN.out⟩, rfl⟩
set_option maxRecDepth 100000 in
set_option maxHeartbeats 1600000 in
theorem specDecodeHex_any (s : ByteArray) (w : World) (hs : s.size ≤ 1048576) :
    Calls Tryd.prog 51 #[.string s] w fun e w' => e = .returned (.tuple #[.string ⟨(hexL s.data.toList).toArray⟩, .bool (hexOk s.data.toList)]) ∧ Below w.heap.size w w' := by
  have hsz : s.data.toList.length = s.size := by simp
  by_cases hodd : s.size % 2 = 1
  · have HF := Lib.hid (hexOk_no (t := s.data.toList) (fun l h => by have h1 := Hx.encode_length l; rw [h, hsz] at h1; omega))
    have hr : (s.size : Int).tmod 2 = 1 := by rw [Int.tmod_eq_emod_of_nonneg (by omega)]; omega
    have hr2 : (s.size : Int) % 2 = 1 := by omega
    clear hodd
    go_enter Tryd.func51, Tryd.ntmps51
    go_wp2
    go_ret2
    exact ⟨by rw [HF.out.1, HF.out.2]; simp, ba (Below.refl _ _)⟩
  · have hr : (s.size : Int).tmod 2 = 0 := by rw [Int.tmod_eq_emod_of_nonneg (by omega)]; omega
    have hr2 : (s.size : Int) % 2 = 0 := by omega
    have Hev := Lib.hid hodd
    clear hodd
    go_enter Tryd.func51, Tryd.ntmps51
    go_wp2
    go_loopw [4, 5] (fun v i wr => ∃ (j k : Nat) (lo : List UInt8), i = .int .i64 j ∧ j ≤ s.size ∧ Hid (j = 2 * k) ∧ Hid (Hx.encode lo = s.data.toList.take j) ∧ lo.length ≤ j ∧ wr.ownsRow w.heap.size 5 1 v lo.length (bcells lo) ∧ Below w.heap.size w wr) (fun _ i _ => s.size - (RowKit.intOf i).toNat)
    case atStart => exact ⟨0, 0, [], rfl, Nat.zero_le _, Lib.hid rfl, Lib.hid rfl, Nat.zero_le _, World.ownsRow_lit _ _ _ (Nat.le_refl _) (by simp) (by simp), (Below.refl _ _).alloc (Nat.le_refl _) _⟩
    case round =>
      obtain ⟨j, k, lo, rfl, hj, Hk, HE, hll, hown, hbel⟩ := hrel
      by_cases hlt : j < s.size
      · obtain ⟨j1, hj1⟩ : ∃ j1, j1 = j + 1 := ⟨_, rfl⟩
        have hjs : j1 < s.size := by have h1 := Hev.out; have h2 := Hk.out; omega
        have hwj : IntKind.i64.wrap ((j : Int) + 1) = (j1 : Int) := by rw [IntWalk.i64_in _ (by omega)]; omega
        have hwj2 : IntKind.i64.wrap ((j : Int) + 2) = ((j : Int) + 2) := IntWalk.i64_in _ (by omega)
        have Hj1 := Lib.hid hj1
        clear hj1
        go_wp2_with fail
        refine (l1FromHex_any s[j] _).mono ?_
        rintro e w' ⟨x, rfl, hx, rfl⟩
        rcases hx with ⟨rfl, hno⟩ | ⟨d1, hd1, rfl, he1⟩
        · have HF := Lib.hid (hexOk_no (t := s.data.toList) (fun l h => by
            have h2 := Hk.out
            have h3 := Hj1.out
            subst h2
            obtain ⟨⟨d, hd, e⟩, _⟩ := hex_at h (j := k) (by rw [hsz]; omega)
            exact hno d hd e))
          clear hno
          go_wp2_with fail
          refine (l1FromHex_any s[j1] _).mono ?_
          rintro e w' ⟨y, rfl, hy, rfl⟩
          clear hy
          go_wp2
          go_ret2
          exact ⟨by rw [HF.out.1, HF.out.2]; simp, hbel⟩
        · have hd1' : ¬ ((d1 : Int) < 0) := by omega
          have hd1'' : decide ((d1 : Int) < 0) = false := decide_eq_false hd1'
          have He1 := Lib.hid he1
          clear he1
          go_wp2_with fail
          refine (l1FromHex_any s[j1] _).mono ?_
          rintro e w' ⟨y, rfl, hy, rfl⟩
          rcases hy with ⟨rfl, hno⟩ | ⟨d2, hd2, rfl, he2⟩
          · have HF := Lib.hid (hexOk_no (t := s.data.toList) (fun l h => by
              have h2 := Hk.out
              have h3 := Hj1.out
              subst h2 h3
              obtain ⟨_, ⟨d, hd, e⟩⟩ := hex_at h (j := k) (by rw [hsz]; omega)
              exact hno d hd e))
            clear hno
            go_wp2
            go_ret2
            exact ⟨by rw [HF.out.1, HF.out.2]; simp, hbel⟩
          · have hd2' : ¬ ((d2 : Int) < 0) := by omega
            have hd2'' : decide ((d2 : Int) < 0) = false := decide_eq_false hd2'
            have e1 : IntKind.i64.wrap (16 * (d1 : Int)) = 16 * (d1 : Int) := IntWalk.i64_in _ (by omega)
            have e2 : IntKind.i64.wrap (16 * (d1 : Int) + (d2 : Int)) = 16 * (d1 : Int) + (d2 : Int) := IntWalk.i64_in _ (by omega)
            have e3 : IntKind.u8.wrap (16 * (d1 : Int) + (d2 : Int)) = ((UInt8.ofNat (16 * d1 + d2)).toNat : Int) := by rw [toNat_ofNat_lt _ (by omega), IntKind.wrap_u8]; omega
            have HS := Lib.hid (show Hx.encode (lo ++ [UInt8.ofNat (16 * d1 + d2)]) = s.data.toList.take (j + 2) by
              have h3 := Hj1.out
              subst h3
              rw [encode_append, HE.out, hex_byte d1 d2 hd1 hd2, He1.out, he2, show j + 2 = j + 1 + 1 from rfl, take_snoc s (j + 1) hjs, take_snoc s j hlt]
              simp)
            have Hk2 := Lib.hid (show j + 2 = 2 * (k + 1) by have := Hk.out; omega)
            have hj2 : j + 2 ≤ s.size := by have := Hj1.out; omega
            clear he2
            go_wp2_with (at_builtin; refine append_news slByte rfl _ _ rfl _ _ _ hbel hown rfl _ 1 rfl rfl ?c1 ?c2 ?c3 ?_)
            case c1 => simp [Value.oneCell']
            case c2 => omega
            case c3 => unfold maxLen; omega
            · intro v' w1 hown1 _ hb2
              have hown2 : w1.ownsRow w.heap.size 5 1 v' (lo ++ [UInt8.ofNat (16 * d1 + d2)]).length (bcells (lo ++ [UInt8.ofNat (16 * d1 + d2)])) := by
                rw [bcells_append, List.length_append]
                exact hown1
              clear hown hbel hown1
              go_wp2
              go_roundw
              case rel => exact ⟨j + 2, k + 1, _, by go_num, hj2, Hk2, HS, by simp; omega, hown2, hb2⟩
              case measure => simp [RowKit.intOf]; omega
      · have hjs : j = s.size := by omega
        have HF := Lib.hid (hexOk_of (t := s.data.toList) (l := lo) (by rw [HE.out, hjs, List.take_of_length_le (by simp)]))
        have hcv := own_string hown
        clear hjs
        go_wp2
        go_ret2
        exact ⟨by rw [HF.out.1, HF.out.2.1]; simp, hbel⟩
set_option maxRecDepth 100000 in
set_option maxHeartbeats 1600000 in
theorem implDecodeHex_any (s : ByteArray) (w : World) (hs : s.size ≤ 1048576) (tp : TypeId) (p : Value) (hE : w.cell? ⟨0, 0, none⟩ = some (.iface tp p)) :
    Calls Tryd.prog 52 #[.string s] w fun e w' => e = .returned (.tuple #[.string ⟨(hexL s.data.toList).toArray⟩, .bool (hexOk s.data.toList)]) ∧ Below w.heap.size w w' := by
  have hds := Tryd.hex_DecodeString s w _ hE (by omega)
  have hdl := Hx.decode_len s.data.toList
  have hsz : s.data.toList.length = s.size := by simp
  cases hD : (Hx.decode s.data.toList).2 with
  | bad c =>
    have HF := Lib.hid (hexOk_no (t := s.data.toList) (fun l h => by have h1 := (hexOk_of h).2.2.1; rw [hD] at h1; cases h1))
    rw [hD, show ∀ T ev, Hx.errVal T ev (.bad c) = .iface T (.int .u8 (c.toNat : Int)) from fun _ _ => rfl] at hds
    clear hD
    go_enter Tryd.func52, Tryd.ntmps52
    go_wp2_with fail
    refine hds.mono ?_
    rintro e w1 ⟨rfl, _, hb1⟩
    clear hds
    go_wp2
    go_ret2
    exact ⟨by rw [HF.out.1, HF.out.2]; simp, hb1⟩
  | odd =>
    have HF := Lib.hid (hexOk_no (t := s.data.toList) (fun l h => by have h1 := (hexOk_of h).2.2.1; rw [hD] at h1; cases h1))
    rw [hD, show ∀ T ev, Hx.errVal T ev .odd = ev from fun _ _ => rfl] at hds
    clear hD
    go_enter Tryd.func52, Tryd.ntmps52
    go_wp2_with fail
    refine hds.mono ?_
    rintro e w1 ⟨rfl, _, hb1⟩
    clear hds
    go_wp2
    go_ret2
    exact ⟨by rw [HF.out.1, HF.out.2]; simp, hb1⟩
  | ok =>
    rw [hD, show ∀ T ev, Hx.errVal T ev .ok = .nilIface from fun _ _ => rfl] at hds
    have Hlo0 := Lib.hid (show hexOk s.data.toList = decide (Hx.encode (Hx.decode s.data.toList).1 = s.data.toList) from rfl)
    have Hlo1 := Lib.hid (show hexL s.data.toList = if hexOk s.data.toList then (Hx.decode s.data.toList).1 else [] from rfl)
    obtain ⟨lo, hlo⟩ : ∃ lo, lo = (Hx.decode s.data.toList).1 := ⟨_, rfl⟩
    rw [← hlo] at hds hdl Hlo0 Hlo1
    have hll : lo.length ≤ s.size / 2 := by first | exact hdl | (rw [hsz] at hdl; exact hdl) | omega
    clear hD hlo
    cases hok : hexOk s.data.toList with
    | true =>
      have he : Hx.encode lo = s.data.toList := by have h1 := Hlo0.out; rw [hok] at h1; exact of_decide_eq_true h1.symm
      have HL := Lib.hid (show hexL s.data.toList = lo by rw [Hlo1.out, if_pos hok])
      have hbe : (⟨(Hx.encode lo).toArray⟩ : ByteArray) = s := by rw [he]
      have Hok := Lib.hid hok
      clear hok he
      go_enter Tryd.func52, Tryd.ntmps52
      go_wp2_with fail
      refine hds.mono ?_
      rintro e w1 ⟨rfl, hrow, hb1⟩
      have hown := rowP_owns hrow hll (by unfold maxLen; omega) _ (Nat.le_refl _)
      have hc := hown.cells (g := w.heap.size) rfl
      have hlt := (own_lt hown w.heap.size rfl).2
      clear hds hrow
      go_wp2_with fail
      refine (Tryd.hex_EncodeToString_bytes w.heap.size 0 (s.size / 2) lo _ (fun i h => by
        have h9 := hc i (.int .u8 (lo[i].toNat : Int)) (by simp [List.getElem?_eq_getElem h])
        have e : (Addr.mk w.heap.size 0 none).add i = ⟨w.heap.size, 0 + i, none⟩ := by cases i <;> simp [Addr.add]
        rw [← e]; exact h9) hlt (by omega)).mono ?_
      rintro e w2 ⟨rfl, hb2⟩
      rw [hbe]
      have hbw := bt hb1 hb2
      have hcv : (convert 86 9 (.slice (some ⟨w.heap.size, 0, none⟩) lo.length (s.size / 2))).run Tryd.prog w2 = .ok (.string ⟨lo.toArray⟩) w2 :=
        run_convert_bytes_back (P := Tryd.prog) w2 86 9 5 ⟨w.heap.size, 0, none⟩ (s.size / 2) lo Tryd.underlying86 Tryd.underlying5 Tryd.underlying9 (fun j hj => cell_below (hc j (.int .u8 (lo[j].toNat : Int)) (by simp [List.getElem?_eq_getElem hj])) hb2)
      clear hown hc
      go_wp2
      go_ret2
      exact ⟨by rw [HL.out]; simp, hbw⟩
    | false =>
      have HL := Lib.hid (show hexL s.data.toList = [] by rw [Hlo1.out, if_neg (by rw [hok]; simp)])
      have hne : ¬ (⟨(Hx.encode lo).toArray⟩ : ByteArray) = s := by
        intro h
        have h1 := Hlo0.out
        rw [hok] at h1
        exact (of_decide_eq_false h1.symm) (by rw [← h])
      have hne2 : (Hx.encode lo == s.toList) = false := by
        rw [beq_eq_false_iff_ne]
        intro h
        rw [ByteArray.toList_eq] at h
        exact hne (by rw [h])
      have Hok := Lib.hid hok
      clear hok
      go_enter Tryd.func52, Tryd.ntmps52
      go_wp2_with fail
      refine hds.mono ?_
      rintro e w1 ⟨rfl, hrow, hb1⟩
      have hown := rowP_owns hrow hll (by unfold maxLen; omega) _ (Nat.le_refl _)
      have hc := hown.cells (g := w.heap.size) rfl
      have hlt := (own_lt hown w.heap.size rfl).2
      clear hds hrow
      go_wp2_with fail
      refine (Tryd.hex_EncodeToString_bytes w.heap.size 0 (s.size / 2) lo _ (fun i h => by
        have h9 := hc i (.int .u8 (lo[i].toNat : Int)) (by simp [List.getElem?_eq_getElem h])
        have e : (Addr.mk w.heap.size 0 none).add i = ⟨w.heap.size, 0 + i, none⟩ := by cases i <;> simp [Addr.add]
        rw [← e]; exact h9) hlt (by omega)).mono ?_
      rintro e w2 ⟨rfl, hb2⟩
      have hbw := bt hb1 hb2
      clear hown hc
      go_wp2
      go_ret2
      exact ⟨by rw [HL.out]; simp, hbw⟩
end Go.Proofs.YthpgmhnlblobkaaDoor
