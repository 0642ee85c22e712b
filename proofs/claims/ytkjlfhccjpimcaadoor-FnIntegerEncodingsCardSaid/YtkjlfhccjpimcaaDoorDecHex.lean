/- DecodeHex of the program and of the reference: both say which bytes' digits the text is. Condition: the text is no longer than 2^20; what ErrLength holds. -/
import Derived.Test.YtkjlfhccjpimcaaDoorHex
import Derived.Test.YtkjlfhccjpimcaaDoorCalc
import Derived.Test.YtkjlfhccjpimcaaDoorFmtInt
import Derived.Test.YtkjlfhccjpimcaaDoorGrow
import Derived.Lib.ShelfFacts
namespace Go.Proofs.YtkjlfhccjpimcaaDoor
open Go.RowKit Go.Lib
set_option linter.unusedVariables false
set_option linter.unusedSimpArgs false
/-- Whether a text is the digits of bytes, and of which. -/
def hexOk (t : List UInt8) : Bool := decide (Hx.encode (Hx.decode t).1 = t)
def hexL (t : List UInt8) : List UInt8 := if hexOk t then (Hx.decode t).1 else []
theorem hexOk_of {t l : List UInt8} (h : Hx.encode l = t) : hexOk t = true ∧ hexL t = l ∧ (Hx.decode t).2 = .ok ∧ (Hx.decode t).1 = l := by
  have hd := Hx.decode_encode l
  rw [h] at hd
  have h1 : hexOk t = true := by unfold hexOk; rw [hd]; simpa using h
  exact ⟨h1, by unfold hexL; rw [if_pos h1, hd], by rw [hd], by rw [hd]⟩
theorem hexOk_no {t : List UInt8} (h : ∀ l, Hx.encode l ≠ t) : hexOk t = false ∧ hexL t = [] := by
  have h1 : hexOk t = false := by unfold hexOk; exact decide_eq_false (h _)
  exact ⟨h1, by unfold hexL; rw [h1]; rfl⟩
theorem hex_at {t l : List UInt8} (h : Hx.encode l = t) {j : Nat} (hj : 2 * j + 1 < t.length) :
    (∃ d, d < 16 ∧ Hx.digit d = t[2 * j]) ∧ (∃ d, d < 16 ∧ Hx.digit d = t[2 * j + 1]) := by
  have hl := Hx.encode_length l
  rw [h] at hl
  have hjl : j < l.length := by omega
  have he := Hx.encode_at l j l[j] (List.getElem?_eq_getElem hjl)
  rw [h, List.getElem?_eq_getElem (by omega), List.getElem?_eq_getElem hj] at he
  simp only [Option.some.injEq] at he
  have hb := (l[j]).toNat_lt
  exact ⟨⟨l[j].toNat / 16, by omega, he.1.symm⟩, ⟨l[j].toNat % 16, by omega, he.2.symm⟩⟩
theorem hex_byte (d1 d2 : Nat) (h1 : d1 < 16) (h2 : d2 < 16) : Hx.encode [UInt8.ofNat (16 * d1 + d2)] = [Hx.digit d1, Hx.digit d2] := by
  have e : (UInt8.ofNat (16 * d1 + d2)).toNat = 16 * d1 + d2 := toNat_ofNat_lt _ (by omega)
  rw [Hx.encode_cons, e]
  rw [show (16 * d1 + d2) / 16 = d1 by omega, show (16 * d1 + d2) % 16 = d2 by omega]
  rfl
def HexV (c : UInt8) (x : Int) : Prop := (x = -1 ∧ ∀ d, d < 16 → Hx.digit d ≠ c) ∨ ∃ d : Nat, d < 16 ∧ x = d ∧ Hx.digit d = c
set_option maxRecDepth 100000 in
set_option maxHeartbeats 1600000 in
theorem implDecodeHex_any (s : ByteArray) (w : World) (hs : s.size ≤ 1048576) (tp : TypeId) (p : Value) (hE : w.cell? ⟨0, 0, none⟩ = some (.iface tp p)) :
    Calls Tryd.prog 19 #[.string s] w fun e w' => e = .returned (.tuple #[.string ⟨(hexL s.data.toList).toArray⟩, .bool (hexOk s.data.toList)]) ∧ Below w.heap.size w w' := by
  have hds := Tryd.hex_DecodeString s w _ hE (by omega)
  have hdl := Hx.decode_len s.data.toList
  have hsz : s.data.toList.length = s.size := by simp
  cases hD : (Hx.decode s.data.toList).2 with
  | bad c =>
    have HF := Lib.hid (hexOk_no (t := s.data.toList) (fun l h => by have h1 := (hexOk_of h).2.2.1; rw [hD] at h1; cases h1))
    rw [hD, show ∀ T ev, Hx.errVal T ev (.bad c) = .iface T (.int .u8 (c.toNat : Int)) from fun _ _ => rfl] at hds
    clear hD
    go_enter Tryd.func19, Tryd.ntmps19
    go_wp2_with fail
    refine hds.mono ?_
    rintro e w1 ⟨rfl, _, hb1⟩
    clear hds
    go_wp2
    go_ret2
    exact ⟨by rw [HF.out.1, HF.out.2]; simp, hb1⟩
  | odd =>
    have HF := Lib.hid (hexOk_no (t := s.data.toList) (fun l h => by have h1 := (hexOk_of h).2.2.1; rw [hD] at h1; cases h1))
    rw [hD, show ∀ T ev, Hx.errVal T ev .odd = ev from fun _ _ => rfl] at hds
    clear hD
    go_enter Tryd.func19, Tryd.ntmps19
    go_wp2_with fail
    refine hds.mono ?_
    rintro e w1 ⟨rfl, _, hb1⟩
    clear hds
    go_wp2
    go_ret2
    exact ⟨by rw [HF.out.1, HF.out.2]; simp, hb1⟩
  | ok =>
    rw [hD, show ∀ T ev, Hx.errVal T ev .ok = .nilIface from fun _ _ => rfl] at hds
    have Hlo0 := Lib.hid (show hexOk s.data.toList = decide (Hx.encode (Hx.decode s.data.toList).1 = s.data.toList) from rfl)
    have Hlo1 := Lib.hid (show hexL s.data.toList = if hexOk s.data.toList then (Hx.decode s.data.toList).1 else [] from rfl)
    obtain ⟨lo, hlo⟩ : ∃ lo, lo = (Hx.decode s.data.toList).1 := ⟨_, rfl⟩
    rw [← hlo] at hds hdl Hlo0 Hlo1
    have hll : lo.length ≤ s.size / 2 := by first | exact hdl | (rw [hsz] at hdl; exact hdl) | omega
    clear hD hlo
    cases hok : hexOk s.data.toList with
    | true =>
      have he : Hx.encode lo = s.data.toList := by have h1 := Hlo0.out; rw [hok] at h1; exact of_decide_eq_true h1.symm
      have HL := Lib.hid (show hexL s.data.toList = lo by rw [Hlo1.out, if_pos hok])
      have hbe : (⟨(Hx.encode lo).toArray⟩ : ByteArray) = s := by rw [he]
      have Hok := Lib.hid hok
      clear hok he
      go_enter Tryd.func19, Tryd.ntmps19
      go_wp2_with fail
      refine hds.mono ?_
      rintro e w1 ⟨rfl, hrow, hb1⟩
      have hown := rowP_owns hrow hll (by unfold maxLen; omega) _ (Nat.le_refl _)
      have hc := hown.cells (g := w.heap.size) rfl
      have hlt := (own_lt hown w.heap.size rfl).2
      clear hds hrow
      go_wp2_with fail
      refine (Tryd.hex_EncodeToString_bytes w.heap.size 0 (s.size / 2) lo _ (fun i h => by
        have h9 := hc i (.int .u8 (lo[i].toNat : Int)) (by simp [List.getElem?_eq_getElem h])
        have e : (Addr.mk w.heap.size 0 none).add i = ⟨w.heap.size, 0 + i, none⟩ := by cases i <;> simp [Addr.add]
        rw [← e]; exact h9) hlt (by omega)).mono ?_
      rintro e w2 ⟨rfl, hb2⟩
      rw [hbe]
      have hbw := bt hb1 hb2
      have hcv : (convert 25 9 (.slice (some ⟨w.heap.size, 0, none⟩) lo.length (s.size / 2))).run Tryd.prog w2 = .ok (.string ⟨lo.toArray⟩) w2 :=
        run_convert_bytes_back (P := Tryd.prog) w2 25 9 5 ⟨w.heap.size, 0, none⟩ (s.size / 2) lo Tryd.underlying25 Tryd.underlying5 Tryd.underlying9 (fun j hj => cell_below (hc j (.int .u8 (lo[j].toNat : Int)) (by simp [List.getElem?_eq_getElem hj])) hb2)
      clear hown hc
      go_wp2
      go_ret2
      exact ⟨by rw [HL.out]; simp, hbw⟩
    | false =>
      have HL := Lib.hid (show hexL s.data.toList = [] by rw [Hlo1.out, if_neg (by rw [hok]; simp)])
      have hne : ¬ (⟨(Hx.encode lo).toArray⟩ : ByteArray) = s := by
        intro h
        have h1 := Hlo0.out
        rw [hok] at h1
        exact (of_decide_eq_false h1.symm) (by rw [← h])
      have hne2 : (Hx.encode lo == s.toList) = false := by
        rw [beq_eq_false_iff_ne]
        intro h
        rw [ByteArray.toList_eq] at h
        exact hne (by rw [h])
      have Hok := Lib.hid hok
      clear hok
      go_enter Tryd.func19, Tryd.ntmps19
      go_wp2_with fail
      refine hds.mono ?_
      rintro e w1 ⟨rfl, hrow, hb1⟩
      have hown := rowP_owns hrow hll (by unfold maxLen; omega) _ (Nat.le_refl _)
      have hc := hown.cells (g := w.heap.size) rfl
      have hlt := (own_lt hown w.heap.size rfl).2
      clear hds hrow
      go_wp2_with fail
      refine (Tryd.hex_EncodeToString_bytes w.heap.size 0 (s.size / 2) lo _ (fun i h => by
        have h9 := hc i (.int .u8 (lo[i].toNat : Int)) (by simp [List.getElem?_eq_getElem h])
        have e : (Addr.mk w.heap.size 0 none).add i = ⟨w.heap.size, 0 + i, none⟩ := by cases i <;> simp [Addr.add]
        rw [← e]; exact h9) hlt (by omega)).mono ?_
      rintro e w2 ⟨rfl, hb2⟩
      have hbw := bt hb1 hb2
      clear hown hc
      go_wp2
      go_ret2
      exact ⟨by rw [HL.out]; simp, hbw⟩
end Go.Proofs.YtkjlfhccjpimcaaDoor
