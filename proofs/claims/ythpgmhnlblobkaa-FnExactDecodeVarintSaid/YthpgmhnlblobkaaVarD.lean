/- DecodeVarint of the program and of the reference: both return what 'DecIs' says. Condition: the text is no longer than 2^20. -/
import Derived.Test.YthpgmhnlblobkaaVarP
import Derived.Test.YthpgmhnlblobkaaFixed
import Derived.Deep.QuietTactic
import Derived.BigQuiet
import Derived.Laws.Strings
namespace Go.Proofs.Ythpgmhnlblobkaa
open Go.RowKit
set_option linter.unusedVariables false
set_option linter.unusedSimpArgs false
/-- A world in which all that lay in w lies as it did. -/
structure Lat (w : World) where
  wd : World
  ok : Below w.heap.size w wd
instance (w : World) : Nonempty (Lat w) := ⟨⟨w, Below.refl _ _⟩⟩
theorem wp_region_lat {P : Program} {id : Nat} {Q : Exit → Act → World → Prop} {a : Act} (w : World) {l : List Oper} (hm : P.follows .mixedOrders = true) (hB : Region.lexB .any l.toArray = true)
    (h : wpQuiet P l.toArray (fun w' => ∃ x : Lat w, w' = x.wd) (fun a' => ∀ w', (∃ x : Lat w, w' = x.wd) → Q .normal a' w') l a) : (Code.region id l.toArray true).wp P Q a w :=
  wp_region_quiet (C := fun w' => ∃ x : Lat w, w' = x.wd) hm hB ⟨⟨w.drew, (Below.refl _ _).drew⟩, rfl⟩ (by simpa using h)
theorem Lat.of {P : Program} {w : World} {x : Lat w} {f : FuncId} {args : Array Value} {v : Value} (h : Calls P f args x.wd fun e w' => e = .returned v ∧ Below x.wd.heap.size x.wd w') :
    Calls P f args x.wd fun e w'' => e = .returned v ∧ ∃ y : Lat w, w'' = y.wd := h.mono fun _ w' ⟨he, hw⟩ => ⟨he, ⟨w', x.ok.trans (hw.mono x.ok.size)⟩, rfl⟩
theorem retStrB {P : Program} {f : FuncId} {args : Array Value} {w : World} {a b : ByteArray} {N : Nat} (h : Calls P f args w fun e w' => e = .returned (.string a) ∧ Below N w w') (hb : a = b) : Calls P f args w fun e w' => e = .returned (.string b) ∧ Below N w w' := hb ▸ h
theorem encVar_at (v : Nat) (h : v < 562949953421312) : encVar (v : Int) = ⟨(varBytes 8 v).toArray⟩ := by
  have h1 : inR (v : Int) 0 562949953421311 = true := by simp [inR]; omega
  simp [encVar, h1, encVarN]
theorem pow7 (l : List UInt8) (h : l.length ≤ 7) : leV l < 562949953421312 := by
  have h1 := leV_lt l
  have h2 : 128 ^ l.length ≤ 128 ^ 7 := Nat.pow_le_pow_right (by omega) h
  have h3 : (128 : Nat) ^ 7 = 562949953421312 := by decide
  omega
theorem pow6 (l : List UInt8) (h : l.length ≤ 6) : leV l < 4398046511104 := by
  have h1 := leV_lt l
  have h2 : 128 ^ l.length ≤ 128 ^ 6 := Nat.pow_le_pow_right (by omega) h
  have h3 : (128 : Nat) ^ 6 = 4398046511104 := by decide
  omega
theorem leV_drop {t : List UInt8} {n q : Nat} (h : q < n) (hn : n ≤ t.length) : leV ((t.take n).drop q) = (t[q]'(by omega)).toNat % 128 + 128 * leV ((t.take n).drop (q + 1)) := by
  rw [List.drop_eq_getElem_cons (by rw [List.length_take]; omega)]
  simp only [leV, List.getElem_take]
theorem take_extract (s : ByteArray) (n : Nat) : (⟨(s.data.toList.take n).toArray⟩ : ByteArray) = s.extract 0 n := by
  apply ByteArray.ext
  apply Array.toList_inj.1
  simp [ByteArray.data_extract, List.extract]
theorem extract_toList (s : ByteArray) (n : Nat) : (s.extract 0 n).toList = s.data.toList.take n := by
  rw [ByteArray.toList_eq, ← take_extract]
set_option maxRecDepth 100000 in
set_option maxHeartbeats 1600000 in
theorem specDecodeVarint_any (s : ByteArray) (w : World) (hs : s.size ≤ 1048576) :
    Calls Try.prog 4 #[.string s] w fun e w' => ∃ v n : Int, e = .returned (.tuple #[.int .i64 v, .int .i64 n]) ∧ DecIs s.data.toList v n ∧ Below w.heap.size w w' := by
  have hsz : s.data.toList.length = s.size := by simp
  go_enter Try.func4, Try.ntmps4
  go_wp2
  go_loopw [4] (fun i wr => ∃ n : Nat, i = .int .i64 n ∧ 1 ≤ n ∧ n ≤ 8 ∧ Hid (∀ m, m + 1 < n → m < 7 → ¬ canonAt s.data.toList m) ∧ Below w.heap.size w wr) (fun i _ => 8 - (intOf i).toNat)
  case atStart => exact ⟨1, rfl, by omega, by omega, Lib.hid (fun m h => by omega), Below.refl _ _⟩
  case round =>
    obtain ⟨n, rfl, hn1, hn8, HN, hbel⟩ := hrel
    by_cases h7 : n ≤ 7
    · by_cases hlt : n ≤ s.size
      · have hn7i : (n : Int) ≤ 7 := by omega
        have hnsi : (n : Int) ≤ (s.size : Int) := by omega
        have hwn : IntKind.i64.wrap ((n : Int) - 1) = (n : Int) - 1 := IntWalk.i64_in _ (by omega)
        go_wp2
        go_loopw [5, 6] (fun v i wr => ∃ (q x : Nat) (j : Int), i = .int .i64 j ∧ j = (q : Int) - 1 ∧ q ≤ n ∧ v = .int .i64 x ∧ Hid (x = leV ((s.data.toList.take n).drop q)) ∧ Below w.heap.size w wr) (fun _ i _ => (intOf i + 1).toNat)
        case atStart => exact ⟨n, 0, _, rfl, by omega, Nat.le_refl _, rfl, Lib.hid (by rw [List.drop_eq_nil_of_le (by rw [List.length_take]; omega)]; rfl), hbel⟩
        case round =>
          obtain ⟨q, x, j, rfl, hj, hq, rfl, HX, hbel⟩ := hrel
          cases q with
          | zero =>
            obtain rfl : j = -1 := by omega
            have HX2 := Lib.hid (show x = leV (s.data.toList.take n) by rw [HX.out, List.drop_zero])
            clear hj
            have hx : x < 562949953421312 := by rw [HX2.out]; exact pow7 _ (by rw [List.length_take]; omega)
            have hev := encVar_at x hx
            have hn0 : (0 : Int) ≤ (n : Int) := by omega
            by_cases hc : varBytes 8 x = s.data.toList.take n
            · have HC := Lib.hid (show DecIs s.data.toList (x : Int) (n : Int) from .inl ⟨n - 1, by omega, canon_of_var (f := 8) (v := x) (by rw [hsz]; omega) (Nat.lt_of_lt_of_le hx (by decide)) (by rw [show n - 1 + 1 = n by omega]; exact hc), by rw [show n - 1 + 1 = n by omega, ← HX2.out], by omega⟩)
              have hev2 : encVar (x : Int) = s.extract 0 n := by rw [hev, hc]; exact take_extract s n
              clear hev hc
              go_wp2_with fail
              refine wp_region_lat wr (by kernel_rfl) (by kernel_rfl) ?_
              repeat (go_big_quiet_step ((go_at_call 6; exact Lat.of (retStrB (f6_any (x : Int) _) hev2))))
              refine wpQuiet_nil ?_
              intro _ hw'
              obtain ⟨x1, hw''⟩ := hw'
              subst hw''
              have hb2 := hbel.trans (x1.ok.mono hbel.size)
              go_wp2
              go_ret2
              exact ⟨x, n, by simp, HC.out, hb2⟩
            · have HN2 := Lib.hid (show ∀ m, m + 1 < n + 1 → m < 7 → ¬ canonAt s.data.toList m from fun m hm h7 hca => by
                rcases Nat.lt_or_ge (m + 1) n with h | h
                · exact HN.out m h h7 hca
                · have e : m + 1 = n := by omega
                  exact hc (by rw [HX2.out, ← e]; exact var_of_canon (by omega) hca))
              have hne : (varBytes 8 x == (s.extract 0 n).toList) = false := by rw [beq_eq_false_iff_ne, extract_toList]; exact hc
              clear hc
              go_wp2_with fail
              refine wp_region_lat wr (by kernel_rfl) (by kernel_rfl) ?_
              repeat (go_big_quiet_step ((go_at_call 6; exact Lat.of (retStrB (f6_any (x : Int) _) hev))))
              refine wpQuiet_nil ?_
              intro _ hw'
              obtain ⟨x1, hw''⟩ := hw'
              subst hw''
              have hb2 := hbel.trans (x1.ok.mono hbel.size)
              go_wp2
              go_roundw
              case rel => exact ⟨n + 1, by go_num, by omega, by omega, HN2, hb2⟩
              case measure => simp [intOf]; omega
          | succ p =>
            obtain rfl : j = (p : Int) := by omega
            have hps : p < s.size := by omega
            have hx : x < 4398046511104 := by rw [HX.out]; exact pow6 _ (by rw [List.length_drop, List.length_take]; omega)
            have HS := Lib.hid (show (s[p].toNat % 128 + 128 * x : Nat) = leV ((s.data.toList.take n).drop p) by rw [HX.out]; exact (leV_drop (by omega) (by rw [hsz]; omega)).symm)
            have hp0 : (0 : Int) ≤ (p : Int) := by omega
            have hb8 := s[p].toNat_lt
            clear hj
            go_wp2
            go_roundw
            case rel => exact ⟨p, s[p].toNat % 128 + 128 * x, (p : Int) - 1, by go_num, rfl, by omega, by go_num, HS, hbel⟩
            case measure => first | (simp [intOf]; done) | (simp [intOf]; omega)
      · have hlt' : ¬ (n : Int) ≤ (s.size : Int) := by omega
        have hn7i : (n : Int) ≤ 7 := by omega
        have HD := Lib.hid (show DecIs s.data.toList 0 0 from .inr ⟨fun m hm hc => HN.out m (by obtain ⟨h, _⟩ := hc; omega) hm hc, rfl, rfl⟩)
        go_wp2
        go_ret2
        exact ⟨0, 0, by simp, HD.out, hbel⟩
    · have h7' : ¬ (n : Int) ≤ 7 := by omega
      have HD := Lib.hid (show DecIs s.data.toList 0 0 from .inr ⟨fun m hm hc => HN.out m (by omega) hm hc, rfl, rfl⟩)
      go_wp2
      go_ret2
      exact ⟨0, 0, by simp, HD.out, hbel⟩
end Go.Proofs.Ythpgmhnlblobkaa
