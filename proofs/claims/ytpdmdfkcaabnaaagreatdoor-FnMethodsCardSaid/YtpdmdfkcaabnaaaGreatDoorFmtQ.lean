/- FormatQuery of the program and of the reference. Conditions: not more than 2^20 terms, head's terms and atoms; what the library's table reads as. -/
import Derived.Test.YtpdmdfkcaabnaaaGreatDoorFmtQL
import Derived.Test.YtpdmdfkcaabnaaaGreatDoorMB
import Derived.Test.YtpdmdfkcaabnaaaGreatDoorMC
import Derived.Test.YtpdmdfkcaabnaaaGreatDoorIsQuery
import Derived.Test.YtpdmdfkcaabnaaaGreatDoorMA
namespace Go.Proofs.YtpdmdfkcaabnaaaGreatDoor
open Go.RowKit
set_option linter.unusedVariables false
set_option linter.unusedSimpArgs false
theorem atoms_wf {w : World} {v : Value} {l : List AtomD} {f : List Nat} (h : atoms w v l f) : ∀ x ∈ l, ∀ y ∈ x.terms, I64 y := by
  intro x hx
  obtain ⟨a, cap, rfl⟩ := slR.form h
  obtain ⟨k, hk, rfl⟩ := List.mem_iff_getElem.1 hx
  obtain ⟨g, c, fi, rfl, ⟨vv, rfl, vi, hv⟩, _, hc, _, _, _⟩ := slR.at h k hk
  obtain ⟨o, _, _, hw⟩ := row_of_ints hv
  exact hw
theorem ints_wf {w : World} {v : Value} {l : List Int} {f : List Nat} (h : ints w v l f) : ∀ y ∈ l, I64 y := by
  obtain ⟨o, _, _, hw⟩ := row_of_ints h
  exact hw
theorem grR.lit' {α : Type} {E : TypeId} {sz : Nat} {w : World} {n : Nat} (R : Rd α) (hn : n = w.heap.size) : grR E sz R w.heap.size (w.alloc (.cells #[] E)) (.slice (some ⟨n, 0, none⟩) 0 0) [] [w.heap.size] := by
  subst hn; exact grR.lit R (Nat.le_refl _) (Nat.le_refl _)
theorem emp_isEmpty {s : List UInt8} (h : s ≠ []) : s.isEmpty = false := by cases s with
  | nil => exact absurd rfl h
  | cons a t => rfl
theorem strs_at {B : Nat} {w : World} {g cap n : Nat} {l : List (List UInt8)} {f : List Nat} (h : grR 9 1 strR B w (.slice (some ⟨g, 0, none⟩) n cap) l f) (hn : n = l.length) (k : Nat) (hk : k < l.length) : w.cell? ⟨g, k, none⟩ = some (.string ⟨l[k].toArray⟩) := by
  have h1 := (strs_cells h hn).1 k ⟨l[k].toArray⟩ (by simp [hk])
  rwa [Nat.zero_add] at h1
set_option maxRecDepth 100000 in
set_option maxHeartbeats 800000 in
theorem indexStr_any {B : Nat} {g cap n : Nat} (w : World) {l : List (List UInt8)} {f : List Nat} (h : grR 9 1 strR B w (.slice (some ⟨g, 0, none⟩) n cap) l f) (hn : n = l.length) (h1 : l.length ≤ 1048577) :
    Calls Tryz.prog 173 #[.slice (some ⟨g, 0, none⟩) n cap, .string ⟨#[]⟩] w fun e w' => e = .returned (.int .i64 (idxI (fun y => y.isEmpty) l)) ∧ Below w.heap.size w w' := by
  have HC := Lib.hid (fun k hk => strs_at h hn k hk)
  obtain ⟨_, hg, hcap⟩ := strs_cells h hn
  subst hn
  clear h
  go_enter Tryz.func173, Tryz.ntmps173
  go_wp2
  go_loopw [8] (fun i wr => ∃ k : Nat, i = .int .i64 k ∧ k ≤ l.length ∧ Hid (∀ j (hj : j < l.length), j < k → l[j].isEmpty = false) ∧ Below w.heap.size w wr) (fun i _ => l.length - (intOf i).toNat)
  case atStart => exact ⟨0, rfl, Nat.zero_le _, Lib.hid (fun j hj h0 => by omega), Below.refl _ _⟩
  case round =>
    obtain ⟨k, rfl, hk, HN, hbel⟩ := hrel
    by_cases hlt : k < l.length
    · have hc := cell_below (HC.out k hlt) hbel
      have hkl : (k : Int) < (l.length : Int) := by omega
      cases hp : l[k].isEmpty with
      | true =>
        have Hf := Lib.hid (idxI_at (fun y => y.isEmpty) l k hlt hp HN.out)
        have he : l[k] = [] := List.isEmpty_iff.1 hp
        rw [he] at hc
        clear hp he
        go_wp2
        go_ret
        exact ⟨ret_int (by rw [Hf.out]), hbel⟩
      | false =>
        have HN2 := Lib.hid (show ∀ j (hj : j < l.length), j < k + 1 → l[j].isEmpty = false from fun j hj h1 => by
          by_cases e : j = k
          · subst e; exact hp
          · exact HN.out j hj (by omega))
        obtain ⟨t, ht⟩ : ∃ t, t = l[k] := ⟨_, rfl⟩
        rw [← ht] at hc hp
        clear ht
        go_wp2
        go_roundw
        case rel => exact ⟨k + 1, by go_num, by omega, HN2, hbel⟩
        case measure => simp [intOf]; omega
    · have hkl : k = l.length := by omega
      have Hf := Lib.hid (idxI_none (fun y => y.isEmpty) l (fun j hj => HN.out j hj (by omega)))
      go_wp2
      go_ret
      exact ⟨ret_int (by rw [Hf.out]), hbel⟩
set_option maxRecDepth 100000 in
set_option maxHeartbeats 3200000 in
theorem containsStr_any {B : Nat} {g cap n : Nat} (w : World) {l : List (List UInt8)} {f : List Nat} (h : grR 9 1 strR B w (.slice (some ⟨g, 0, none⟩) n cap) l f) (hn : n = l.length) (h1 : l.length ≤ 1048577) :
    Calls Tryz.prog 113 #[.slice (some ⟨g, 0, none⟩) n cap, .string ⟨#[]⟩] w fun e w' => e = .returned (.bool (l.any fun y => y.isEmpty)) ∧ Below w.heap.size w w' := by
  have Ha := Lib.hid (idxI_any (fun y : List UInt8 => y.isEmpty) l)
  subst hn
  have hq := indexStr_any w h rfl h1
  clear h
  generalize hN : l.length = N at hq ⊢
  have HN := Lib.hid hN
  clear hN h1
  go_enter Tryz.func113, Tryz.ntmps113
  go_wp2_with fail
  refine hq.mono ?_
  rintro e w1 ⟨rfl, hb1⟩
  go_wp2
  go_ret
  exact ⟨ret_bool (by rw [← Ha.out]), hb1⟩
set_option maxRecDepth 100000 in
set_option maxHeartbeats 6400000 in
theorem specFormatQuery_any (q : QueryD) (vh : Value) (fh : List Nat) (va : Value) (fa : List Nat) (w : World) (hh : ints w vh q.head fh) (ha : atoms w va q.atoms fa) (hn : (termsL q.atoms).length ≤ 1048576) (hnh : q.head.length ≤ 1048576) (hna : q.atoms.length ≤ 1048576) :
    Calls Tryz.prog 38 #[.agg #[vh, va]] w fun e w' => e = .returned (.string ⟨(queryFS q).toArray⟩) ∧ Below w.heap.size w w' := by
  have Hn := Lib.hid hn
  clear hn
  have HIh := Lib.hid (ints_wf hh)
  have HIa := Lib.hid (atoms_wf ha)
  obtain ⟨head, l⟩ := q
  have hnh : head.length ≤ 1048576 := hnh
  have hna : l.length ≤ 1048576 := hna
  obtain ⟨b, cap', rfl⟩ := slR.form hh
  obtain ⟨d, cap2, rfl⟩ := slR.form ha
  have hla := slR.le_max ha
  have hlb := slR.le_max hh
  have hb0 : Below w.heap.size w (w.alloc (.cells #[.slice b head.length cap', .slice d l.length cap2] 58)) := ba (Below.refl _ _)
  have hh0 : ints (w.alloc (.cells #[.slice b head.length cap', .slice d l.length cap2] 58)) (.slice b head.length cap') head fh := hh.below' hb0
  have ha0 : atoms (w.alloc (.cells #[.slice b head.length cap', .slice d l.length cap2] 58)) (.slice d l.length cap2) l fa := ha.below' hb0
  have c0 : (w.alloc (.cells #[.slice b head.length cap', .slice d l.length cap2] 58)).cell? ⟨w.heap.size, 0, none⟩ = some (.slice b head.length cap') := cell_new w _ _ 0 _ rfl
  have c1 : (w.alloc (.cells #[.slice b head.length cap', .slice d l.length cap2] 58)).cell? ⟨w.heap.size, 1, none⟩ = some (.slice d l.length cap2) := cell_new w _ _ 1 _ rfl
  cases hin : inR (l.length : Int) 1 4 with
  | false =>
    have Hf := Lib.hid (queryFS_len (q := ⟨head, l⟩) hin)
    have hq := fun x => retB (f86_any (l.length : Int) 1 4 x) hin
    go_enter Tryz.func38, Tryz.ntmps38
    go_wp2_with (go_at_call 86; refine (hq _).mono ?_; rintro e w' ⟨rfl, rfl⟩)
    go_ret
    exact ⟨ret_str' (by rw [Hf.out]), hb0⟩
  | true =>
    have hq := fun x => retB (f86_any (l.length : Int) 1 4 x) hin
    by_cases hlen : (head.length : Int) ≤ 3
    case neg =>
      have Hf := Lib.hid (queryFS_head (q := ⟨head, l⟩) (headB_len hlen))
      have hlen2 : (3 : Int) < (head.length : Int) := by omega
      go_enter Tryz.func38, Tryz.ntmps38
      go_wp2_with (go_at_call 86; refine (hq _).mono ?_; rintro e w' ⟨rfl, rfl⟩)
      go_ret
      exact ⟨ret_str' (by rw [Hf.out]), hb0⟩
    have hlen2 : ¬ (3 : Int) < (head.length : Int) := by omega
    by_cases hz : head.length = 0
    · have hz1 : (head.length : Int) = 0 := by omega
      have hz2 : ¬ (0 : Int) < (head.length : Int) := by omega
      have HH := Lib.hid (show accQ ⟨head, l⟩ 0 = yesS ++ ifS by rw [accQ_zero]; unfold headS; rw [if_pos hz])
      have d0 := c0
      have d1 := c1
      have hbs := hb0
      clear hz
      go_enter Tryz.func38, Tryz.ntmps38
      go_wp2_with (go_at_call 86; refine (hq _).mono ?_; rintro e w' ⟨rfl, rfl⟩)
      clear hq
      go_wp2_with fail
      refine (specVarsOf_any ⟨head, l⟩ _ fh _ fa _ (hh.below' hbs) (ha.below' hbs) Hn.out).mono ?_
      rintro e w1 ⟨v1, f1, rfl, h1, hb1⟩
      obtain ⟨p, cp, rfl⟩ := slR.form h1
      have e0 := cell_below d0 hb1
      have e1 := cell_below d1 hb1
      have hh1 := (hh.below' hbs).below' hb1
      have ha1 : atoms w1 (.slice d l.length cap2) l fa := (ha.below' hbs).below' hb1
      have hbf := bt hbs hb1
      clear d0 d1 c0 c1
      go_wp2
      go_loop [5] (fun i => ∃ k : Nat, i = .int .i64 k ∧ k ≤ head.length ∧ Hid (∀ j (hj : j < head.length), j < k → (!memB (qvars ⟨head, l⟩) head[j]) = false)) (fun i => head.length - (intOf i).toNat)
      case atStart => exact ⟨0, rfl, Nat.zero_le _, Lib.hid (fun j hj h0 => by omega)⟩
      case round =>
        obtain ⟨k2, rfl, hk2, HN⟩ := hrel
        by_cases hlt2 : k2 < head.length
        · omega
        · have hkl2 : k2 = head.length := by omega
          have Hh := Lib.hid (headB_all (q := ⟨head, l⟩) hlen (any_false_of (p := fun t => !memB (qvars ⟨head, l⟩) t) (l := head) (fun j hj => HN.out j hj (by omega))))
          clear hkl2
          go_wp2
          go_loopw [3, 6, 7] (fun s i t wr => ∃ (k : Nat) (sl : List UInt8), i = .int .i64 k ∧ k ≤ l.length ∧ s = .string ⟨sl.toArray⟩ ∧ Hid (sl = accQ ⟨head, l⟩ k) ∧ Hid (∀ j (hj : j < l.length), j < k → (!atomFB l[j]) = false) ∧ Below w1.heap.size w1 wr) (fun _ i _ _ => l.length - (intOf i).toNat)
          case atStart => exact ⟨0, _, rfl, Nat.zero_le _, congrArg Value.string (by rw [HH.out]; apply ByteArray.ext; simp [yesS, ifS]), Lib.hid rfl, Lib.hid (fun j hj h0 => by omega), Below.refl _ _⟩
          case round =>
            obtain ⟨k, sl, rfl, hk, rfl, HS, HN, hbel⟩ := hrel
            have g0 := cell_below e0 hbel
            have g1 := cell_below e1 hbel
            have hbw := bt hbf hbel
            have hsl : sl.length ≤ 200000000 := by rw [HS.out]; exact accQ_len HIh.out hnh HIa.out hna
            by_cases hlt : k < l.length
            · obtain ⟨gi, c, fi, hg, ⟨vv, rfl, vi, hv⟩, _, hc, _, _, _⟩ := slR.at (ha1.below' hbel) k hlt
              obtain ⟨a', c', rfl⟩ := slR.form hv
              have hc0 : wr.cell? ⟨gi, k * 2, none⟩ = _ := hc 0 _ rfl
              have hc1 : wr.cell? ⟨gi, k * 2 + 1, none⟩ = _ := hc 1 _ rfl
              have hkl : (k : Int) < (l.length : Int) := by omega
              clear hc
              subst hg
              cases hp : atomFB l[k] with
              | false =>
                have Hf := Lib.hid (queryFS_atom (q := ⟨head, l⟩) (any_true_of (p := fun a => !atomFB a) hlt (by simp [hp])))
                have hF := retStr (specFormatAtom_any l[k] _ fi wr hv) (show (⟨(atomFS l[k]).toArray⟩ : ByteArray) = ⟨#[]⟩ by rw [atomFS_nil hp])
                clear hp
                go_wp2_with fail
                refine hF.mono ?_
                rintro e w2 ⟨rfl, hb2⟩
                have hbg := bt hbw hb2
                go_wp2
                go_ret
                exact ⟨ret_str' (by rw [Hf.out]), hbg⟩
              | true =>
                have HN2 := Lib.hid (none_step (p := fun a => !atomFB a) HN.out hlt (by simp [hp]))
                have htl : (atomFS l[k]).length ≤ 150 := atomFS_len (HIa.out _ (List.getElem_mem hlt))
                obtain ⟨t, ht⟩ : ∃ t, t = atomFS l[k] := ⟨_, rfl⟩
                have hte : t.isEmpty = false := by obtain ⟨r, hr⟩ := atomFS_cons hp; rw [ht, hr]; rfl
                have hF := specFormatAtom_any l[k] _ fi wr hv
                rw [← ht] at hF htl
                by_cases hk0 : k = 0
                · have HA := Lib.hid (show sl ++ t = accQ ⟨head, l⟩ (k + 1) by rw [HS.out, ht]; have := accQ_first (q := ⟨head, l⟩) (by simpa [hk0] using hlt); simp only [hk0]; exact this)
                  have hgt : decide ((0 : Int) < (k : Int)) = false := by simp; omega
                  have hgt' : ¬ (0 : Int) < (k : Int) := by omega
                  clear hk0 hp ht
                  go_wp2_with fail
                  refine hF.mono ?_
                  rintro e w2 ⟨rfl, hb2⟩
                  have hbg := bt hbel hb2
                  go_wp2
                  go_roundw
                  case rel => exact ⟨k + 1, sl ++ t, by go_num, by omega, by first | rfl | (congr 1; apply ByteArray.ext; simp), HA, HN2, hbg⟩
                  case measure => simp [intOf]; omega
                · have HA := Lib.hid (show sl ++ andS ++ t = accQ ⟨head, l⟩ (k + 1) by rw [HS.out, ht]; exact accQ_next (q := ⟨head, l⟩) hlt hk0)
                  have hgt : decide ((0 : Int) < (k : Int)) = true := by simp; omega
                  have hgt' : (0 : Int) < (k : Int) := by omega
                  clear hk0 hp ht
                  go_wp2_with fail
                  refine hF.mono ?_
                  rintro e w2 ⟨rfl, hb2⟩
                  have hbg := bt hbel hb2
                  go_wp2
                  go_roundw
                  case rel => exact ⟨k + 1, sl ++ andS ++ t, by go_num, by omega, by first | rfl | (congr 1; apply ByteArray.ext; simp [andS]), HA, HN2, hbg⟩
                  case measure => simp [intOf]; omega
            · have hkl : k = l.length := by omega
              have Hf := Lib.hid (show queryFS ⟨head, l⟩ = sl by rw [HS.out, accQ_end ⟨head, l⟩ hkl]; exact queryFS_all hin Hh.out (any_false_of (p := fun a => !atomFB a) (l := l) (fun j hj => HN.out j hj (by omega))))
              clear hkl
              go_wp2
              go_ret
              exact ⟨ret_str' (by rw [Hf.out]), hbw⟩
    · have hz1 : ¬ (head.length : Int) = 0 := by omega
      have hz2 : (0 : Int) < (head.length : Int) := by omega
      have HH := Lib.hid (show accQ ⟨head, l⟩ 0 = termsS head [44] ++ ifS by rw [accQ_zero]; unfold headS; rw [if_neg hz])
      have hsz : (termsS head [44]).length ≤ 24117248 := by
        have h5 := termsS_len (l := head) [44] HIh.out
        have h6 : head.length * (22 + [(44 : UInt8)].length) ≤ 1048576 * 23 := Nat.mul_le_mul hnh (by simp)
        omega
      clear hz
      go_enter Tryz.func38, Tryz.ntmps38
      go_wp2_with (go_at_call 86; refine (hq _).mono ?_; rintro e w' ⟨rfl, rfl⟩)
      clear hq
      refine (l3Terms_any _ head fh _ hh0 hnh).mono ?_
      rintro e w0 ⟨rfl, hbt⟩
      have d0 := cell_below c0 hbt
      have d1 := cell_below c1 hbt
      have hbs := bt hb0 hbt
      go_wp2_with fail
      refine (specVarsOf_any ⟨head, l⟩ _ fh _ fa _ (hh.below' hbs) (ha.below' hbs) Hn.out).mono ?_
      rintro e w1 ⟨v1, f1, rfl, h1, hb1⟩
      obtain ⟨p, cp, rfl⟩ := slR.form h1
      have e0 := cell_below d0 hb1
      have e1 := cell_below d1 hb1
      have hh1 := (hh.below' hbs).below' hb1
      have ha1 : atoms w1 (.slice d l.length cap2) l fa := (ha.below' hbs).below' hb1
      have hbf := bt hbs hb1
      clear d0 d1 c0 c1
      go_wp2
      go_loop [5] (fun i => ∃ k : Nat, i = .int .i64 k ∧ k ≤ head.length ∧ Hid (∀ j (hj : j < head.length), j < k → (!memB (qvars ⟨head, l⟩) head[j]) = false)) (fun i => head.length - (intOf i).toNat)
      case atStart => exact ⟨0, rfl, Nat.zero_le _, Lib.hid (fun j hj h0 => by omega)⟩
      case round =>
        obtain ⟨k2, rfl, hk2, HN⟩ := hrel
        by_cases hlt2 : k2 < head.length
        · skip
          obtain ⟨g2, rfl, hc2, _, hI, _⟩ := hh1.get k2 hlt2
          have hkl2 : (k2 : Int) < (head.length : Int) := by omega
          cases hp : memB (qvars ⟨head, l⟩) head[k2] with
          | false =>
            have Hf := Lib.hid (queryFS_head (q := ⟨head, l⟩) (headB_any (any_true_of (p := fun t => !memB (qvars ⟨head, l⟩) t) hlt2 (by simp [hp]))))
            have hq := retB (l2Has_any _ _ f1 head[k2] _ h1) hp
            go_wp2_with fail
            refine hq.mono ?_
            rintro e w2 ⟨rfl, rfl⟩
            go_wp2
            go_ret
            exact ⟨ret_str' (by rw [Hf.out]), hbf⟩
          | true =>
            have HN2 := Lib.hid (none_step (p := fun t => !memB (qvars ⟨head, l⟩) t) HN.out hlt2 (by simp [hp]))
            have hq := retB (l2Has_any _ _ f1 head[k2] _ h1) hp
            go_wp2_with fail
            refine hq.mono ?_
            rintro e w2 ⟨rfl, rfl⟩
            go_wp2
            go_round
            case rel => exact ⟨k2 + 1, by go_num, by omega, HN2⟩
            case measure => simp [intOf]; omega
        · have hkl2 : k2 = head.length := by omega
          have Hh := Lib.hid (headB_all (q := ⟨head, l⟩) hlen (any_false_of (p := fun t => !memB (qvars ⟨head, l⟩) t) (l := head) (fun j hj => HN.out j hj (by omega))))
          clear hkl2
          go_wp2
          go_loopw [3, 6, 7] (fun s i t wr => ∃ (k : Nat) (sl : List UInt8), i = .int .i64 k ∧ k ≤ l.length ∧ s = .string ⟨sl.toArray⟩ ∧ Hid (sl = accQ ⟨head, l⟩ k) ∧ Hid (∀ j (hj : j < l.length), j < k → (!atomFB l[j]) = false) ∧ Below w1.heap.size w1 wr) (fun _ i _ _ => l.length - (intOf i).toNat)
          case atStart => exact ⟨0, _, rfl, Nat.zero_le _, congrArg Value.string (by rw [HH.out]; apply ByteArray.ext; simp [ifS]), Lib.hid rfl, Lib.hid (fun j hj h0 => by omega), Below.refl _ _⟩
          case round =>
            obtain ⟨k, sl, rfl, hk, rfl, HS, HN, hbel⟩ := hrel
            have g0 := cell_below e0 hbel
            have g1 := cell_below e1 hbel
            have hbw := bt hbf hbel
            have hsl : sl.length ≤ 200000000 := by rw [HS.out]; exact accQ_len HIh.out hnh HIa.out hna
            by_cases hlt : k < l.length
            · obtain ⟨gi, c, fi, hg, ⟨vv, rfl, vi, hv⟩, _, hc, _, _, _⟩ := slR.at (ha1.below' hbel) k hlt
              obtain ⟨a', c', rfl⟩ := slR.form hv
              have hc0 : wr.cell? ⟨gi, k * 2, none⟩ = _ := hc 0 _ rfl
              have hc1 : wr.cell? ⟨gi, k * 2 + 1, none⟩ = _ := hc 1 _ rfl
              have hkl : (k : Int) < (l.length : Int) := by omega
              clear hc
              subst hg
              cases hp : atomFB l[k] with
              | false =>
                have Hf := Lib.hid (queryFS_atom (q := ⟨head, l⟩) (any_true_of (p := fun a => !atomFB a) hlt (by simp [hp])))
                have hF := retStr (specFormatAtom_any l[k] _ fi wr hv) (show (⟨(atomFS l[k]).toArray⟩ : ByteArray) = ⟨#[]⟩ by rw [atomFS_nil hp])
                clear hp
                go_wp2_with fail
                refine hF.mono ?_
                rintro e w2 ⟨rfl, hb2⟩
                have hbg := bt hbw hb2
                go_wp2
                go_ret
                exact ⟨ret_str' (by rw [Hf.out]), hbg⟩
              | true =>
                have HN2 := Lib.hid (none_step (p := fun a => !atomFB a) HN.out hlt (by simp [hp]))
                have htl : (atomFS l[k]).length ≤ 150 := atomFS_len (HIa.out _ (List.getElem_mem hlt))
                obtain ⟨t, ht⟩ : ∃ t, t = atomFS l[k] := ⟨_, rfl⟩
                have hte : t.isEmpty = false := by obtain ⟨r, hr⟩ := atomFS_cons hp; rw [ht, hr]; rfl
                have hF := specFormatAtom_any l[k] _ fi wr hv
                rw [← ht] at hF htl
                by_cases hk0 : k = 0
                · have HA := Lib.hid (show sl ++ t = accQ ⟨head, l⟩ (k + 1) by rw [HS.out, ht]; have := accQ_first (q := ⟨head, l⟩) (by simpa [hk0] using hlt); simp only [hk0]; exact this)
                  have hgt : decide ((0 : Int) < (k : Int)) = false := by simp; omega
                  have hgt' : ¬ (0 : Int) < (k : Int) := by omega
                  clear hk0 hp ht
                  go_wp2_with fail
                  refine hF.mono ?_
                  rintro e w2 ⟨rfl, hb2⟩
                  have hbg := bt hbel hb2
                  go_wp2
                  go_roundw
                  case rel => exact ⟨k + 1, sl ++ t, by go_num, by omega, by first | rfl | (congr 1; apply ByteArray.ext; simp), HA, HN2, hbg⟩
                  case measure => simp [intOf]; omega
                · have HA := Lib.hid (show sl ++ andS ++ t = accQ ⟨head, l⟩ (k + 1) by rw [HS.out, ht]; exact accQ_next (q := ⟨head, l⟩) hlt hk0)
                  have hgt : decide ((0 : Int) < (k : Int)) = true := by simp; omega
                  have hgt' : (0 : Int) < (k : Int) := by omega
                  clear hk0 hp ht
                  go_wp2_with fail
                  refine hF.mono ?_
                  rintro e w2 ⟨rfl, hb2⟩
                  have hbg := bt hbel hb2
                  go_wp2
                  go_roundw
                  case rel => exact ⟨k + 1, sl ++ andS ++ t, by go_num, by omega, by first | rfl | (congr 1; apply ByteArray.ext; simp [andS]), HA, HN2, hbg⟩
                  case measure => simp [intOf]; omega
            · have hkl : k = l.length := by omega
              have Hf := Lib.hid (show queryFS ⟨head, l⟩ = sl by rw [HS.out, accQ_end ⟨head, l⟩ hkl]; exact queryFS_all hin Hh.out (any_false_of (p := fun a => !atomFB a) (l := l) (fun j hj => HN.out j hj (by omega))))
              clear hkl
              go_wp2
              go_ret
              exact ⟨ret_str' (by rw [Hf.out]), hbw⟩
set_option maxRecDepth 100000 in
set_option maxHeartbeats 6400000 in
theorem implFormatQuery_any (q : QueryD) (vh : Value) (fh : List Nat) (va : Value) (fa : List Nat) (w : World) (hh : ints w vh q.head fh) (ha : atoms w va q.atoms fa) (hn : (termsL q.atoms).length ≤ 1048576) (hnh : q.head.length ≤ 1048576) (hna : q.atoms.length ≤ 1048576) (hT : Lib.TabBelow Tryz.prog w.heap.size w "internal/strconv.uint64pow10" .u64 Lib.pow10Tab) :
    Calls Tryz.prog 36 #[.agg #[vh, va]] w fun e w' => e = .returned (.string ⟨(queryFS q).toArray⟩) ∧ Below w.heap.size w w' := by
  have Hn := Lib.hid hn
  have HT := Lib.hid hT
  clear hn hT
  have HIh := Lib.hid (ints_wf hh)
  have HIa := Lib.hid (atoms_wf ha)
  obtain ⟨head, l⟩ := q
  have hnh : head.length ≤ 1048576 := hnh
  have hna : l.length ≤ 1048576 := hna
  obtain ⟨b, cap', rfl⟩ := slR.form hh
  obtain ⟨d, cap2, rfl⟩ := slR.form ha
  have hla := slR.le_max ha
  have hlb := slR.le_max hh
  have hb0 : Below w.heap.size w (w.alloc (.cells #[.slice b head.length cap', .slice d l.length cap2] 58)) := ba (Below.refl _ _)
  have hh0 : ints (w.alloc (.cells #[.slice b head.length cap', .slice d l.length cap2] 58)) (.slice b head.length cap') head fh := hh.below' hb0
  have ha0 : atoms (w.alloc (.cells #[.slice b head.length cap', .slice d l.length cap2] 58)) (.slice d l.length cap2) l fa := ha.below' hb0
  have HT := Lib.hid (Tab.on HT.out hb0)
  have c0 : (w.alloc (.cells #[.slice b head.length cap', .slice d l.length cap2] 58)).cell? ⟨w.heap.size, 0, none⟩ = some (.slice b head.length cap') := cell_new w _ _ 0 _ rfl
  have c1 : (w.alloc (.cells #[.slice b head.length cap', .slice d l.length cap2] 58)).cell? ⟨w.heap.size, 1, none⟩ = some (.slice d l.length cap2) := cell_new w _ _ 1 _ rfl
  have HZ : (w.alloc (.cells #[.slice b head.length cap', .slice d l.length cap2] 58)).heap.size = w.heap.size + 1 := by simp only [World.alloc, Array.size_push]
  go_enter Tryz.func36, Tryz.ntmps36
  go_wp2
  go_loopw [3, 11] (fun u i wr => ∃ (k gu cu : Nat) (lo : List (List UInt8)) (fo : List Nat), i = .int .i64 k ∧ k ≤ l.length ∧ u = .slice (some ⟨gu, 0, none⟩) lo.length cu ∧ Hid (lo = (l.take k).map atomFS) ∧ grR 9 1 strR (w.alloc (.cells #[.slice b head.length cap', .slice d l.length cap2] 58)).heap.size wr u lo fo ∧ Below (w.alloc (.cells #[.slice b head.length cap', .slice d l.length cap2] 58)).heap.size (w.alloc (.cells #[.slice b head.length cap', .slice d l.length cap2] 58)) wr) (fun _ i _ => l.length - (intOf i).toNat)
  case atStart => exact ⟨0, _, _, [], _, rfl, Nat.zero_le _, rfl, Lib.hid rfl, grR.lit' strR HZ.symm, ba (Below.refl _ _)⟩
  case round =>
    obtain ⟨k, gu, cu, lo, fo, rfl, hk, rfl, Hlo, hgr, hbel⟩ := hrel
    have d0 := cell_below c0 hbel
    have d1 := cell_below c1 hbel
    have hll : lo.length ≤ 1048576 := by
      have h0 := congrArg List.length Hlo.out
      rw [List.length_map, List.length_take] at h0
      omega
    by_cases hlt : k < l.length
    · obtain ⟨g, c, fi, rfl, ⟨vv, rfl, vi, hv⟩, _, hc, _, _, _⟩ := slR.at (ha0.below' hbel) k hlt
      obtain ⟨a', c', rfl⟩ := slR.form hv
      have hc0 : wr.cell? ⟨g, k * 2, none⟩ = _ := hc 0 _ rfl
      have hc1 : wr.cell? ⟨g, k * 2 + 1, none⟩ = _ := hc 1 _ rfl
      have hkl : (k : Int) < (l.length : Int) := by omega
      have htl : (atomFS l[k]).length ≤ 150 := atomFS_len (HIa.out _ (List.getElem_mem hlt))
      have HS := Lib.hid (show lo ++ [atomFS l[k]] = (l.take (k + 1)).map atomFS by rw [List.take_succ_eq_append_getElem hlt, List.map_append, Hlo.out]; rfl)
      clear hc
      go_wp2_with fail
      refine (implFormatAtom_any l[k] _ fi _ (hv.al _) (Tab.on HT.out (ba hbel))).mono ?_
      rintro e w1 ⟨rfl, hb1⟩
      have hgr1 := hgr.below' good_str (bt (ba (Below.refl _ _)) hb1)
      have hb2 := bt (ba hbel) hb1
      clear d0 d1
      go_wp2_with (at_builtin; refine wpList_gr slStr good_str rfl _ _ rfl hgr1 hb2 rfl #[.string _] (atomFS l[k]) [] ⟨rfl, rfl⟩ rfl (Fresh.nil _) (by simp) rfl (by simp [Value.oneCell']) (by omega) (by unfold maxLen; omega) ?_; intro g3 cap3 w2 f2 hgr3 hb3 hg3)
      go_roundw
      case rel => exact ⟨k + 1, g3, cap3, lo ++ [atomFS l[k]], f2, by go_num, by omega, by simp, HS, by simpa using hgr3, hb3⟩
      case measure => simp [intOf]; omega
    · have hkl : k = l.length := by omega
      have HS := Lib.hid (show lo = l.map atomFS by rw [Hlo.out, hkl, List.take_length])
      have hle : lo.length = l.length := by rw [HS.out, List.length_map]
      have hbw := bt hb0 hbel
      clear hkl
      cases hin : inR (lo.length : Int) 1 4 with
      | false =>
        have Hf := Lib.hid (queryFS_len (q := ⟨head, l⟩) (by rw [← hin, hle]))
        have hq := fun x => retB (f107_any (lo.length : Int) 1 4 x) hin
        clear hin hle
        go_wp2_with (go_at_call 107; refine (hq _).mono ?_; rintro e w' ⟨rfl, rfl⟩)
        go_ret
        exact ⟨ret_str' (by rw [Hf.out]), hbw⟩
      | true =>
        have hq := fun x => retB (f107_any (lo.length : Int) 1 4 x) hin
        have Hin := Lib.hid (show inR (l.length : Int) 1 4 = true by rw [← hin, hle])
        have hcs := containsStr_any wr hgr rfl (by omega)
        have Han := Lib.hid (any_nil l)
        rw [HS.out, Han.out] at hcs
        have Hle := Lib.hid (show lo.length = (l.map atomFS).length by rw [HS.out])
        rw [← Hle.out] at hcs
        clear hin hle
        cases hay : l.any (fun a => !atomFB a) with
        | true =>
          have Hf := Lib.hid (queryFS_atom (q := ⟨head, l⟩) hay)
          rw [hay] at hcs
          clear hay
          go_wp2_with (go_at_call 107; refine (hq _).mono ?_; rintro e w' ⟨rfl, rfl⟩)
          refine hcs.mono ?_
          rintro e w1 ⟨rfl, hb1⟩
          have hbx := bt hbw hb1
          go_wp2
          go_ret
          exact ⟨ret_str' (by rw [Hf.out]), hbx⟩
        | false =>
          have Hay := Lib.hid hay
          rw [hay] at hcs
          clear hay
          cases hhd : headB ⟨head, l⟩ with
          | false =>
            have Hf := Lib.hid (queryFS_head (q := ⟨head, l⟩) hhd)
            go_wp2_with (go_at_call 107; refine (hq _).mono ?_; rintro e w' ⟨rfl, rfl⟩)
            refine hcs.mono ?_
            rintro e w1 ⟨rfl, hb1⟩
            have hbx := bt hbw hb1
            have e0 := cell_below d0 hb1
            have e1 := cell_below d1 hb1
            have hb2 := bt hbel hb1
            go_wp2_with fail
            refine (retBy (hasHead_any ⟨head, l⟩ _ fh _ fa _ (hh0.below' hb2) (ha0.below' hb2) Hn.out) hhd).mono ?_
            rintro e w2 ⟨rfl, hb3⟩
            have hby := bt hbx hb3
            go_wp2
            go_ret
            exact ⟨ret_str' (by rw [Hf.out]), hby⟩
          | true =>
            have HF := Lib.hid (queryFS_all (q := ⟨head, l⟩) Hin.out hhd Hay.out)
            have hjl : (Lib.join lo andS).length ≤ 170000000 := by rw [HS.out]; exact joinQ_len HIa.out hna
            by_cases hz : head.length = 0
            · have hz1 : (head.length : Int) = 0 := by omega
              have hz2 : ¬ (0 : Int) < (head.length : Int) := by omega
              have Hf := Lib.hid (show queryFS ⟨head, l⟩ = yesS ++ ifS ++ Lib.join lo andS by rw [HF.out, HS.out]; unfold headS; rw [if_pos hz])
              clear hz
              go_wp2_with (go_at_call 107; refine (hq _).mono ?_; rintro e w' ⟨rfl, rfl⟩)
              refine hcs.mono ?_
              rintro e w1 ⟨rfl, hb1⟩
              have hbx := bt hbw hb1
              have e0 := cell_below d0 hb1
              have e1 := cell_below d1 hb1
              have hb2 := bt hbel hb1
              have hgr1 := hgr.below' good_str hb1
              clear d0 d1 c0 c1 hcs
              go_wp2_with fail
              refine (retBy (hasHead_any ⟨head, l⟩ _ fh _ fa _ (hh0.below' hb2) (ha0.below' hb2) Hn.out) hhd).mono ?_
              rintro e w2 ⟨rfl, hb3⟩
              have hby := bt hbx hb3
              have e0' := cell_below e0 hb3
              have e1' := cell_below e1 hb3
              have hgr2 := hgr1.below' good_str hb3
              clear e0 e1
              go_wp2_with fail
              refine (join_any andS hgr2 rfl (by omega) (by omega)).mono ?_
              rintro e w3 ⟨rfl, hb4⟩
              have hbz := bt hby hb4
              go_wp2
              go_ret
              exact ⟨ret_str' (by rw [Hf.out]; apply ByteArray.ext; simp [yesS, ifS]), hbz⟩
            · have hz1 : ¬ (head.length : Int) = 0 := by omega
              have hz2 : (0 : Int) < (head.length : Int) := by omega
              have Hf := Lib.hid (show queryFS ⟨head, l⟩ = termsS head [44] ++ ifS ++ Lib.join lo andS by rw [HF.out, HS.out]; unfold headS; rw [if_neg hz])
              have hsz : (termsS head [44]).length ≤ 24117248 := by
                have h5 := termsS_len (l := head) [44] HIh.out
                have h6 : head.length * (22 + [(44 : UInt8)].length) ≤ 1048576 * 23 := Nat.mul_le_mul hnh (by simp)
                omega
              clear hz
              go_wp2_with (go_at_call 107; refine (hq _).mono ?_; rintro e w' ⟨rfl, rfl⟩)
              refine hcs.mono ?_
              rintro e w1 ⟨rfl, hb1⟩
              have hbx := bt hbw hb1
              have e0 := cell_below d0 hb1
              have e1 := cell_below d1 hb1
              have hb2 := bt hbel hb1
              have hgr1 := hgr.below' good_str hb1
              clear d0 d1 c0 c1 hcs
              go_wp2_with fail
              refine (retBy (hasHead_any ⟨head, l⟩ _ fh _ fa _ (hh0.below' hb2) (ha0.below' hb2) Hn.out) hhd).mono ?_
              rintro e w2 ⟨rfl, hb3⟩
              have hby := bt hbx hb3
              have e0' := cell_below e0 hb3
              have e1' := cell_below e1 hb3
              have hgr2 := hgr1.below' good_str hb3
              have hb5 := bt hb2 hb3
              clear e0 e1
              go_wp2_with fail
              refine (termsText_any _ head fh _ (hh0.below' hb5) hnh (Tab.on HT.out hb5)).mono ?_
              rintro e w3 ⟨rfl, hb4⟩
              have hbz := bt hby hb4
              have hgr3 := hgr2.below' good_str hb4
              go_wp2_with fail
              refine (join_any andS hgr3 rfl (by omega) (by omega)).mono ?_
              rintro e w4 ⟨rfl, hb6⟩
              have hb7 := bt hbz hb6
              go_wp2
              go_ret
              exact ⟨ret_str' (by rw [Hf.out]; apply ByteArray.ext; simp [ifS]), hb7⟩
end Go.Proofs.YtpdmdfkcaabnaaaGreatDoor
