/- SameQueries, of the program and of the reference. No condition. -/
import Derived.Test.YtkhihnoeapfaaaaSame
import Derived.Test.YtkhihnoeapfaaaaHQuery
namespace Go.Proofs.Ytkhihnoeapfaaaa
open Go.RowKit
set_option linter.unusedVariables false
set_option linter.unusedSimpArgs false
theorem qOf2 {P : Program} {f : FuncId} {args : Array Value} {w : World} {n x : Nat} {v : Value} (h : Calls P f args (w.drewN (n + x)) fun e w' => e = .returned v ∧ Qt (w.drewN (n + x)) w') :
    Calls P f args (w.drewN (n + x)) fun e w'' => e = .returned v ∧ ∃ m, w'' = w.drewN (n + m) := h.mono fun _ _ ⟨he, m, hm⟩ => ⟨he, x + m, by rw [hm, World.drewN_drewN, Nat.add_assoc]⟩
set_option maxRecDepth 100000 in
set_option maxHeartbeats 800000 in
theorem implSameQueries_any (x y : QueryD) (vh va uh ua : Value) (fh fa gh ga : List Nat) (w : World) (hh : ints w vh x.head fh) (ha : atoms w va x.atoms fa) (kh : ints w uh y.head gh) (ka : atoms w ua y.atoms ga) :
    Calls Try.prog 87 #[.agg #[vh, va], .agg #[uh, ua]] w fun e w' => e = .returned (.bool (decide (x = y))) ∧ Below w.heap.size w w' := by
  obtain ⟨xh, xa⟩ := x
  obtain ⟨yh, ya⟩ := y
  obtain ⟨a, cap, rfl⟩ := slR.form hh
  obtain ⟨b, cap', rfl⟩ := slR.form kh
  obtain ⟨a2, cap2, rfl⟩ := slR.form ha
  obtain ⟨b2, cap2', rfl⟩ := slR.form ka
  have hP := plain_of Try.func181 (by kernel_rfl) (by kernel_rfl)
  have He := Lib.hid (allEq_eq (p := fun x y : AtomD => decide (x = y)) (fun _ _ => rfl) xa ya)
  by_cases h1 : xh = yh
  · have Hf := Lib.hid (show decide ((⟨xh, xa⟩ : QueryD) = ⟨yh, ya⟩) = decide (xa = ya) by simp [h1])
    have hd : decide (xh = yh) = true := by simp [h1]
    replace h1 := Lib.hid h1
    go_enter Try.func87, Try.ntmps87
    go_wp2_with fail
    refine (slicesEqual_any _ _ xh yh fh gh _ ((hh.al _).al _) ((kh.al _).al _)).mono ?_
    rintro e w1 ⟨rfl, hq⟩
    obtain ⟨n1, rfl⟩ := hq
    go_wp2_with fail
    refine (equalFuncAtom_any _ hP #[] (fun x y vx vy => #[.agg #[.int .i64 x.rel, vx], .agg #[.int .i64 y.rel, vy]]) (fun _ _ _ _ => rfl) (fun x y => decide (x = y)) _ _ xa ya fa ga _ (((ha.al _).al _).dn _) (((ka.al _).al _).dn _)
      (fun i hi hj w' vx vy fx fy hb hx hy => sameAtom_any _ _ _ _ _ _ _ hx hy)).mono ?_
    rintro e w2 ⟨rfl, hb2⟩
    go_wp2
    go_ret
    exact ⟨ret_bool (by rw [Hf.out, ← He.out]), bt (bdn (ba (ba (Below.refl _ _)))) hb2⟩
  · have Hf := Lib.hid (show decide ((⟨xh, xa⟩ : QueryD) = ⟨yh, ya⟩) = false by simp [h1])
    have hd : decide (xh = yh) = false := by simp [h1]
    clear h1
    go_enter Try.func87, Try.ntmps87
    go_wp2_with fail
    refine (slicesEqual_any _ _ xh yh fh gh _ ((hh.al _).al _) ((kh.al _).al _)).mono ?_
    rintro e w1 ⟨rfl, hq⟩
    obtain ⟨n1, rfl⟩ := hq
    go_wp2
    go_ret
    exact ⟨ret_bool (by rw [Hf.out]), bdn (ba (ba (Below.refl _ _)))⟩
set_option maxRecDepth 100000 in
set_option maxHeartbeats 1600000 in
theorem specSameQueries_any (x y : QueryD) (vh va uh ua : Value) (fh fa gh ga : List Nat) (w : World) (hh : ints w vh x.head fh) (ha : atoms w va x.atoms fa) (kh : ints w uh y.head gh) (ka : atoms w ua y.atoms ga) :
    Calls Try.prog 85 #[.agg #[vh, va], .agg #[uh, ua]] w fun e w' => e = .returned (.bool (decide (x = y))) ∧ Below w.heap.size w w' := by
  obtain ⟨xh, l⟩ := x
  obtain ⟨yh, m⟩ := y
  obtain ⟨a, cap, rfl⟩ := slR.form hh
  obtain ⟨b, cap', rfl⟩ := slR.form kh
  obtain ⟨a2, cap2, rfl⟩ := slR.form ha
  obtain ⟨b2, cap2', rfl⟩ := slR.form ka
  have hla := slR.le_max ha
  by_cases h1 : xh = yh
  · have Hf := Lib.hid (show decide ((⟨xh, l⟩ : QueryD) = ⟨yh, m⟩) = decide (l = m) by simp [h1])
    have hd : decide (xh = yh) = true := by simp [h1]
    replace h1 := Lib.hid h1
    by_cases hlen : l.length = m.length
    · have Hlen := Lib.hid hlen
      have hle : m.length ≤ l.length := by omega
      have hge : l.length ≤ m.length := by omega
      have hne0 : ((l.length : Int) != (m.length : Int)) = false := by simp [hlen]
      clear hlen
      go_enter Try.func85, Try.ntmps85
      go_wp2_with fail
      refine (l2Ints_any _ _ xh yh fh gh _ ((hh.al _).al _) ((kh.al _).al _)).mono ?_
      rintro e w1 ⟨rfl, hq⟩
      obtain ⟨n1, rfl⟩ := hq
      go_wp2
      go_loopw [5] (fun i wr => ∃ k n : Nat, i = .int .i64 k ∧ k ≤ l.length ∧ Hid (l.take k = m.take k) ∧ wr = ((w.alloc (.cells #[.slice a xh.length cap, .slice a2 l.length cap2] 94)).alloc (.cells #[.slice b yh.length cap', .slice b2 m.length cap2'] 94)).drewN n) (fun i _ => l.length - (intOf i).toNat)
      case atStart => exact ⟨0, _, rfl, Nat.zero_le _, Lib.hid (by simp), rfl⟩
      case round =>
        obtain ⟨k, n, rfl, hk, HT, rfl⟩ := hrel
        by_cases hlt : k < l.length
        · obtain ⟨g, c, fi, rfl, ⟨pv, rfl, pi, hp⟩, _, hc, _, _, _⟩ := slR.at ((((ha.al (.cells #[.slice a xh.length cap, .slice a2 l.length cap2] 94)).al (.cells #[.slice b yh.length cap', .slice b2 m.length cap2'] 94)))) k hlt
          obtain ⟨g', c', fi', rfl, ⟨qv, rfl, qi, hq⟩, _, hc', _, _, _⟩ := slR.at ((((ka.al (.cells #[.slice a xh.length cap, .slice (some ⟨g, 0, none⟩) l.length cap2] 94)).al (.cells #[.slice b yh.length cap', .slice b2 m.length cap2'] 94)))) k (by omega)
          have hp0 : ((w.alloc _).alloc _).cell? ⟨g, k * 2, none⟩ = _ := hc 0 _ rfl
          have hp1 : ((w.alloc _).alloc _).cell? ⟨g, k * 2 + 1, none⟩ = _ := hc 1 _ rfl
          have hq0 : ((w.alloc _).alloc _).cell? ⟨g', k * 2, none⟩ = _ := hc' 0 _ rfl
          have hq1 : ((w.alloc _).alloc _).cell? ⟨g', k * 2 + 1, none⟩ = _ := hc' 1 _ rfl
          clear hc hc'
          have hkm : (k : Int) < (m.length : Int) := by omega
          have hkl : (k : Int) < (l.length : Int) := by omega
          by_cases hr : l[k].rel = m[k].rel
          · have hrd : (l[k].rel != m[k].rel) = false := by simp [hr]
            by_cases ht : l[k].terms = m[k].terms
            · have he : l[k] = m[k] := by
                have h1 : l[k] = ⟨l[k].rel, l[k].terms⟩ := rfl
                rw [h1, hr, ht]
              have HS := Lib.hid (take_eq_step hlt (by omega) HT.out he)
              have htd : decide (l[k].terms = m[k].terms) = true := by simp [ht]
              clear hr ht he
              go_wp2
              go_quiet ((go_at_call 163; exact qOf2 (l2Ints_any _ _ l[k].terms m[k].terms _ _ _ (hp.dn _) (hq.dn _))))
              go_wp2
              go_roundw
              case rel => exact ⟨k + 1, _, by go_num, by omega, HS, rfl⟩
              case measure => simp [intOf]; omega
            · have Hfin := Lib.hid (ne_of_get hlt (by omega) (fun he : l[k] = m[k] => ht (by rw [he])))
              have htd : decide (l[k].terms = m[k].terms) = false := by simp [ht]
              clear hr ht
              go_wp2
              go_quiet ((go_at_call 163; exact qOf2 (l2Ints_any _ _ l[k].terms m[k].terms _ _ _ (hp.dn _) (hq.dn _))))
              go_wp2
              go_ret
              exact ⟨ret_bool (by rw [Hf.out]; simp [Hfin.out]), by repeat (first | exact Below.refl _ _ | refine bdn ?_ | refine ba ?_)⟩
          · have hrd : (l[k].rel != m[k].rel) = true := by simpa using hr
            have Hfin := Lib.hid (ne_of_get hlt (by omega) (fun he : l[k] = m[k] => hr (by rw [he])))
            clear hr
            go_wp2
            go_quiet (fail)
            go_wp2
            go_ret
            exact ⟨ret_bool (by rw [Hf.out]; simp [Hfin.out]), by repeat (first | exact Below.refl _ _ | refine bdn ?_ | refine ba ?_)⟩
        · have hkl : k = l.length := by omega
          have Hfin := Lib.hid (eq_of_take Hlen.out (by have := HT.out; rw [hkl] at this; exact this))
          go_wp2
          go_ret
          exact ⟨ret_bool (by rw [Hf.out]; simp [Hfin.out]), by repeat (first | exact Below.refl _ _ | refine bdn ?_ | refine ba ?_)⟩
    · have hne0 : ((l.length : Int) != (m.length : Int)) = true := by simp; omega
      have Hfin := Lib.hid (show l ≠ m from fun h => hlen (by rw [h]))
      clear hlen
      go_enter Try.func85, Try.ntmps85
      go_wp2_with fail
      refine (l2Ints_any _ _ xh yh fh gh _ ((hh.al _).al _) ((kh.al _).al _)).mono ?_
      rintro e w1 ⟨rfl, hq⟩
      obtain ⟨n1, rfl⟩ := hq
      go_wp2
      go_ret
      exact ⟨ret_bool (by rw [Hf.out]; simp [Hfin.out]), by repeat (first | exact Below.refl _ _ | refine bdn ?_ | refine ba ?_)⟩
  · have Hf := Lib.hid (show decide ((⟨xh, l⟩ : QueryD) = ⟨yh, m⟩) = false by simp [h1])
    have hd : decide (xh = yh) = false := by simp [h1]
    clear h1
    go_enter Try.func85, Try.ntmps85
    go_wp2_with fail
    refine (l2Ints_any _ _ xh yh fh gh _ ((hh.al _).al _) ((kh.al _).al _)).mono ?_
    rintro e w1 ⟨rfl, hq⟩
    obtain ⟨n1, rfl⟩ := hq
    go_wp2
    go_ret
    exact ⟨ret_bool (by rw [Hf.out]), by repeat (first | exact Below.refl _ _ | refine bdn ?_ | refine ba ?_)⟩
end Go.Proofs.Ytkhihnoeapfaaaa
