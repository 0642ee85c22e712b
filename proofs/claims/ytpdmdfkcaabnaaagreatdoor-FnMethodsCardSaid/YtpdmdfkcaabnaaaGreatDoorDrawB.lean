/- append in the midst of a draw; the schemas that the reference draws. No condition. -/
import Derived.Test.YtpdmdfkcaabnaaaGreatDoorCurW
import Derived.Test.YtpdmdfkcaabnaaaGreatDoorTwo
namespace Go.Proofs.YtpdmdfkcaabnaaaGreatDoor
open Go.RowKit
set_option linter.unusedVariables false
set_option linter.unusedSimpArgs false
theorem grR.ownB {α : Type} {E : TypeId} {sz : Nat} {R : Rd α} {B : Nat} {w : World} {v : Value} {l : List α} {f : List Nat} (h : grR E sz R B w v l f) : ∀ j, v.ownBlock = some j → B ≤ j := by
  obtain ⟨_, _, _, _, _, rfl, hfr⟩ := h
  intro j hj
  exact hfr.2 j (by simp [hj])
theorem grR.mem {α : Type} {E : TypeId} {sz : Nat} {R : Rd α} {B : Nat} {w : World} {v : Value} {l : List α} {f : List Nat} (h : grR E sz R B w v l f) : ∀ j, v.ownBlock = some j → j ∈ f := by
  obtain ⟨_, _, _, _, _, rfl, hfr⟩ := h
  intro j hj
  simp [hj]
theorem grR.set {α : Type} {E : TypeId} {sz : Nat} {R : Rd α} {B : Nat} {w : World} {v : Value} {l : List α} {f : List Nat} (hR : Good R) (h : grR E sz R B w v l f) {p : Addr} (hp : p.block ∉ f) (u : Value) : grR E sz R B (w.setCell p u) v l f :=
  h.frame hR fun j hj => Below.heap_setCell _ _ _ _ (fun e => hp (e ▸ hj))
/-- append of one element that the walk has just laid, in the midst of a draw. -/
theorem wpList_draw {α : Type} {E : TypeId} {sz : Nat} {R : Rd α} {P : Program} {T : TypeId} {z : Value} {bytes : Nat} (hT : SlT P T E z sz bytes) (hR : Good R) {w0 w W : World} {g : Nat} {ops : Array Oper} {rest : List Oper} {o : Oper} {a : Act} {Q : Exit → Act → World → Prop}
    (hgd : o.guard = none) (s x : Operand) (ho : o.op = .call { callee := .builtin .append, args := #[s, x], argTypes := #[T, T] })
    {B : Nat} {v : Value} {l : List α} {f : List Nat} (h : grR E sz R B W v l f) (d : DW w0 g w W) (hB : w.heap.size ≤ B) (hBW : B ≤ W.heap.size) (hs : a.eval s = v)
    (cs : Array Value) (dd : α) (fx : List Nat) (hd : R W cs.toList dd fx) (hcs : cs.size = sz) (hfx : Fresh B fx) (hdis : ∀ g ∈ fx, g ∉ f)
    (hx : a.eval x = .slice (some ⟨W.heap.size, 0, none⟩) 1 1) (h1 : ∀ u ∈ cs.toList, u.oneCell' = true) (hn : (l.length + 1) * bytes ≤ 140737488355328) (hm : l.length + 1 ≤ maxLen)
    (k : ∀ g' cap w' f', grR E sz R B w' (.slice (some ⟨g', 0, none⟩) (l.length + 1) cap) (l ++ [dd]) f' → DW w0 g w w' → W.grownBy w' v.ownBlock → Hid (∀ j ∈ f', j ∈ f ∨ j ∈ fx ∨ W.heap.size ≤ j) → wpList P ops Q rest (a.put o.dst (.slice (some ⟨g', 0, none⟩) (l.length + 1) cap)) w') :
    wpList P ops Q (o :: rest) a (W.alloc (.cells cs E)) := by
  have hcb := cutW_below hBW
  have hsz := cutW_size hBW
  refine wpList_gr2 hT hR (w0 := cutW W B) hgd s x ho (by rw [hsz]; exact h) hcb hs cs dd fx hd hcs (by rw [hsz]; exact hfx) hdis _ rfl hx h1 hn hm ?_
  intro g' cap w' f' k1 k2 k3 _ k4
  rw [hsz] at k1
  exact k g' cap w' f' k1 (d.grown k3 fun j hj => Nat.le_trans hB (h.ownB j hj)) k3 k4
theorem DW.pos {w0 w w' : World} {g : Nat} (d : DW w0 g w w') : g < w'.heap.size := d.new.lt
/-- What a draw of numbers ends in. -/
def IntsE (P : List Int → Prop) (w0 : World) (g : Nat) (w : World) (e : Ending) (w' : World) : Prop := ∃ (v : Value) (s : List Int) (f : List Nat), e = .returned v ∧ grR 3 1 intR w.heap.size w' v s f ∧ P s ∧ DW w0 g w w'
theorem IntsE.mk {P : List Int → Prop} {w0 : World} {g : Nat} {w : World} {e : Ending} {w' : World} (v : Value) (s : List Int) (f : List Nat) (he : e = .returned v) (h1 : grR 3 1 intR w.heap.size w' v s f) (h2 : P s) (h3 : DW w0 g w w') : IntsE P w0 g w e w' := ⟨v, s, f, he, h1, h2, h3⟩
set_option maxRecDepth 100000 in
set_option maxHeartbeats 1600000 in
theorem l2Schema_any (w0 : World) (g : Nat) (w : World) (h : CuW w0 g w) :
    Calls Tryz.prog 136 #[.pointer (some ⟨g, 0, none⟩)] w (IntsE (fun s => schemaB s = true) w0 g w) := by
  have hal := (DW.refl h).al (.cells #[] 3)
  have hg0 := grR.lit (w := w) (B := w.heap.size) (E := 3) (sz := 1) intR (Nat.le_refl _) (Nat.le_refl _)
  go_enter Tryz.func136, Tryz.ntmps136
  go_wp2_with fail
  refine (cBelow_any w0 g 3 _ hal.new (by omega) (by omega)).mono ?_
  rintro e w1 ⟨n0, rfl, ⟨hn0, hn1⟩, hd1⟩
  have hd := hal.trans hd1
  have hg1 := hg0.dw good_int hd1 h.lt
  obtain ⟨n1, rfl⟩ := Int.eq_ofNat_of_zero_le hn0
  clear hg0 hal hd1
  go_wp2
  go_loopw [3, 4, 5] (fun v x y wr => ∃ (k : Nat) (s : List Int) (f : List Nat), x = .int .i64 (k : Int) ∧ s.length + k = n1 + 1 ∧ Hid (∀ y ∈ s, 1 ≤ y ∧ y ≤ 3) ∧ grR 3 1 intR w.heap.size wr v s f ∧ DW w0 g w wr) (fun _ x _ _ => (intOf x).toNat)
  case atStart => exact ⟨n1 + 1, [], _, by go_num, by simp, Lib.hid (by simp), hg1, hd⟩
  case round =>
    obtain ⟨k, s, f, rfl, hsk, HS, hgr, hdr⟩ := hrel
    obtain ⟨p0, q0, rfl⟩ := slR.form hgr.sl
    by_cases hk : 0 < k
    · have hki : (0 : Int) < (k : Int) := by omega
      go_wp2_with fail
      refine (cBelow_any w0 g 2 _ hdr.new (by omega) (by omega)).mono ?_
      rintro e w2 ⟨a, rfl, ⟨ha0, ha1⟩, hd2⟩
      have hdr2 := hdr.trans hd2
      have hgr2 := hgr.dw good_int hd2 h.lt
      go_wp2_with fail
      refine (cOnce_any w0 g 4 _ hdr2.new (by omega) (by omega)).mono ?_
      rintro e w3 ⟨b, rfl, hd3⟩
      have hdr3 := hdr2.trans hd3
      have hgr3 := hgr2.dw good_int hd3 h.lt
      have hsz3 := hdr3.size
      clear hgr hgr2 hd2 hd3
      cases b with
      | true =>
        go_wp2_with (at_builtin; refine wpList_draw slInt good_int rfl _ _ rfl hgr3 hdr3 (Nat.le_refl _) hsz3 rfl #[.int .i64 3] 3 [] ⟨rfl, rfl, ⟨by omega, by omega⟩⟩ rfl (Fresh.nil _) (by simp) rfl (by simp [Value.oneCell']) (by omega) (by unfold maxLen; omega) ?_; intro g4 cap4 w4 f4 hgr4 hdr4 hgb4 hmm4)
        go_roundw
        case rel => exact ⟨k - 1, s ++ [3], f4, by go_num, by simp; omega, Lib.hid (fun y hy => (List.mem_append.1 hy).elim (HS.out y) fun h => by rw [List.mem_singleton.1 h]; omega), by simpa using hgr4, hdr4⟩
        case measure => simp [intOf]; omega
      | false =>
        go_wp2_with (at_builtin; refine wpList_draw slInt good_int rfl _ _ rfl hgr3 hdr3 (Nat.le_refl _) hsz3 rfl #[.int .i64 (1 + a)] (1 + a) [] ⟨rfl, rfl, ⟨by omega, by omega⟩⟩ rfl (Fresh.nil _) (by simp) rfl (by simp [Value.oneCell']) (by omega) (by unfold maxLen; omega) ?_; intro g4 cap4 w4 f4 hgr4 hdr4 hgb4 hmm4)
        go_roundw
        case rel => exact ⟨k - 1, s ++ [1 + a], f4, by go_num, by simp; omega, Lib.hid (fun y hy => (List.mem_append.1 hy).elim (HS.out y) fun h => by rw [List.mem_singleton.1 h]; omega), by simpa using hgr4, hdr4⟩
        case measure => simp [intOf]; omega
    · have hki : ¬ (0 : Int) < (k : Int) := by omega
      have HB := Lib.hid (show schemaB s = true by
        unfold schemaB
        rw [Bool.and_eq_true, Bool.not_eq_true']
        refine ⟨by unfold inR; simp; omega, ?_⟩
        rw [List.any_eq_false]
        intro y hy
        have := HS.out y hy
        unfold inR; simp; omega)
      go_wp2
      go_ret
      exact IntsE.mk _ s f rfl hgr HB.out hdr
set_option maxRecDepth 100000 in
set_option maxHeartbeats 1600000 in
theorem l2AnySchema_any (w0 : World) (g : Nat) (w : World) (h : CuW w0 g w) :
    Calls Tryz.prog 89 #[.pointer (some ⟨g, 0, none⟩)] w (IntsE (fun s => 1 ≤ s.length ∧ s.length ≤ 4) w0 g w) := by
  go_enter Tryz.func89, Tryz.ntmps89
  go_wp2_with fail
  refine (l2Schema_any w0 g w h).mono ?_
  rintro e w1 ⟨v, s, f, rfl, hg1, hs, hd1⟩
  obtain ⟨p0, q0, rfl⟩ := slR.form hg1.sl
  have hsl : 1 ≤ s.length ∧ s.length ≤ 3 := by
    unfold schemaB at hs
    simp only [Bool.and_eq_true] at hs
    have := inR_true hs.1
    omega
  go_wp2_with fail
  refine (cOnce_any w0 g 14 _ hd1.new (by omega) (by omega)).mono ?_
  rintro e w2 ⟨b, rfl, hd2⟩
  have hg2 := hg1.dw good_int hd2 h.lt
  have hd := hd1.trans hd2
  clear hg1 hs
  cases b with
  | false =>
    go_wp2
    go_ret
    exact IntsE.mk _ s f rfl hg2 (by omega) hd
  | true =>
    go_wp2_with fail
    refine (cPickLit_any w0 g w2 _ _ hd.new (by decide) (by decide) (by decide +kernel) 3 rfl).mono ?_
    rintro e w3 ⟨y, rfl, hy, hd3⟩
    have hg3 := hg2.dw good_int hd3 h.lt
    have hdd := hd.trans hd3
    have hsz3 := hdd.size
    go_wp2_with (at_builtin; refine wpList_draw slInt good_int rfl _ _ rfl hg3 hdd (Nat.le_refl _) hsz3 rfl #[.int .i64 y] y [] ⟨rfl, rfl, hy⟩ rfl (Fresh.nil _) (by simp) rfl (by simp [Value.oneCell']) (by omega) (by unfold maxLen; omega) ?_; intro g4 cap4 w4 f4 hgr4 hdr4 hgb4 hmm4)
    go_ret
    exact IntsE.mk _ (s ++ [y]) f4 rfl (by simpa using hgr4) (by simp; omega) hdr4
end Go.Proofs.YtpdmdfkcaabnaaaGreatDoor
