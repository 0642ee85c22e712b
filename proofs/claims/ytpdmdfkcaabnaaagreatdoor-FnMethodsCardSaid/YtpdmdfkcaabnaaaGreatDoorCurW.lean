/- The cursor of the reference's draws, with its bytes hidden. No condition. -/
import Derived.Test.YtpdmdfkcaabnaaaGreatDoorDraws
import Derived.Test.YtpdmdfkcaabnaaaGreatDoorGrow2
namespace Go.Proofs.YtpdmdfkcaabnaaaGreatDoor
open Go.RowKit
set_option linter.unusedVariables false
set_option linter.unusedSimpArgs false
/-- The cursor lies in block g, its bytes in w0, and all that lay in w0 lies as it did. -/
structure CuW (w0 : World) (g : Nat) (w : World) : Prop where
  ex : ∃ (b : Option Addr) (cap : Nat) (l : List Int), bytesV w0 (.slice b l.length cap) l ∧ l.length ≤ 1048576 ∧ Cur b l.length cap g w
  hg : w0.heap.size ≤ g
  hb : Below w0.heap.size w0 w
section
variable {w0 w w1 w2 : World} {g : Nat}
theorem CuW.lt (h : CuW w0 g w) : g < w.heap.size := by
  obtain ⟨⟨_, _, _, _, _, h⟩, _, _⟩ := h; exact h.lt
theorem CuW.sx {X : List Nat} (h : CuW w0 g w) (s : SX X w w1) (hX : g ∉ X) (hb : Below w0.heap.size w0 w1) : CuW w0 g w1 := by
  obtain ⟨⟨b, cap, l, h1, h2, h3⟩, h4, _⟩ := h
  exact ⟨⟨b, cap, l, h1, h2, h3.sx s hX⟩, h4, hb⟩
/-- What a draw leaves: the cursor, and of all that was there everything but it. -/
structure DW (w0 : World) (g : Nat) (w w' : World) : Prop where
  old : CuW w0 g w
  new : CuW w0 g w'
  sx : SX [g] w w'
theorem DW.refl (h : CuW w0 g w) : DW w0 g w w := ⟨h, h, SX.refl _ _⟩
theorem DW.trans (h : DW w0 g w w1) (k : DW w0 g w1 w2) : DW w0 g w w2 := ⟨h.old, k.new, h.sx.one k.sx⟩
theorem CuW.below (h : CuW w0 g w) (hb : Below w.heap.size w w1) : DW w0 g w w1 :=
  ⟨h, h.sx (SX.of_below hb) (by simp) (h.hb.trans (hb.mono h.hb.size)), (SX.of_below hb).more (by simp)⟩
theorem DW.below (h : DW w0 g w w1) (hb : Below w1.heap.size w1 w2) : DW w0 g w w2 := h.trans (h.new.below hb)
theorem DW.al (h : DW w0 g w w1) (o : Obj) : DW w0 g w (w1.alloc o) := h.below (ba (Below.refl _ _))
theorem DW.drewN (h : DW w0 g w w1) (n : Nat) : DW w0 g w (w1.drewN n) := h.below (bdn (Below.refl _ _))
theorem DW.drew (h : DW w0 g w w1) : DW w0 g w w1.drew := h.below (bdr (Below.refl _ _))
theorem DW.size (h : DW w0 g w w1) : w.heap.size ≤ w1.heap.size := h.sx.1
theorem DW.lt (h : DW w0 g w w1) : g < w.heap.size := h.old.lt
theorem DW.below0 (h : DW w0 g w w1) : Below w0.heap.size w0 w1 := h.new.hb
/-- What is written lies in a block that the draw made. -/
theorem DW.set (h : DW w0 g w w1) {p : Addr} (hp : w.heap.size ≤ p.block) (u : Value) : DW w0 g w (w1.setCell p u) := by
  have hlt := h.lt
  have s : SX [p.block] w1 (w1.setCell p u) := SX.set p u
  have hb : Below w0.heap.size w0 (w1.setCell p u) := h.new.hb.setCell (by have := h.old.hg; omega) u
  refine ⟨h.old, h.new.sx s (by simp; omega) hb, Nat.le_trans h.sx.1 s.1, fun j hj hn => (s.2 j (Nat.lt_of_lt_of_le hj h.sx.1) (by simp; omega)).trans (h.sx.2 j hj hn)⟩
theorem DW.grown (h : DW w0 g w w1) {o : Option Nat} (hg : w1.grownBy w2 o) (ho : ∀ j, o = some j → w.heap.size ≤ j) : DW w0 g w w2 := by
  have hlt := h.lt
  have s : SX o.toList w1 w2 := ⟨hg.size, fun j hj hn => hg.block j hj (by intro e; subst e; simp at hn)⟩
  have hno : ∀ j, j < w.heap.size → j ∉ o.toList := by
    intro j hj hm
    have := ho j (by simpa using hm)
    omega
  have hb : Below w0.heap.size w0 w2 := h.new.hb.trans (below_of_grown hg h.new.hb.size fun j hj => by have := ho j hj; have := h.old.hg; omega)
  exact ⟨h.old, h.new.sx s (hno g hlt) hb, Nat.le_trans h.sx.1 s.1, fun j hj hn => (s.2 j (Nat.lt_of_lt_of_le hj h.sx.1) (hno j hj)).trans (h.sx.2 j hj hn)⟩
theorem DW.cell (h : DW w0 g w w1) {j o : Nat} {v : Value} (hc : w.cell? ⟨j, o, none⟩ = some v) (hj : j ≠ g) : w1.cell? ⟨j, o, none⟩ = some v := h.sx.cell hc (by simpa using hj)
theorem DW.frozen (h : DW w0 g w w1) {j o : Nat} {v : Value} (hc : w.cell? ⟨j, o, none⟩ = some v) (hz : w.frozen? ⟨j, o, none⟩ = false) (hj : j ≠ g) : w1.frozen? ⟨j, o, none⟩ = false := h.sx.frozen hc hz (by simpa using hj)
end
section
variable {α : Type} {E : TypeId} {sz : Nat} {R : Rd α} {B : Nat} {w0 w w1 : World} {g : Nat} {v : Value} {l : List α} {f : List Nat}
theorem slR.dw (hR : Good R) (h : slR E sz R w v l f) (d : DW w0 g w w1) (hg : g ∉ f) : slR E sz R w1 v l f :=
  h.frame hR fun j hj => d.sx.2 j (h.lt hR j hj) (by simp; exact fun e => hg (e ▸ hj))
theorem grR.dw (hR : Good R) (h : grR E sz R B w v l f) (d : DW w0 g w w1) (hg : g < B) : grR E sz R B w1 v l f :=
  h.frame hR fun j hj => d.sx.2 j (h.lt hR j hj) (by have := h.fresh.2 j hj; simp; omega)
end
theorem ints.dw {w0 w w1 : World} {g : Nat} {v : Value} {l : List Int} {f : List Nat} (h : ints w v l f) (d : DW w0 g w w1) (hg : g ∉ f) : ints w1 v l f := slR.dw good_int h d hg
theorem CuW.of {w0 : World} {b : Option Addr} {cap : Nat} {l : List Int} {g : Nat} {w : World} (hl : bytesV w0 (.slice b l.length cap) l) (hn : l.length ≤ 1048576) (hg : w0.heap.size ≤ g) (hb : Below w0.heap.size w0 w) (hc : Cur b l.length cap g w) : CuW w0 g w :=
  ⟨⟨b, cap, l, hl, hn, hc⟩, hg, hb⟩
theorem DW.of {w0 : World} {b : Option Addr} {cap : Nat} {l : List Int} {g : Nat} {w w1 : World} (h : CuW w0 g w) (hl : bytesV w0 (.slice b l.length cap) l) (hn : l.length ≤ 1048576) (d : Dr w0 b l.length cap g w w1) : DW w0 g w w1 :=
  ⟨h, CuW.of hl hn h.hg d.2.1 d.1, d.2.2⟩
theorem cNew_any (b : Option Addr) (cap : Nat) (l : List Int) (w : World) (hl : bytesV w (.slice b l.length cap) l) (hn : l.length ≤ 1048576) :
    Calls Tryz.prog 79 #[.slice b l.length cap] w fun e w' => ∃ g : Nat, e = .returned (.pointer (some ⟨g, 0, none⟩)) ∧ CuW w g w' := by
  refine (l1New_any b cap l w hl hn).mono ?_
  rintro e w' ⟨g, rfl, h1, h2, h3⟩
  exact ⟨g, rfl, CuW.of hl hn h1 h3 h2⟩
theorem cBelow_any (w0 : World) (g : Nat) (n : Int) (w : World) (h : CuW w0 g w) (hn1 : n ≤ 1000000000) (hn0 : 0 < n) :
    Calls Tryz.prog 82 #[.pointer (some ⟨g, 0, none⟩), .int .i64 n] w fun e w' => ∃ x : Int, e = .returned (.int .i64 x) ∧ (0 ≤ x ∧ x < n) ∧ DW w0 g w w' := by
  obtain ⟨b, cap, l, hl, hn, hc⟩ := h.ex
  refine (l1Below_any w0 b cap l g n w hl hn h.hg h.hb hc hn1 hn0).mono ?_
  rintro e w' ⟨x, rfl, hx, hd⟩
  exact ⟨x, rfl, hx, DW.of h hl hn hd⟩
theorem cOnce_any (w0 : World) (g : Nat) (n : Int) (w : World) (h : CuW w0 g w) (hn1 : n ≤ 1000000000) (hn0 : 0 < n) :
    Calls Tryz.prog 101 #[.pointer (some ⟨g, 0, none⟩), .int .i64 n] w fun e w' => ∃ x : Bool, e = .returned (.bool x) ∧ DW w0 g w w' := by
  go_enter Tryz.func101, Tryz.ntmps101
  go_wp2_with fail
  refine (cBelow_any w0 g n w h hn1 hn0).mono ?_
  rintro e w1 ⟨x, rfl, hx, hd⟩
  go_wp2
  go_ret
  exact ⟨_, rfl, hd⟩
theorem cPickInt_any (w0 : World) (g q m : Nat) (w : World) (h : CuW w0 g w) (hq : q ≠ g) (hm0 : 0 < m) (hm1 : m ≤ 256)
    (hL : ∀ k, k < m → ∃ x : Int, w.cell? ⟨q, k, none⟩ = some (.int .i64 x) ∧ I64 x) :
    Calls Tryz.prog 155 #[.pointer (some ⟨g, 0, none⟩), .slice (some ⟨q, 0, none⟩) m m] w fun e w' => ∃ x : Int, e = .returned (.int .i64 x) ∧ I64 x ∧ DW w0 g w w' := by
  obtain ⟨b, cap, l, hl, hn, hc⟩ := h.ex
  refine (l1PickInt_any w0 b cap l g q m w hl hn h.hg h.hb hc hq hm0 hm1 hL).mono ?_
  rintro e w' ⟨x, rfl, hx, hd⟩
  exact ⟨x, rfl, hx, DW.of h hl hn hd⟩
/-- A literal of numbers that the walk has just laid. -/
theorem cPickLit_any (w0 : World) (g : Nat) (w : World) (cs : Array Value) (t : TypeId) (h : CuW w0 g w) (hm0 : 0 < cs.size) (hm1 : cs.size ≤ 256) (hc : cs.toList.all isI64 = true) (m : Nat) (hm : cs.size = m) :
    Calls Tryz.prog 155 #[.pointer (some ⟨g, 0, none⟩), .slice (some ⟨w.heap.size, 0, none⟩) m m] (w.alloc (.cells cs t)) fun e w' => ∃ x : Int, e = .returned (.int .i64 x) ∧ I64 x ∧ DW w0 g w w' := by
  subst hm
  have hlt := h.lt
  refine (cPickInt_any w0 g w.heap.size cs.size _ ((DW.refl h).al _).new (by omega) hm0 hm1 (fun k hk => lit_ints hc k hk)).mono ?_
  rintro e w' ⟨x, rfl, hx, hd⟩
  exact ⟨x, rfl, hx, ((DW.refl h).al _).trans hd⟩
theorem cText_any (w0 : World) (g most : Nat) (w : World) (h : CuW w0 g w) (hm : most ≤ 1000) :
    Calls Tryz.prog 187 #[.pointer (some ⟨g, 0, none⟩), .int .i64 (most : Int)] w fun e w' => ∃ s : ByteArray, e = .returned (.string s) ∧ s.size ≤ most ∧ DW w0 g w w' := by
  obtain ⟨b, cap, l, hl, hn, hc⟩ := h.ex
  refine (l1Text_any w0 b cap l g most w hl hn h.hg h.hb hc hm).mono ?_
  rintro e w' ⟨x, rfl, hx, hd⟩
  exact ⟨x, rfl, hx, DW.of h hl hn hd⟩
theorem cByte_any (w0 : World) (g : Nat) (w : World) (h : CuW w0 g w) :
    Calls Tryz.prog 156 #[.pointer (some ⟨g, 0, none⟩)] w fun e w' => ∃ x : Int, e = .returned (.int .i64 x) ∧ (0 ≤ x ∧ x ≤ 255) ∧ DW w0 g w w' := by
  obtain ⟨b, cap, l, hl, hn, hc⟩ := h.ex
  refine (l1Byte_any w0 b cap l g w hl hn h.hg h.hb hc).mono ?_
  rintro e w' ⟨x, rfl, hx, hd⟩
  exact ⟨x, rfl, hx, DW.of h hl hn hd⟩
end Go.Proofs.YtpdmdfkcaabnaaaGreatDoor
