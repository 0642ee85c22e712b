/- The functions by which the reference draws its inputs: what they return lies within bounds. Condition: the code is no longer than 2^20 bytes. -/
import Derived.Test.YtpdmdfkcaabnaaaGreatDoorSX
import Derived.Test.YtpdmdfkcaabnaaaGreatDoorMB
import Derived.Test.YtpdmdfkcaabnaaaGreatDoorFixed
import Derived.IntWalk
import Derived.Deep.QuietTactic
import Derived.BigQuiet
namespace Go.Proofs.YtpdmdfkcaabnaaaGreatDoor
open Go.RowKit
set_option linter.unusedVariables false
set_option linter.unusedSimpArgs false
theorem own_frame' {w w' : World} {B : Nat} {E : TypeId} {sz : Nat} {v : Value} {n : Nat} {xs : List Value} (h : w.ownsRow B E sz v n xs) (hf : ∀ g, v.ownBlock = some g → w'.heap[g]? = w.heap[g]?) : w'.ownsRow B E sz v n xs := by
  refine ⟨h.1, ?_⟩
  rcases h.2 with h0 | ⟨g, cap, cur, rfl, hb, hh, r⟩
  · exact .inl h0
  · exact .inr ⟨g, cap, cur, rfl, hb, (hf g rfl).trans hh, r⟩
theorem own_less {w : World} {B C : Nat} {E : TypeId} {sz : Nat} {v : Value} {n : Nat} {xs : List Value} (h : w.ownsRow B E sz v n xs) (hC : C ≤ B) : w.ownsRow C E sz v n xs := by
  refine ⟨h.1, ?_⟩
  rcases h.2 with h0 | ⟨g, cap, cur, rfl, hb, hh, r⟩
  · exact .inl h0
  · exact .inr ⟨g, cap, cur, rfl, Nat.le_trans hC hb, hh, r⟩
def byteW : RdW Int := fun _ cs d => cs = [.int .u8 d] ∧ 0 ≤ d ∧ d ≤ 255
theorem goodW_byte : GoodW byteW := ⟨fun h _ => h⟩
def bytesV (w : World) (v : Value) (l : List Int) : Prop := slW 1 byteW w v l
theorem bytesV.below' {w w' : World} {v : Value} {l : List Int} (h : bytesV w v l) (hb : Below w.heap.size w w') : bytesV w' v l := slW.below goodW_byte h hb
theorem bytesV.get {w : World} {b : Option Addr} {n cap : Nat} {l : List Int} (h : bytesV w (.slice b n cap) l) (i : Nat) (hi : i < l.length) : ∃ bb off, b = some ⟨bb, off, none⟩ ∧ w.cell? ⟨bb, off + i, none⟩ = some (.int .u8 l[i]) ∧ 0 ≤ l[i] ∧ l[i] ≤ 255 := by
  obtain ⟨bb, off, c, hb, _, hc, rfl, h0, h1⟩ := slW.at h i hi
  exact ⟨bb, off, hb, by have := hc 0 _ rfl; simpa using this, h0, h1⟩
theorem and_ff (y : Int) : 0 ≤ bits .and .i64 y 255 ∧ bits .and .i64 y 255 ≤ 255 := by
  show 0 ≤ IntKind.i64.wrap ((BitVec.ofInt 64 y &&& BitVec.ofInt 64 255).toNat : Int) ∧ IntKind.i64.wrap ((BitVec.ofInt 64 y &&& BitVec.ofInt 64 255).toNat : Int) ≤ 255
  have h : (BitVec.ofInt 64 y &&& BitVec.ofInt 64 255).toNat ≤ 255 := by rw [BitVec.toNat_and]; exact Nat.and_le_right
  rw [IntKind.wrap_i64]
  omega
/-- What the reference's cursor holds. -/
def Cur (b : Option Addr) (n cap g : Nat) (w : World) : Prop :=
  ∃ (i : Nat) (h : Int), w.cell? ⟨g, 0, none⟩ = some (.slice b n cap) ∧ w.cell? ⟨g, 1, none⟩ = some (.int .i64 (i : Int)) ∧ w.cell? ⟨g, 2, none⟩ = some (.int .i64 h) ∧ w.frozen? ⟨g, 1, none⟩ = false ∧ w.frozen? ⟨g, 2, none⟩ = false ∧ i ≤ n
theorem Cur.sx {b : Option Addr} {n cap g : Nat} {w w' : World} {X : List Nat} (h : Cur b n cap g w) (s : SX X w w') (hg : g ∉ X) : Cur b n cap g w' := by
  obtain ⟨i, x, c0, c1, c2, z1, z2, hi⟩ := h
  exact ⟨i, x, s.cell c0 hg, s.cell c1 hg, s.cell c2 hg, s.frozen c1 z1 hg, s.frozen c2 z2 hg, hi⟩
theorem Cur.lt {b : Option Addr} {n cap g : Nat} {w : World} (h : Cur b n cap g w) : g < w.heap.size := by
  obtain ⟨i, x, c0, _⟩ := h; exact lt_of_cell c0
/-- What a draw leaves: the cursor, all blocks but its own. -/
def Dr (w0 : World) (b : Option Addr) (n cap g : Nat) (w w' : World) : Prop := Cur b n cap g w' ∧ Below w0.heap.size w0 w' ∧ SX [g] w w'
theorem Dr.trans {w0 : World} {b : Option Addr} {n cap g : Nat} {w w1 w2 : World} (h : Dr w0 b n cap g w w1) (k : Dr w0 b n cap g w1 w2) : Dr w0 b n cap g w w2 := ⟨k.1, k.2.1, h.2.2.one k.2.2⟩
theorem Dr.drewN {w0 : World} {b : Option Addr} {n cap g : Nat} {w w1 : World} (h : Dr w0 b n cap g w w1) (m : Nat) : Dr w0 b n cap g w (w1.drewN m) := ⟨h.1, bdn h.2.1, h.2.2⟩
theorem Dr.step {w0 : World} {b : Option Addr} {n cap g : Nat} {w w1 : World} (h : Dr w0 b n cap g w w1) {i : Nat} (f1 : w1.cell? ⟨g, 1, none⟩ = some (.int .i64 (i : Int))) {j : Nat} (hg : w0.heap.size ≤ g) (hj : j ≤ n) : Dr w0 b n cap g w (w1.setCell ⟨g, 1, none⟩ (.int .i64 (j : Int))) := by
  obtain ⟨⟨i', x, c0, c1, c2, z1, z2, hi⟩, hb, hs⟩ := h
  refine ⟨⟨j, x, (World.cell?_setCell_other _ _ _ _ (by simp)).trans c0, World.cell?_setCell_same _ _ _ f1, (World.cell?_setCell_other _ _ _ _ (by simp)).trans c2, ?_, ?_, hj⟩, hb.setCell hg _, hs.one (SX.set _ _)⟩
  · exact (show (w1.setCell ⟨g, 1, none⟩ (.int .i64 (j : Int))).frozen? ⟨g, 1, none⟩ = w1.frozen? ⟨g, 1, none⟩ by simp).trans z1
  · exact (show (w1.setCell ⟨g, 1, none⟩ (.int .i64 (j : Int))).frozen? ⟨g, 2, none⟩ = w1.frozen? ⟨g, 2, none⟩ by simp).trans z2
set_option maxRecDepth 100000 in
set_option maxHeartbeats 1600000 in
theorem l1Byte_any (w0 : World) (b : Option Addr) (cap : Nat) (l : List Int) (g : Nat) (w : World) (hl : bytesV w0 (.slice b l.length cap) l) (hn : l.length ≤ 1048576) (hg : w0.heap.size ≤ g) (hb : Below w0.heap.size w0 w) (hc : Cur b l.length cap g w) :
    Calls Tryz.prog 156 #[.pointer (some ⟨g, 0, none⟩)] w fun e w' => ∃ x : Int, e = .returned (.int .i64 x) ∧ (0 ≤ x ∧ x ≤ 255) ∧ Dr w0 b l.length cap g w w' := by
  obtain ⟨i, h, c0, c1, c2, z1, z2, hi⟩ := hc
  have d0 := fun u => (World.cell?_setCell_other w ⟨g, 2, none⟩ ⟨g, 0, none⟩ u (by simp)).trans c0
  have d1 := fun u => (World.cell?_setCell_other w ⟨g, 2, none⟩ ⟨g, 1, none⟩ u (by simp)).trans c1
  have d2 := fun u => World.cell?_setCell_same w ⟨g, 2, none⟩ u c2
  have y1 := fun u => ((show (w.setCell ⟨g, 2, none⟩ u).frozen? ⟨g, 1, none⟩ = w.frozen? ⟨g, 1, none⟩ by simp).trans z1)
  have hfin : ∀ (w1 : World) (j : Nat) (hv : Int), w1.cell? ⟨g, 0, none⟩ = some (.slice b l.length cap) → w1.cell? ⟨g, 1, none⟩ = some (.int .i64 (j : Int)) → w1.cell? ⟨g, 2, none⟩ = some (.int .i64 hv) → w1.frozen? ⟨g, 1, none⟩ = false → w1 = w.setCell ⟨g, 2, none⟩ (.int .i64 hv) → j ≤ l.length → Dr w0 b l.length cap g w w1 := by
    intro w1 j hv e0 e1 e2 x1 hw hj
    refine ⟨⟨j, hv, e0, e1, e2, x1, ?_, hj⟩, ?_, ?_⟩
    · rw [hw]; exact (show (w.setCell ⟨g, 2, none⟩ (.int .i64 hv)).frozen? ⟨g, 2, none⟩ = w.frozen? ⟨g, 2, none⟩ by simp).trans z2
    · rw [hw]; exact hb.setCell hg _
    · rw [hw]; exact SX.set _ _
  by_cases hlt : i < l.length
  · obtain ⟨bb, off, rfl, hcell, h0, h1⟩ := hl.get i hlt
    generalize l[i] = ch at hcell h0 h1
    have hblt : bb < w0.heap.size := lt_of_cell hcell
    have hcw : w.cell? ⟨bb, off + i, none⟩ = some (.int .u8 ch) := (World.cell?_of_block (hb.block bb hblt)).trans hcell
    have d3 := fun u => (World.cell?_setCell_other w ⟨g, 2, none⟩ ⟨bb, off + i, none⟩ u (by intro e; have e2 := congrArg Addr.block e; simp at e2; omega)).trans hcw
    have hil : (i : Int) < (l.length : Int) := by omega
    go_enter Tryz.func156, Tryz.ntmps156
    go_wp2
    generalize hhv : wrap64 (wrap64 (h * 6364136223846793005) + 1442695040888963407) = hv
    obtain ⟨w1, hw1⟩ : ∃ w1, w1 = w.setCell ⟨g, 2, none⟩ (.int .i64 hv) := ⟨_, rfl⟩
    have e0 := d0 (.int .i64 hv)
    have e1 := d1 (.int .i64 hv)
    have e2 := d2 (.int .i64 hv)
    have e3 := d3 (.int .i64 hv)
    have x1 := y1 (.int .i64 hv)
    have Hw := Lib.hid hw1
    rw [← hw1] at e0 e1 e2 e3 x1 ⊢
    clear hw1 d0 d1 d2 d3 y1 hhv c0 c1 c2
    go_quiet (fail)
    generalize nq = n1
    obtain ⟨x0, hx0, hx1⟩ : ∃ x0 : Int, bits BinOp.and IntKind.i64 (bits BinOp.xor IntKind.i64 (hv / 8589934592) (hv / 35184372088832)) 255 = x0 ∧ (0 ≤ x0 ∧ x0 ≤ 255) := ⟨_, rfl, and_ff _⟩
    rw [hx0]
    clear hx0
    go_wp2
    go_quiet (fail)
    generalize nq = n2
    go_wp2
    go_quiet (fail)
    obtain ⟨x2, hx2, hx3⟩ : ∃ x2 : Int, bits BinOp.and IntKind.i64 (x0 + ch) 255 = x2 ∧ (0 ≤ x2 ∧ x2 ≤ 255) := ⟨_, rfl, and_ff _⟩
    rw [hx2]
    clear hx2
    obtain ⟨w2, hw2⟩ : ∃ w2, w2 = ((w1.drewN n1).drewN n2).drewN nq := ⟨_, rfl⟩
    have f1 : w2.cell? ⟨g, 1, none⟩ = some (.int .i64 (i : Int)) := by rw [hw2]; exact e1
    have f1z : w2.frozen? ⟨g, 1, none⟩ = false := by rw [hw2]; exact x1
    have Hd2 := Lib.hid (show Dr w0 (some ⟨bb, off, none⟩) l.length cap g w w2 by rw [hw2]; exact (((hfin w1 i hv e0 e1 e2 x1 Hw.out hi).drewN _).drewN _).drewN _)
    rw [← hw2]
    clear hw2 hfin e0 e1 e2 e3 x1 Hw z1 z2 hb hcw
    go_wp2
    go_ret
    exact ⟨x2, rfl, hx3, by have h9 := Hd2.out.step f1 (j := i + 1) hg (by omega); simpa using h9⟩
  · have hil : ¬ (i : Int) < (l.length : Int) := by omega
    go_enter Tryz.func156, Tryz.ntmps156
    go_wp2
    generalize hhv : wrap64 (wrap64 (h * 6364136223846793005) + 1442695040888963407) = hv
    obtain ⟨w1, hw1⟩ : ∃ w1, w1 = w.setCell ⟨g, 2, none⟩ (.int .i64 hv) := ⟨_, rfl⟩
    have e0 := d0 (.int .i64 hv)
    have e1 := d1 (.int .i64 hv)
    have e2 := d2 (.int .i64 hv)
    have x1 := y1 (.int .i64 hv)
    have Hw := Lib.hid hw1
    rw [← hw1] at e0 e1 e2 x1 ⊢
    clear hw1 d0 d1 d2 y1 hhv c0 c1 c2
    go_quiet (fail)
    obtain ⟨x0, hx0, hx1⟩ : ∃ x0 : Int, bits BinOp.and IntKind.i64 (bits BinOp.xor IntKind.i64 (hv / 8589934592) (hv / 35184372088832)) 255 = x0 ∧ (0 ≤ x0 ∧ x0 ≤ 255) := ⟨_, rfl, and_ff _⟩
    rw [hx0]
    clear hx0
    go_wp2
    go_quiet (fail)
    go_wp2
    go_ret
    exact ⟨x0, rfl, hx1, ((hfin w1 i hv e0 e1 e2 x1 Hw.out hi).drewN _).drewN _⟩
theorem tmod_bd {x n : Int} (hx : 0 ≤ x) (hn : 0 < n) : 0 ≤ x % n ∧ x % n < n := ⟨Int.emod_nonneg _ (by omega), Int.emod_lt_of_pos _ hn⟩
set_option maxRecDepth 100000 in
set_option maxHeartbeats 1600000 in
theorem l1Below_any (w0 : World) (b : Option Addr) (cap : Nat) (l : List Int) (g : Nat) (n : Int) (w : World) (hl : bytesV w0 (.slice b l.length cap) l) (hn : l.length ≤ 1048576) (hg : w0.heap.size ≤ g) (hb : Below w0.heap.size w0 w) (hc : Cur b l.length cap g w) (hn1 : n ≤ 1000000000) (hn0 : 0 < n) :
    Calls Tryz.prog 82 #[.pointer (some ⟨g, 0, none⟩), .int .i64 n] w fun e w' => ∃ x : Int, e = .returned (.int .i64 x) ∧ (0 ≤ x ∧ x < n) ∧ Dr w0 b l.length cap g w w' := by
  by_cases h256 : n ≤ 256
  · go_enter Tryz.func82, Tryz.ntmps82
    go_wp2_with fail
    refine (l1Byte_any w0 b cap l g _ hl hn hg hb hc).mono ?_
    rintro e w1 ⟨x, rfl, ⟨hx0, hx1⟩, hd⟩
    have hm := tmod_bd hx0 hn0
    have hd0 : (n == 0) = false := by rw [beq_eq_false_iff_ne]; omega
    have hnz : n ≠ 0 := by omega
    go_wp2
    go_ret
    exact ⟨_, rfl, by simpa using hm, hd⟩
  · go_enter Tryz.func82, Tryz.ntmps82
    go_wp2_with fail
    refine (l1Byte_any w0 b cap l g _ hl hn hg hb hc).mono ?_
    rintro e w1 ⟨x, rfl, ⟨hx0, hx1⟩, hd1⟩
    go_wp2_with fail
    refine (l1Byte_any w0 b cap l g _ hl hn hg hd1.2.1 hd1.1).mono ?_
    rintro e w2 ⟨y, rfl, ⟨hy0, hy1⟩, hd2⟩
    go_wp2_with fail
    refine (l1Byte_any w0 b cap l g _ hl hn hg hd2.2.1 hd2.1).mono ?_
    rintro e w3 ⟨z, rfl, ⟨hz0, hz1⟩, hd3⟩
    go_wp2_with fail
    refine (l1Byte_any w0 b cap l g _ hl hn hg hd3.2.1 hd3.1).mono ?_
    rintro e w4 ⟨u, rfl, ⟨hu0, hu1⟩, hd4⟩
    have hm := tmod_bd (x := x * 16777216 + y * 65536 + z * 256 + u) (by omega) hn0
    have hnz : n ≠ 0 := by omega
    go_wp2
    go_ret
    exact ⟨_, rfl, by simpa using hm, ((hd1.trans hd2).trans hd3).trans hd4⟩
def isI64 : Value → Bool
  | .int .i64 x => decide (-9223372036854775808 ≤ x) && decide (x ≤ 9223372036854775807)
  | _ => false
theorem isI64_of {v : Value} (h : isI64 v = true) : ∃ x : Int, v = .int .i64 x ∧ I64 x := by
  unfold isI64 at h
  split at h
  · rename_i x
    simp only [Bool.and_eq_true, decide_eq_true_eq] at h
    exact ⟨x, rfl, h⟩
  · cases h
theorem lit_ints {w : World} {cs : Array Value} {t : TypeId} (h : cs.toList.all isI64 = true) (k : Nat) (hk : k < cs.size) : ∃ x : Int, (w.alloc (.cells cs t)).cell? ⟨w.heap.size, k, none⟩ = some (.int .i64 x) ∧ I64 x := by
  obtain ⟨x, hx, hI⟩ := isI64_of (List.all_eq_true.1 h cs[k] (by simp))
  exact ⟨x, by rw [← hx]; exact cell_new w _ _ k _ (by simp [hk]), hI⟩
theorem Cur.al {w0 : World} {b : Option Addr} {n cap g : Nat} {w : World} (h : Cur b n cap g w) (hb : Below w0.heap.size w0 w) (o : Obj) : Dr w0 b n cap g w (w.alloc o) :=
  ⟨h.sx (SX.alloc w o) (by simp), hb.alloc hb.size _, (SX.alloc w o).more (by simp)⟩
set_option maxRecDepth 100000 in
set_option maxHeartbeats 1600000 in
theorem l1PickInt_any (w0 : World) (b : Option Addr) (cap : Nat) (l : List Int) (g q m : Nat) (w : World) (hl : bytesV w0 (.slice b l.length cap) l) (hn : l.length ≤ 1048576) (hg : w0.heap.size ≤ g) (hb : Below w0.heap.size w0 w) (hc : Cur b l.length cap g w) (hq : q ≠ g) (hm0 : 0 < m) (hm1 : m ≤ 256)
    (hL : ∀ k, k < m → ∃ x : Int, w.cell? ⟨q, k, none⟩ = some (.int .i64 x) ∧ I64 x) :
    Calls Tryz.prog 155 #[.pointer (some ⟨g, 0, none⟩), .slice (some ⟨q, 0, none⟩) m m] w fun e w' => ∃ x : Int, e = .returned (.int .i64 x) ∧ I64 x ∧ Dr w0 b l.length cap g w w' := by
  go_enter Tryz.func155, Tryz.ntmps155
  go_wp2_with fail
  refine (l1Below_any w0 b cap l g (m : Int) _ hl hn hg hb hc (by omega) (by omega)).mono ?_
  rintro e w1 ⟨x, rfl, ⟨hx0, hx1⟩, hd⟩
  obtain ⟨k, rfl⟩ := Int.eq_ofNat_of_zero_le hx0
  obtain ⟨y, hy, hI⟩ := hL k (by omega)
  have hy1 := hd.2.2.cell hy (by simpa using hq)
  go_wp2
  go_ret
  exact ⟨y, rfl, hI, hd⟩
theorem bcells_snoc' (l : List UInt8) (b : UInt8) : bcells l ++ [Value.int .u8 (b.toNat : Int)] = bcells (l ++ [b]) := by simp [bcells]
theorem snoc_byte (pre : List UInt8) (z : Int) (y : Nat) (hz : z = (y : Int)) (hy : y < 256) : bcells pre ++ [Value.int .u8 z] = bcells (pre ++ [UInt8.ofNat y]) := by
  rw [← bcells_snoc', toNat_ofNat_lt y hy, hz]
theorem Dr.grown {w0 : World} {b : Option Addr} {n cap g : Nat} {w w3 w4 : World} {o : Option Nat} (h : Dr w0 b n cap g w w3) (hgr : w3.grownBy w4 o) (ho : ∀ j, o = some j → w.heap.size ≤ j) (hg : g < w.heap.size) (hw0 : w0.heap.size ≤ w.heap.size) : Dr w0 b n cap g w w4 := by
  have s : SX o.toList w3 w4 := ⟨hgr.size, fun j hj hn => hgr.block j hj (by intro e; subst e; simp at hn)⟩
  refine ⟨h.1.sx s (by intro hm; cases ho2 : o with
    | none => rw [ho2] at hm; simp at hm
    | some j => rw [ho2] at hm; simp at hm; have := ho j ho2; omega), h.2.1.trans (below_of_grown hgr h.2.1.size fun j hj => Nat.le_trans hw0 (ho j hj)), ⟨Nat.le_trans h.2.2.1 s.1, fun j hj hn => ?_⟩⟩
  refine (s.2 j (Nat.lt_of_lt_of_le hj h.2.2.1) ?_).trans (h.2.2.2 j hj hn)
  intro hm
  cases ho2 : o with
  | none => rw [ho2] at hm; simp at hm
  | some q => rw [ho2] at hm; simp at hm; have := ho q ho2; omega
set_option maxRecDepth 100000 in
set_option maxHeartbeats 3200000 in
theorem l1Text_any (w0 : World) (b : Option Addr) (cap : Nat) (l : List Int) (g : Nat) (most : Nat) (w : World) (hl : bytesV w0 (.slice b l.length cap) l) (hn : l.length ≤ 1048576) (hg : w0.heap.size ≤ g) (hb : Below w0.heap.size w0 w) (hc : Cur b l.length cap g w) (hm : most ≤ 1000) :
    Calls Tryz.prog 187 #[.pointer (some ⟨g, 0, none⟩), .int .i64 (most : Int)] w fun e w' => ∃ s : ByteArray, e = .returned (.string s) ∧ s.size ≤ most ∧ Dr w0 b l.length cap g w w' := by
  obtain ⟨i0, hi, hz0, hz1, hz2⟩ := info_parts infoByte
  have hal := hc.al hb (.cells #[] 5)
  have hglt := hc.lt
  have HZ : (w.alloc (.cells #[] 5)).heap.size = w.heap.size + 1 := by simp only [World.alloc, Array.size_push]
  have hlit : (w.alloc (.cells #[] 5)).ownsRow w.heap.size 5 1 (.slice (some ⟨w.heap.size, 0, none⟩) 0 0) 0 (bcells []) := World.ownsRow_lit _ _ _ (Nat.le_refl _) (by simp) (by simp)
  go_enter Tryz.func187, Tryz.ntmps187
  go_wp2_with fail
  refine (l1Below_any w0 b cap l g 4 _ hl hn hg hal.2.1 hal.1 (by omega) (by omega)).mono ?_
  rintro e w1 ⟨st, rfl, ⟨hs0, hs1⟩, hd1⟩
  have ho1 := own_frame' hlit fun j hj => by simp [Value.ownBlock] at hj; subst hj; exact hd1.2.2.2 _ (by omega) (by simp; omega)
  go_wp2_with fail
  refine (l1Below_any w0 b cap l g ((most : Int) + 1) _ hl hn hg hd1.2.1 hd1.1 (by omega) (by omega)).mono ?_
  rintro e w2 ⟨n0, rfl, ⟨hn0, hn1⟩, hd2⟩
  have hd12 := (hal.trans hd1).trans hd2
  have ho2 := own_frame' ho1 fun j hj => by simp [Value.ownBlock] at hj; subst hj; exact hd2.2.2.2 _ (by have := hd1.2.2.1; omega) (by simp; omega)
  obtain ⟨n1, rfl⟩ := Int.eq_ofNat_of_zero_le hn0
  go_wp2
  go_loopw [5, 7, 8] (fun v x y wr => ∃ (k : Nat) (pre : List UInt8), x = .int .i64 (k : Int) ∧ pre.length + k ≤ most ∧ wr.ownsRow w.heap.size 5 1 v pre.length (bcells pre) ∧ Dr w0 b l.length cap g w wr) (fun _ x _ _ => (intOf x).toNat)
  case atStart => exact ⟨n1, [], rfl, by simp; omega, ho2, hd12⟩
  case round =>
    obtain ⟨k, pre, rfl, hkm, hown, hd⟩ := hrel
    by_cases hk0 : 0 < k
    · obtain ⟨k', rfl⟩ : ∃ k', k = k' + 1 := ⟨k - 1, by omega⟩
      have hki : (0 : Int) < ((k' + 1 : Nat) : Int) := by omega
      go_wp2_with fail
      refine (l1Byte_any w0 b cap l g _ hl hn hg hd.2.1 hd.1).mono ?_
      rintro e w3 ⟨x, rfl, ⟨hx0, hx1⟩, hd3⟩
      obtain ⟨xn, rfl⟩ := Int.eq_ofNat_of_zero_le hx0
      have hlt := own_lt hown
      have hown3 := own_frame' hown fun j hj => hd3.2.2.2 _ (hlt j hj).2 (by have := (hlt j hj).1; simp; omega)
      have hd33 := hd.trans hd3
      have hle : w.heap.size ≤ w3.heap.size := hd33.2.2.1
      have hcb := cutW_below hle
      have hown4 := hown3
      rw [← cutW_size hle] at hown4
      have hw0s : w0.heap.size ≤ w.heap.size := hb.size
      clear hown3 hown hlit ho1 ho2 hd12
      by_cases h1 : st = 1
      · subst h1
        have hmod : 0 ≤ xn % 2 ∧ xn % 2 < 256 := by omega
        go_wp2_with (at_builtin; refine append_news slByte rfl _ _ rfl _ _ _ hcb hown4 rfl _ 1 rfl rfl ?c1 ?c2 ?c3 ?_)
        case c1 => simp [Value.oneCell']
        case c2 => omega
        case c3 => unfold maxLen; omega
        intro v' w4 hown5 hgr hb5
        rw [snoc_byte pre _ (xn % 2) (by omega) (by omega), cutW_size hle] at hown5
        have hd4 := hd33.grown hgr (fun j hj => (hlt j hj).1) hglt hw0s
        clear hb5 hcb hown4 hgr hd33 hd3
        go_wp2
        go_roundw
        case rel => exact ⟨k', pre ++ [UInt8.ofNat (xn % 2)], by go_num, by simp; omega, by simpa using hown5, hd4⟩
        case measure => simp [intOf]
      by_cases h2 : st = 2
      · subst h2
        go_wp2_with (at_builtin; refine append_news slByte rfl _ _ rfl _ _ _ hcb hown4 rfl _ 1 rfl rfl ?c1 ?c2 ?c3 ?_)
        case c1 => simp [Value.oneCell']
        case c2 => omega
        case c3 => unfold maxLen; omega
        intro v' w4 hown5 hgr hb5
        rw [snoc_byte pre _ (97 + xn % 4) (by omega) (by omega), cutW_size hle] at hown5
        have hd4 := hd33.grown hgr (fun j hj => (hlt j hj).1) hglt hw0s
        clear hb5 hcb hown4 hgr hd33 hd3
        go_wp2
        go_roundw
        case rel => exact ⟨k', pre ++ [UInt8.ofNat (97 + xn % 4)], by go_num, by simp; omega, by simpa using hown5, hd4⟩
        case measure => simp [intOf]
      go_wp2_with (at_builtin; refine append_news slByte rfl _ _ rfl _ _ _ hcb hown4 rfl _ 1 rfl rfl ?c1 ?c2 ?c3 ?_)
      case c1 => simp [Value.oneCell']
      case c2 => omega
      case c3 => unfold maxLen; omega
      intro v' w4 hown5 hgr hb5
      rw [snoc_byte pre _ (xn) (by omega) (by omega), cutW_size hle] at hown5
      have hd4 := hd33.grown hgr (fun j hj => (hlt j hj).1) hglt hw0s
      clear hb5 hcb hown4 hgr hd33 hd3
      go_wp2
      go_roundw
      case rel => exact ⟨k', pre ++ [UInt8.ofNat (xn)], by go_num, by simp; omega, by simpa using hown5, hd4⟩
      case measure => simp [intOf]
    · have hki : ¬ (0 : Int) < (k : Int) := by omega
      have hcv := own_string hown
      go_wp2
      go_ret
      exact ⟨_, rfl, by simp [ByteArray.size]; omega, hd⟩
theorem frozen_new' (w : World) (cs : Array Value) (t : TypeId) (j : Nat) : (w.alloc (.cells cs t)).frozen? ⟨w.heap.size, j, none⟩ = false := by
  have h := heap_alloc_new w (.cells cs t)
  unfold World.frozen?
  show (match (w.alloc (.cells cs t)).heap[w.heap.size]? with | some (.cells c elem (lo, hi)) => decide (lo ≤ j) && decide (j < hi) | x => false) = false
  rw [h]; simp
theorem Cur.new (b : Option Addr) (n cap : Nat) (w : World) (h : Int) (t : TypeId) : Cur b n cap w.heap.size (w.alloc (.cells #[.slice b n cap, .int .i64 0, .int .i64 h] t)) :=
  ⟨0, h, cell_new w _ _ 0 _ rfl, cell_new w _ _ 1 _ rfl, cell_new w _ _ 2 _ rfl, frozen_new' _ _ _ _, frozen_new' _ _ _ _, Nat.zero_le _⟩
set_option maxRecDepth 100000 in
set_option maxHeartbeats 3200000 in
theorem l1New_any (b : Option Addr) (cap : Nat) (l : List Int) (w : World) (hl : bytesV w (.slice b l.length cap) l) (hn : l.length ≤ 1048576) :
    Calls Tryz.prog 79 #[.slice b l.length cap] w fun e w' => ∃ g : Nat, e = .returned (.pointer (some ⟨g, 0, none⟩)) ∧ w.heap.size ≤ g ∧ Cur b l.length cap g w' ∧ Below w.heap.size w w' := by
  go_enter Tryz.func79, Tryz.ntmps79
  go_wp2
  go_loop [3, 4] (fun h i => ∃ (hv : Int) (k : Nat), h = .int .i64 hv ∧ i = .int .i64 (k : Int) ∧ k ≤ l.length) (fun _ i => l.length - (intOf i).toNat)
  case atStart => exact ⟨_, 0, rfl, rfl, Nat.zero_le _⟩
  case round =>
    obtain ⟨hv, k, rfl, rfl, hk⟩ := hrel
    by_cases hlt : k < l.length
    · have hil : (k : Int) < (l.length : Int) := by omega
      by_cases h4 : (k : Int) < 4000
      · obtain ⟨bb, off, rfl, hcell, h0, h1⟩ := hl.get k hlt
        generalize l[k] = ch at hcell h0 h1
        go_wp2
        go_round
        case rel => exact ⟨_, k + 1, rfl, by go_num, by omega⟩
        case measure => simp [intOf]; omega
      · have h4' : (4000 : Int) ≤ (k : Int) := by omega
        go_wp2
        go_ret
        exact ⟨_, rfl, Nat.le_refl _, Cur.new _ _ _ _ _ _, ba (Below.refl _ _)⟩
    · have hil : ¬ (k : Int) < (l.length : Int) := by omega
      go_wp2
      go_ret
      exact ⟨_, rfl, Nat.le_refl _, Cur.new _ _ _ _ _ _, ba (Below.refl _ _)⟩
end Go.Proofs.YtpdmdfkcaabnaaaGreatDoor
