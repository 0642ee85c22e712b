/- The walk of the law FnExactParseQuery: it returns true, whatever the input. Condition: what the library's own variables hold. -/
import Derived.Test.YtojjojcmemifhaaGreatDoorParQS
import Derived.Test.YtojjojcmemifhaaGreatDoorParQI
import Derived.Test.YtojjojcmemifhaaGreatDoorHQuery
import Derived.Test.YtojjojcmemifhaaGreatDoorMB
namespace Go.Proofs.YtojjojcmemifhaaGreatDoor
open Go.RowKit
set_option linter.unusedVariables false
set_option linter.unusedSimpArgs false
set_option maxRecDepth 100000 in
set_option maxHeartbeats 12800000 in
theorem fnExactParseQuery_walk (v0 : Value) (l0 : List Int) (s1 : ByteArray) (w : World) (g0 : intsV w v0 l0) (hT : LibW w) :
    Calls Tryz.prog 4 #[v0, .string s1] w fun e w' => e = .returned (.bool true) ∧ Below w.heap.size w w' := by
  obtain ⟨p0, q0, rfl⟩ := slW.form g0
  have HLW := Lib.hid hT
  clear hT
  by_cases n0 : l0.length ≤ 1048576
  case neg =>
    go_enter Tryz.func4, Tryz.ntmps4
    go_wp2
    go_ret
    exact ⟨rfl, Below.refl _ _⟩
  by_cases n1 : s1.size ≤ 1048576
  case neg =>
    go_enter Tryz.func4, Tryz.ntmps4
    go_wp2
    go_ret
    exact ⟨rfl, Below.refl _ _⟩
  have rd0 : decide (l0 = l0) = true := by simp
  go_enter Tryz.func4, Tryz.ntmps4
  go_wp2_with fail
  refine (toIntS_any _ l0 _ (intsV.below' g0 ?_) n0).mono ?_
  · (repeat (first | exact Below.refl _ _ | refine ba ?_))
  rintro e w1 ⟨dv, df, rfl, dh_1, dr, hb1⟩
  obtain ⟨da, dc, rfl⟩ := slR.form dh_1
  have D1 : Below w.heap.size w w1 := bt (by (repeat (first | exact Below.refl _ _ | refine ba ?_ | refine bdr ?_))) hb1
  have B1 : Below w.heap.size w w1 := D1
  go_wp2_with fail
  refine (specParseQuery_any _ l0 _ s1 _ (dh_1.below' (by (repeat (first | exact Below.refl _ _ | refine ba ?_ | refine bdr ?_)))) n1).mono ?_
  rintro e w2 ⟨x, k, wvhead, wvatoms, wfhead, wfatoms, rfl, wI, whhead_2, whatoms_2, wr, hb2⟩
  have HI := Lib.hid wI
  clear wI
  obtain ⟨wahead, wchead, rfl⟩ := slR.form whhead_2
  obtain ⟨waatoms, wcatoms, rfl⟩ := slR.form whatoms_2
  have D2 : Below w1.heap.size w1 w2 := bt (by (repeat (first | exact Below.refl _ _ | refine ba ?_ | refine bdr ?_))) hb2
  have B2 : Below w.heap.size w w2 := bt B1 D2
  have dh_2 := dh_1.below' D2
  clear dh_1
  have rr : decide (x = x) = true := by simp
  have wzhead : ∀ g ∈ wfhead, g < w2.heap.size := whhead_2.lt
  have wzatoms : ∀ g ∈ wfatoms, g < w2.heap.size := whatoms_2.lt
  have rk : (k != k) = false := by simp
  obtain ⟨smhead, smatoms⟩ := QueryIs.small HI.out (by simpa using n1)
  go_wp2_with fail
  refine (toIntS_any _ l0 _ (intsV.below' g0 ?_) n0).mono ?_
  · (repeat (first | exact B2 | refine ba ?_))
  rintro e w3 ⟨ev, ef, rfl, eh_3, er, hb3⟩
  obtain ⟨ea, ec, rfl⟩ := slR.form eh_3
  have D3 : Below w2.heap.size w2 w3 := bt (by (repeat (first | exact Below.refl _ _ | refine ba ?_ | refine bdr ?_))) hb3
  have B3 : Below w.heap.size w w3 := bt B2 D3
  have whhead_3 := whhead_2.below' D3
  have whatoms_3 := whatoms_2.below' D3
  clear whhead_2 whatoms_2
  have bw0_3 : w3.cell? ⟨w2.heap.size, 0, none⟩ = some ((.slice wahead x.head.length wchead)) := cell_below (cell_new _ _ _ 0 _ rfl) hb3
  have bw1_3 : w3.cell? ⟨w2.heap.size, 1, none⟩ = some ((.slice waatoms x.atoms.length wcatoms)) := cell_below (cell_new _ _ _ 1 _ rfl) hb3
  have z23 : w2.heap.size + 1 ≤ w3.heap.size := by have h9 := hb3.size; simp only [World.alloc, Array.size_push] at h9; omega
  have ez : ∀ g ∈ ef, w2.heap.size + 1 ≤ g := fun g hg => by have h9 := er.2 g hg; simp only [World.alloc, Array.size_push] at h9; omega
  have el : ∀ g ∈ ef, g < w3.heap.size := eh_3.lt
  have wlhead : ∀ g ∈ wfhead, g < w3.heap.size := whhead_3.lt
  have wlatoms : ∀ g ∈ wfatoms, g < w3.heap.size := whatoms_3.lt
  go_wp2_with fail
  refine (implParseQuery_any _ l0 _ s1 _ (eh_3.below' (by (repeat (first | exact Below.refl _ _ | refine ba ?_ | refine bdr ?_)))) n1 (HLW.out.on (bt B3 (by (repeat (first | exact Below.refl _ _ | refine ba ?_ | refine bdr ?_)))))).mono ?_
  rintro e w4 ⟨x', k', gvhead, gvatoms, gfhead, gfatoms, rfl, gI, ghhead_4, ghatoms_4, gr, hb4⟩
  obtain ⟨rfl, rfl⟩ := HI.out.one gI
  clear gI
  obtain ⟨gahead, gchead, rfl⟩ := slR.form ghhead_4
  obtain ⟨gaatoms, gcatoms, rfl⟩ := slR.form ghatoms_4
  have D4 : Below w3.heap.size w3 w4 := bt (by (repeat (first | exact Below.refl _ _ | refine ba ?_ | refine bdr ?_))) hb4
  have B4 : Below w.heap.size w w4 := bt B3 D4
  have whhead_4 := whhead_3.below' D4
  have whatoms_4 := whatoms_3.below' D4
  have bw0_4 : w4.cell? ⟨w2.heap.size, 0, none⟩ = some ((.slice wahead x.head.length wchead)) := cell_below bw0_3 D4
  have bw1_4 : w4.cell? ⟨w2.heap.size, 1, none⟩ = some ((.slice waatoms x.atoms.length wcatoms)) := cell_below bw1_3 D4
  have eh_4 := eh_3.below' D4
  clear whhead_3 whatoms_3 bw0_3 bw1_3 eh_3
  have z34 := D4.size
  have glhead : ∀ g ∈ gfhead, g < w4.heap.size := ghhead_4.lt
  have gzhead : ∀ g ∈ gfhead, w3.heap.size ≤ g := fun g hg => gr.2 g (by simp [hg])
  have glatoms : ∀ g ∈ gfatoms, g < w4.heap.size := ghatoms_4.lt
  have gzatoms : ∀ g ∈ gfatoms, w3.heap.size ≤ g := fun g hg => gr.2 g (by simp [hg])
  have bw0n := fun o => cell_al bw0_4 o
  have bw1n := fun o => cell_al bw1_4 o
  go_wp2_with fail
  refine (eqQuery_any x x _ _ _ _ _ _ _ _ _ (ghhead_4.below' (by (repeat (first | exact Below.refl _ _ | refine ba ?_ | refine bdr ?_)))) (whhead_4.below' (by (repeat (first | exact Below.refl _ _ | refine ba ?_ | refine bdr ?_)))) (ghatoms_4.below' (by (repeat (first | exact Below.refl _ _ | refine ba ?_ | refine bdr ?_)))) (whatoms_4.below' (by (repeat (first | exact Below.refl _ _ | refine ba ?_ | refine bdr ?_))))).mono ?_
  rintro e w5 ⟨rfl, hb5⟩
  clear bw0n bw1n
  have D5 : Below w4.heap.size w4 w5 := bt (by (repeat (first | exact Below.refl _ _ | refine ba ?_ | refine bdr ?_))) hb5
  have B5 : Below w.heap.size w w5 := bt B4 D5
  have whhead_5 := whhead_4.below' D5
  have whatoms_5 := whatoms_4.below' D5
  have bw0_5 : w5.cell? ⟨w2.heap.size, 0, none⟩ = some ((.slice wahead x.head.length wchead)) := cell_below bw0_4 D5
  have bw1_5 : w5.cell? ⟨w2.heap.size, 1, none⟩ = some ((.slice waatoms x.atoms.length wcatoms)) := cell_below bw1_4 D5
  have eh_5 := eh_4.below' D5
  have ghhead_5 := ghhead_4.below' D5
  have ghatoms_5 := ghatoms_4.below' D5
  clear whhead_4 whatoms_4 bw0_4 bw1_4 eh_4 ghhead_4 ghatoms_4
  have bg0_5 : w5.cell? ⟨w4.heap.size, 0, none⟩ = some ((.slice gahead x.head.length gchead)) := cell_below (cell_new _ _ _ 0 _ rfl) hb5
  have bg1_5 : w5.cell? ⟨w4.heap.size, 1, none⟩ = some ((.slice gaatoms x.atoms.length gcatoms)) := cell_below (cell_new _ _ _ 1 _ rfl) hb5
  go_wp2_with fail
  refine (toIntS_any _ l0 _ (intsV.below' g0 ?_) n0).mono ?_
  · (repeat (first | exact B5 | refine ba ?_))
  rintro e w6 ⟨tv, tf, rfl, th_6, tr, hb6⟩
  obtain ⟨ta, tc, rfl⟩ := slR.form th_6
  have D6 : Below w5.heap.size w5 w6 := bt (by (repeat (first | exact Below.refl _ _ | refine ba ?_ | refine bdr ?_))) hb6
  have B6 : Below w.heap.size w w6 := bt B5 D6
  have whhead_6 := whhead_5.below' D6
  have whatoms_6 := whatoms_5.below' D6
  have bw0_6 : w6.cell? ⟨w2.heap.size, 0, none⟩ = some ((.slice wahead x.head.length wchead)) := cell_below bw0_5 D6
  have bw1_6 : w6.cell? ⟨w2.heap.size, 1, none⟩ = some ((.slice waatoms x.atoms.length wcatoms)) := cell_below bw1_5 D6
  have eh_6 := eh_5.below' D6
  have ghhead_6 := ghhead_5.below' D6
  have ghatoms_6 := ghatoms_5.below' D6
  have bg0_6 : w6.cell? ⟨w4.heap.size, 0, none⟩ = some ((.slice gahead x.head.length gchead)) := cell_below bg0_5 D6
  have bg1_6 : w6.cell? ⟨w4.heap.size, 1, none⟩ = some ((.slice gaatoms x.atoms.length gcatoms)) := cell_below bg1_5 D6
  clear whhead_5 whatoms_5 bw0_5 bw1_5 eh_5 ghhead_5 ghatoms_5 bg0_5 bg1_5
  go_wp2_with fail
  refine (eqIntS_any _ _ l0 l0 _ _ _ (eh_6.below' (by (repeat (first | exact Below.refl _ _ | refine ba ?_ | refine bdr ?_)))) (th_6.below' (by (repeat (first | exact Below.refl _ _ | refine ba ?_ | refine bdr ?_))))).mono ?_
  rintro e w7 ⟨rfl, hb7⟩
  have D7 : Below w6.heap.size w6 w7 := bt (by (repeat (first | exact Below.refl _ _ | refine ba ?_ | refine bdr ?_))) hb7
  have B7 : Below w.heap.size w w7 := bt B6 D7
  have whhead_7 := whhead_6.below' D7
  have whatoms_7 := whatoms_6.below' D7
  have bw0_7 : w7.cell? ⟨w2.heap.size, 0, none⟩ = some ((.slice wahead x.head.length wchead)) := cell_below bw0_6 D7
  have bw1_7 : w7.cell? ⟨w2.heap.size, 1, none⟩ = some ((.slice waatoms x.atoms.length wcatoms)) := cell_below bw1_6 D7
  have eh_7 := eh_6.below' D7
  have ghhead_7 := ghhead_6.below' D7
  have ghatoms_7 := ghatoms_6.below' D7
  have bg0_7 : w7.cell? ⟨w4.heap.size, 0, none⟩ = some ((.slice gahead x.head.length gchead)) := cell_below bg0_6 D7
  have bg1_7 : w7.cell? ⟨w4.heap.size, 1, none⟩ = some ((.slice gaatoms x.atoms.length gcatoms)) := cell_below bg1_6 D7
  have th_7 := th_6.below' D7
  clear whhead_6 whatoms_6 bw0_6 bw1_6 eh_6 ghhead_6 ghatoms_6 bg0_6 bg1_6 th_6
  go_wp2_with fail
  refine (markIntS_any _ l0 _ 1 _ (eh_7.below' (by (repeat (first | exact Below.refl _ _ | refine ba ?_ | refine bdr ?_)))) ⟨by omega, by omega⟩ (by omega)).mono ?_
  rintro e w8 ⟨rfl, em_8, hw8⟩
  have B8 : Below w.heap.size w w8 := bw B7 hw8 (fun g hg => by have h1 := ez g hg; have h2 := B2.size; omega)
  have whhead_8 := ints.frame whhead_7 fun g hg => hw8.block g (whhead_7.lt g hg) (fun hm => by have h1 := wzhead g hg; have h2 := ez g hm; omega)
  have whatoms_8 := atoms.frame whatoms_7 fun g hg => hw8.block g (whatoms_7.lt g hg) (fun hm => by have h1 := wzatoms g hg; have h2 := ez g hm; omega)
  have bw0_8 : w8.cell? ⟨w2.heap.size, 0, none⟩ = some ((.slice wahead x.head.length wchead)) := (hw8.cellAt (lt_of_cell bw0_7) (fun hg => by have h1 := ez _ hg; omega)).trans bw0_7
  have bw1_8 : w8.cell? ⟨w2.heap.size, 1, none⟩ = some ((.slice waatoms x.atoms.length wcatoms)) := (hw8.cellAt (lt_of_cell bw1_7) (fun hg => by have h1 := ez _ hg; omega)).trans bw1_7
  have ghhead_8 := ints.frame ghhead_7 fun g hg => hw8.block g (ghhead_7.lt g hg) (fun hm => by have h1 := gzhead g hg; have h2 := el g hm; omega)
  have ghatoms_8 := atoms.frame ghatoms_7 fun g hg => hw8.block g (ghatoms_7.lt g hg) (fun hm => by have h1 := gzatoms g hg; have h2 := el g hm; omega)
  have bg0_8 : w8.cell? ⟨w4.heap.size, 0, none⟩ = some ((.slice gahead x.head.length gchead)) := (hw8.cellAt (lt_of_cell bg0_7) (fun hg => by have h1 := el _ hg; omega)).trans bg0_7
  have bg1_8 : w8.cell? ⟨w4.heap.size, 1, none⟩ = some ((.slice gaatoms x.atoms.length gcatoms)) := (hw8.cellAt (lt_of_cell bg1_7) (fun hg => by have h1 := el _ hg; omega)).trans bg1_7
  clear whhead_7 whatoms_7 bw0_7 bw1_7 eh_7 ghhead_7 ghatoms_7 bg0_7 bg1_7
  go_wp2_with fail
  refine (eqQuery_any x x _ _ _ _ _ _ _ _ _ (ghhead_8.below' (by (repeat (first | exact Below.refl _ _ | refine ba ?_ | refine bdr ?_)))) (whhead_8.below' (by (repeat (first | exact Below.refl _ _ | refine ba ?_ | refine bdr ?_)))) (ghatoms_8.below' (by (repeat (first | exact Below.refl _ _ | refine ba ?_ | refine bdr ?_)))) (whatoms_8.below' (by (repeat (first | exact Below.refl _ _ | refine ba ?_ | refine bdr ?_))))).mono ?_
  rintro e w9 ⟨rfl, hb9⟩
  have D9 : Below w8.heap.size w8 w9 := bt (by (repeat (first | exact Below.refl _ _ | refine ba ?_ | refine bdr ?_))) hb9
  have B9 : Below w.heap.size w w9 := bt B8 D9
  have whhead_9 := whhead_8.below' D9
  have whatoms_9 := whatoms_8.below' D9
  have bw0_9 : w9.cell? ⟨w2.heap.size, 0, none⟩ = some ((.slice wahead x.head.length wchead)) := cell_below bw0_8 D9
  have bw1_9 : w9.cell? ⟨w2.heap.size, 1, none⟩ = some ((.slice waatoms x.atoms.length wcatoms)) := cell_below bw1_8 D9
  have ghhead_9 := ghhead_8.below' D9
  have ghatoms_9 := ghatoms_8.below' D9
  have bg0_9 : w9.cell? ⟨w4.heap.size, 0, none⟩ = some ((.slice gahead x.head.length gchead)) := cell_below bg0_8 D9
  have bg1_9 : w9.cell? ⟨w4.heap.size, 1, none⟩ = some ((.slice gaatoms x.atoms.length gcatoms)) := cell_below bg1_8 D9
  clear whhead_8 whatoms_8 bw0_8 bw1_8 ghhead_8 ghatoms_8 bg0_8 bg1_8
  go_wp2_with fail
  refine (markQuery_any x _ _ _ _ 1 _ (ghhead_9.below' (by (repeat (first | exact Below.refl _ _ | refine ba ?_ | refine bdr ?_)))) (ghatoms_9.below' (by (repeat (first | exact Below.refl _ _ | refine ba ?_ | refine bdr ?_)))) gr.1 (by omega) (by omega)).mono ?_
  rintro e w10 ⟨rfl, mhhead_10, mhatoms_10, hw10⟩
  have gm : ∀ g ∈ gfhead ++ gfatoms, g < w4.heap.size := fun g hg => by exact (List.mem_append.1 hg).elim (glhead g) (glatoms g)
  have B10 : Below w.heap.size w w10 := bw B9 hw10 (fun g hg => by have h1 := gr.2 g hg; have h2 := B3.size; omega)
  have whhead_10 := ints.frame whhead_9 fun g hg => hw10.block g (whhead_9.lt g hg) (fun hm => by have h1 := wlhead g hg; have h2 := gr.2 g hm; omega)
  have whatoms_10 := atoms.frame whatoms_9 fun g hg => hw10.block g (whatoms_9.lt g hg) (fun hm => by have h1 := wlatoms g hg; have h2 := gr.2 g hm; omega)
  have bw0_10 : w10.cell? ⟨w2.heap.size, 0, none⟩ = some ((.slice wahead x.head.length wchead)) := (hw10.cellAt (lt_of_cell bw0_9) (fun hg => by have h1 := gr.2 _ hg; omega)).trans bw0_9
  have bw1_10 : w10.cell? ⟨w2.heap.size, 1, none⟩ = some ((.slice waatoms x.atoms.length wcatoms)) := (hw10.cellAt (lt_of_cell bw1_9) (fun hg => by have h1 := gr.2 _ hg; omega)).trans bw1_9
  have bg0_10 : w10.cell? ⟨w4.heap.size, 0, none⟩ = some ((.slice gahead x.head.length gchead)) := (hw10.cellAt (lt_of_cell bg0_9) (fun hg => by have h1 := gm _ hg; omega)).trans bg0_9
  have bg1_10 : w10.cell? ⟨w4.heap.size, 1, none⟩ = some ((.slice gaatoms x.atoms.length gcatoms)) := (hw10.cellAt (lt_of_cell bg1_9) (fun hg => by have h1 := gm _ hg; omega)).trans bg1_9
  clear whhead_9 whatoms_9 bw0_9 bw1_9 ghhead_9 ghatoms_9 bg0_9 bg1_9
  go_wp2_with fail
  refine (heldQuery_any x _ _ _ _ 1 _ (mhhead_10.below' (by (repeat (first | exact Below.refl _ _ | refine ba ?_ | refine bdr ?_)))) (mhatoms_10.below' (by (repeat (first | exact Below.refl _ _ | refine ba ?_ | refine bdr ?_)))) (by omega) (by omega)).mono ?_
  rintro e w11 ⟨rfl, hb11⟩
  have D11 : Below w10.heap.size w10 w11 := bt (by (repeat (first | exact Below.refl _ _ | refine ba ?_ | refine bdr ?_))) hb11
  have B11 : Below w.heap.size w w11 := bt B10 D11
  have whhead_11 := whhead_10.below' D11
  have whatoms_11 := whatoms_10.below' D11
  have bw0_11 : w11.cell? ⟨w2.heap.size, 0, none⟩ = some ((.slice wahead x.head.length wchead)) := cell_below bw0_10 D11
  have bw1_11 : w11.cell? ⟨w2.heap.size, 1, none⟩ = some ((.slice waatoms x.atoms.length wcatoms)) := cell_below bw1_10 D11
  have bg0_11 : w11.cell? ⟨w4.heap.size, 0, none⟩ = some ((.slice gahead x.head.length gchead)) := cell_below bg0_10 D11
  have bg1_11 : w11.cell? ⟨w4.heap.size, 1, none⟩ = some ((.slice gaatoms x.atoms.length gcatoms)) := cell_below bg1_10 D11
  have mhhead_11 := mhhead_10.below' D11
  have mhatoms_11 := mhatoms_10.below' D11
  clear whhead_10 whatoms_10 bw0_10 bw1_10 bg0_10 bg1_10 mhhead_10 mhatoms_10
  go_wp2_with fail
  refine (toIntS_any _ l0 _ (intsV.below' g0 ?_) n0).mono ?_
  · (repeat (first | exact B11 | refine ba ?_))
  rintro e w12 ⟨uv, uf, rfl, uh_12, ur, hb12⟩
  obtain ⟨ua, uc, rfl⟩ := slR.form uh_12
  have D12 : Below w11.heap.size w11 w12 := bt (by (repeat (first | exact Below.refl _ _ | refine ba ?_ | refine bdr ?_))) hb12
  have B12 : Below w.heap.size w w12 := bt B11 D12
  have whhead_12 := whhead_11.below' D12
  have whatoms_12 := whatoms_11.below' D12
  have bw0_12 : w12.cell? ⟨w2.heap.size, 0, none⟩ = some ((.slice wahead x.head.length wchead)) := cell_below bw0_11 D12
  have bw1_12 : w12.cell? ⟨w2.heap.size, 1, none⟩ = some ((.slice waatoms x.atoms.length wcatoms)) := cell_below bw1_11 D12
  have bg0_12 : w12.cell? ⟨w4.heap.size, 0, none⟩ = some ((.slice gahead x.head.length gchead)) := cell_below bg0_11 D12
  have bg1_12 : w12.cell? ⟨w4.heap.size, 1, none⟩ = some ((.slice gaatoms x.atoms.length gcatoms)) := cell_below bg1_11 D12
  have mhhead_12 := mhhead_11.below' D12
  have mhatoms_12 := mhatoms_11.below' D12
  clear whhead_11 whatoms_11 bw0_11 bw1_11 bg0_11 bg1_11 mhhead_11 mhatoms_11
  go_wp2_with fail
  refine (implParseQuery_any _ l0 _ s1 _ (uh_12.below' (by (repeat (first | exact Below.refl _ _ | refine ba ?_ | refine bdr ?_)))) n1 (HLW.out.on (bt B12 (by (repeat (first | exact Below.refl _ _ | refine ba ?_ | refine bdr ?_)))))).mono ?_
  rintro e w13 ⟨x', k', hvhead, hvatoms, hfhead, hfatoms, rfl, hI, hhhead_13, hhatoms_13, hr, hb13⟩
  obtain ⟨rfl, rfl⟩ := HI.out.one hI
  clear hI
  obtain ⟨hahead, hchead, rfl⟩ := slR.form hhhead_13
  obtain ⟨haatoms, hcatoms, rfl⟩ := slR.form hhatoms_13
  have D13 : Below w12.heap.size w12 w13 := bt (by (repeat (first | exact Below.refl _ _ | refine ba ?_ | refine bdr ?_))) hb13
  have B13 : Below w.heap.size w w13 := bt B12 D13
  have whhead_13 := whhead_12.below' D13
  have whatoms_13 := whatoms_12.below' D13
  have bw0_13 : w13.cell? ⟨w2.heap.size, 0, none⟩ = some ((.slice wahead x.head.length wchead)) := cell_below bw0_12 D13
  have bw1_13 : w13.cell? ⟨w2.heap.size, 1, none⟩ = some ((.slice waatoms x.atoms.length wcatoms)) := cell_below bw1_12 D13
  have bg0_13 : w13.cell? ⟨w4.heap.size, 0, none⟩ = some ((.slice gahead x.head.length gchead)) := cell_below bg0_12 D13
  have bg1_13 : w13.cell? ⟨w4.heap.size, 1, none⟩ = some ((.slice gaatoms x.atoms.length gcatoms)) := cell_below bg1_12 D13
  have mhhead_13 := mhhead_12.below' D13
  have mhatoms_13 := mhatoms_12.below' D13
  have uh_13 := uh_12.below' D13
  clear whhead_12 whatoms_12 bw0_12 bw1_12 bg0_12 bg1_12 mhhead_12 mhatoms_12 uh_12
  have bw0n := fun o => cell_al bw0_13 o
  have bw1n := fun o => cell_al bw1_13 o
  have bg0n := fun o => cell_al bg0_13 o
  have bg1n := fun o => cell_al bg1_13 o
  go_wp2_with fail
  refine (eqQuery_any x x _ _ _ _ _ _ _ _ _ (hhhead_13.below' (by (repeat (first | exact Below.refl _ _ | refine ba ?_ | refine bdr ?_)))) (whhead_13.below' (by (repeat (first | exact Below.refl _ _ | refine ba ?_ | refine bdr ?_)))) (hhatoms_13.below' (by (repeat (first | exact Below.refl _ _ | refine ba ?_ | refine bdr ?_)))) (whatoms_13.below' (by (repeat (first | exact Below.refl _ _ | refine ba ?_ | refine bdr ?_))))).mono ?_
  rintro e w14 ⟨rfl, hb14⟩
  clear bw0n bw1n bg0n bg1n
  have D14 : Below w13.heap.size w13 w14 := bt (by (repeat (first | exact Below.refl _ _ | refine ba ?_ | refine bdr ?_))) hb14
  have B14 : Below w.heap.size w w14 := bt B13 D14
  have whhead_14 := whhead_13.below' D14
  have whatoms_14 := whatoms_13.below' D14
  have bw0_14 : w14.cell? ⟨w2.heap.size, 0, none⟩ = some ((.slice wahead x.head.length wchead)) := cell_below bw0_13 D14
  have bw1_14 : w14.cell? ⟨w2.heap.size, 1, none⟩ = some ((.slice waatoms x.atoms.length wcatoms)) := cell_below bw1_13 D14
  have bg0_14 : w14.cell? ⟨w4.heap.size, 0, none⟩ = some ((.slice gahead x.head.length gchead)) := cell_below bg0_13 D14
  have bg1_14 : w14.cell? ⟨w4.heap.size, 1, none⟩ = some ((.slice gaatoms x.atoms.length gcatoms)) := cell_below bg1_13 D14
  have mhhead_14 := mhhead_13.below' D14
  have mhatoms_14 := mhatoms_13.below' D14
  have hhhead_14 := hhhead_13.below' D14
  have hhatoms_14 := hhatoms_13.below' D14
  clear whhead_13 whatoms_13 bw0_13 bw1_13 bg0_13 bg1_13 mhhead_13 mhatoms_13 hhhead_13 hhatoms_13
  have bh0_14 : w14.cell? ⟨w13.heap.size, 0, none⟩ = some ((.slice hahead x.head.length hchead)) := cell_below (cell_new _ _ _ 0 _ rfl) hb14
  have bh1_14 : w14.cell? ⟨w13.heap.size, 1, none⟩ = some ((.slice haatoms x.atoms.length hcatoms)) := cell_below (cell_new _ _ _ 1 _ rfl) hb14
  go_wp2_with fail
  refine (heldQuery_any x _ _ _ _ 1 _ (mhhead_14.below' (by (repeat (first | exact Below.refl _ _ | refine ba ?_ | refine bdr ?_)))) (mhatoms_14.below' (by (repeat (first | exact Below.refl _ _ | refine ba ?_ | refine bdr ?_)))) (by omega) (by omega)).mono ?_
  rintro e w15 ⟨rfl, hb15⟩
  have D15 : Below w14.heap.size w14 w15 := bt (by (repeat (first | exact Below.refl _ _ | refine ba ?_ | refine bdr ?_))) hb15
  have B15 : Below w.heap.size w w15 := bt B14 D15
  have whhead_15 := whhead_14.below' D15
  have whatoms_15 := whatoms_14.below' D15
  have bw0_15 : w15.cell? ⟨w2.heap.size, 0, none⟩ = some ((.slice wahead x.head.length wchead)) := cell_below bw0_14 D15
  have bw1_15 : w15.cell? ⟨w2.heap.size, 1, none⟩ = some ((.slice waatoms x.atoms.length wcatoms)) := cell_below bw1_14 D15
  have bg0_15 : w15.cell? ⟨w4.heap.size, 0, none⟩ = some ((.slice gahead x.head.length gchead)) := cell_below bg0_14 D15
  have bg1_15 : w15.cell? ⟨w4.heap.size, 1, none⟩ = some ((.slice gaatoms x.atoms.length gcatoms)) := cell_below bg1_14 D15
  have mhhead_15 := mhhead_14.below' D15
  have mhatoms_15 := mhatoms_14.below' D15
  have hhhead_15 := hhhead_14.below' D15
  have hhatoms_15 := hhatoms_14.below' D15
  have bh0_15 : w15.cell? ⟨w13.heap.size, 0, none⟩ = some ((.slice hahead x.head.length hchead)) := cell_below bh0_14 D15
  have bh1_15 : w15.cell? ⟨w13.heap.size, 1, none⟩ = some ((.slice haatoms x.atoms.length hcatoms)) := cell_below bh1_14 D15
  clear whhead_14 whatoms_14 bw0_14 bw1_14 bg0_14 bg1_14 mhhead_14 mhatoms_14 hhhead_14 hhatoms_14 bh0_14 bh1_14
  go_wp2
  go_ret
  exact ⟨rfl, B15⟩
end Go.Proofs.YtojjojcmemifhaaGreatDoor
