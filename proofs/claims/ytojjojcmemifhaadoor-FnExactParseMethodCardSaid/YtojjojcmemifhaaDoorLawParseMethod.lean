/- The walk of the law FnExactParseMethod: it returns true, whatever the input. Condition: what the library's own variables hold. -/
import Derived.Test.YtojjojcmemifhaaDoorParMS
import Derived.Test.YtojjojcmemifhaaDoorParMI
import Derived.Test.YtojjojcmemifhaaDoorHMeth
import Derived.Test.YtojjojcmemifhaaDoorFacts0
namespace Go.Proofs.YtojjojcmemifhaaDoor
open Go.RowKit
set_option linter.unusedVariables false
set_option linter.unusedSimpArgs false
theorem MethIs.small {s : List Int} {t : List UInt8} {m : MethD} {k : Bool} (h : MethIs s t m k) (ht : t.length ≤ 1048576) : m.inputs.length ≤ 1048577 := by
  rcases h with ⟨_, h2, h3, _⟩ | ⟨_, rfl, _⟩
  · by_cases h0 : 0 < m.inputs.length
    · have h4 := cut_inp h0
      have h5 := cutL_len 44 (listS m.inputs [44])
      rw [h4, List.length_map] at h5
      have h6 := cutL_piece 32 t (inpS m.inputs) (by rw [← h3, cut_meth h2]; simp)
      unfold inpS at h6
      rw [if_pos h0] at h6
      omega
    · omega
  · simp
set_option maxRecDepth 100000 in
set_option maxHeartbeats 12800000 in
theorem fnExactParseMethod_walk (v0 : Value) (l0 : List Int) (s1 : ByteArray) (w : World) (g0 : intsV w v0 l0) (hT : LibW w) :
    Calls Tryd.prog 3 #[v0, .string s1] w fun e w' => e = .returned (.bool true) ∧ Below w.heap.size w w' := by
  obtain ⟨p0, q0, rfl⟩ := slW.form g0
  have HLW := Lib.hid hT
  clear hT
  by_cases n0 : l0.length ≤ 1048576
  case neg =>
    go_enter Tryd.func3, Tryd.ntmps3
    go_wp2
    go_ret
    exact ⟨rfl, Below.refl _ _⟩
  by_cases n1 : s1.size ≤ 1048576
  case neg =>
    go_enter Tryd.func3, Tryd.ntmps3
    go_wp2
    go_ret
    exact ⟨rfl, Below.refl _ _⟩
  have rd0 : decide (l0 = l0) = true := by simp
  go_enter Tryd.func3, Tryd.ntmps3
  go_wp2_with fail
  refine (toIntS_any _ l0 _ (intsV.below' g0 ?_) n0).mono ?_
  · (repeat (first | exact Below.refl _ _ | refine ba ?_))
  rintro e w1 ⟨dv, df, rfl, dh_1, dr, hb1⟩
  obtain ⟨da, dc, rfl⟩ := slR.form dh_1
  have D1 : Below w.heap.size w w1 := bt (by (repeat (first | exact Below.refl _ _ | refine ba ?_ | refine bdr ?_))) hb1
  have B1 : Below w.heap.size w w1 := D1
  go_wp2_with fail
  refine (specParseMethod_any _ l0 _ s1 _ (dh_1.below' (by (repeat (first | exact Below.refl _ _ | refine ba ?_ | refine bdr ?_)))) n1).mono ?_
  rintro e w2 ⟨x, k, wvinputs, wfinputs, rfl, wI, whinputs_2, wr, hb2⟩
  have HI := Lib.hid wI
  clear wI
  obtain ⟨wainputs, wcinputs, rfl⟩ := slR.form whinputs_2
  have D2 : Below w1.heap.size w1 w2 := bt (by (repeat (first | exact Below.refl _ _ | refine ba ?_ | refine bdr ?_))) hb2
  have B2 : Below w.heap.size w w2 := bt B1 D2
  have dh_2 := dh_1.below' D2
  clear dh_1
  have rr : decide (x = x) = true := by simp
  have wzinputs : ∀ g ∈ wfinputs, g < w2.heap.size := whinputs_2.lt
  have rk : (k != k) = false := by simp
  have sminputs := MethIs.small HI.out (by simpa using n1)
  go_wp2_with fail
  refine (toIntS_any _ l0 _ (intsV.below' g0 ?_) n0).mono ?_
  · (repeat (first | exact B2 | refine ba ?_))
  rintro e w3 ⟨ev, ef, rfl, eh_3, er, hb3⟩
  obtain ⟨ea, ec, rfl⟩ := slR.form eh_3
  have D3 : Below w2.heap.size w2 w3 := bt (by (repeat (first | exact Below.refl _ _ | refine ba ?_ | refine bdr ?_))) hb3
  have B3 : Below w.heap.size w w3 := bt B2 D3
  have whinputs_3 := whinputs_2.below' D3
  clear whinputs_2
  have bw0_3 : w3.cell? ⟨w2.heap.size, 0, none⟩ = some (.int .i64 x.rel) := cell_below (cell_new _ _ _ 0 _ rfl) hb3
  have bw1_3 : w3.cell? ⟨w2.heap.size, 1, none⟩ = some ((.slice wainputs x.inputs.length wcinputs)) := cell_below (cell_new _ _ _ 1 _ rfl) hb3
  have bw2_3 : w3.cell? ⟨w2.heap.size, 2, none⟩ = some (.int .i64 x.limit) := cell_below (cell_new _ _ _ 2 _ rfl) hb3
  have bw3_3 : w3.cell? ⟨w2.heap.size, 3, none⟩ = some (.int .i64 x.cost) := cell_below (cell_new _ _ _ 3 _ rfl) hb3
  have bw4_3 : w3.cell? ⟨w2.heap.size, 4, none⟩ = some (.int .i64 x.quota) := cell_below (cell_new _ _ _ 4 _ rfl) hb3
  have z23 : w2.heap.size + 1 ≤ w3.heap.size := by have h9 := hb3.size; simp only [World.alloc, Array.size_push] at h9; omega
  have ez : ∀ g ∈ ef, w2.heap.size + 1 ≤ g := fun g hg => by have h9 := er.2 g hg; simp only [World.alloc, Array.size_push] at h9; omega
  have el : ∀ g ∈ ef, g < w3.heap.size := eh_3.lt
  have wlinputs : ∀ g ∈ wfinputs, g < w3.heap.size := whinputs_3.lt
  go_wp2_with fail
  refine (implParseMethod_any _ l0 _ s1 _ (eh_3.below' (by (repeat (first | exact Below.refl _ _ | refine ba ?_ | refine bdr ?_)))) n1 (HLW.out.on (bt B3 (by (repeat (first | exact Below.refl _ _ | refine ba ?_ | refine bdr ?_)))))).mono ?_
  rintro e w4 ⟨x', k', gvinputs, gfinputs, rfl, gI, ghinputs_4, gr, hb4⟩
  obtain ⟨rfl, rfl⟩ := HI.out.one gI
  clear gI
  obtain ⟨gainputs, gcinputs, rfl⟩ := slR.form ghinputs_4
  have D4 : Below w3.heap.size w3 w4 := bt (by (repeat (first | exact Below.refl _ _ | refine ba ?_ | refine bdr ?_))) hb4
  have B4 : Below w.heap.size w w4 := bt B3 D4
  have whinputs_4 := whinputs_3.below' D4
  have bw0_4 : w4.cell? ⟨w2.heap.size, 0, none⟩ = some (.int .i64 x.rel) := cell_below bw0_3 D4
  have bw1_4 : w4.cell? ⟨w2.heap.size, 1, none⟩ = some ((.slice wainputs x.inputs.length wcinputs)) := cell_below bw1_3 D4
  have bw2_4 : w4.cell? ⟨w2.heap.size, 2, none⟩ = some (.int .i64 x.limit) := cell_below bw2_3 D4
  have bw3_4 : w4.cell? ⟨w2.heap.size, 3, none⟩ = some (.int .i64 x.cost) := cell_below bw3_3 D4
  have bw4_4 : w4.cell? ⟨w2.heap.size, 4, none⟩ = some (.int .i64 x.quota) := cell_below bw4_3 D4
  have eh_4 := eh_3.below' D4
  clear whinputs_3 bw0_3 bw1_3 bw2_3 bw3_3 bw4_3 eh_3
  have z34 := D4.size
  have glinputs : ∀ g ∈ gfinputs, g < w4.heap.size := ghinputs_4.lt
  have gzinputs : ∀ g ∈ gfinputs, w3.heap.size ≤ g := fun g hg => gr.2 g (by simp [hg])
  have bw0n := fun o => cell_al bw0_4 o
  have bw1n := fun o => cell_al bw1_4 o
  have bw2n := fun o => cell_al bw2_4 o
  have bw3n := fun o => cell_al bw3_4 o
  have bw4n := fun o => cell_al bw4_4 o
  go_wp2_with fail
  refine (eqMethod_any x x _ _ _ _ _ (ghinputs_4.below' (by (repeat (first | exact Below.refl _ _ | refine ba ?_ | refine bdr ?_)))) (whinputs_4.below' (by (repeat (first | exact Below.refl _ _ | refine ba ?_ | refine bdr ?_))))).mono ?_
  rintro e w5 ⟨rfl, hb5⟩
  clear bw0n bw1n bw2n bw3n bw4n
  have D5 : Below w4.heap.size w4 w5 := bt (by (repeat (first | exact Below.refl _ _ | refine ba ?_ | refine bdr ?_))) hb5
  have B5 : Below w.heap.size w w5 := bt B4 D5
  have whinputs_5 := whinputs_4.below' D5
  have bw0_5 : w5.cell? ⟨w2.heap.size, 0, none⟩ = some (.int .i64 x.rel) := cell_below bw0_4 D5
  have bw1_5 : w5.cell? ⟨w2.heap.size, 1, none⟩ = some ((.slice wainputs x.inputs.length wcinputs)) := cell_below bw1_4 D5
  have bw2_5 : w5.cell? ⟨w2.heap.size, 2, none⟩ = some (.int .i64 x.limit) := cell_below bw2_4 D5
  have bw3_5 : w5.cell? ⟨w2.heap.size, 3, none⟩ = some (.int .i64 x.cost) := cell_below bw3_4 D5
  have bw4_5 : w5.cell? ⟨w2.heap.size, 4, none⟩ = some (.int .i64 x.quota) := cell_below bw4_4 D5
  have eh_5 := eh_4.below' D5
  have ghinputs_5 := ghinputs_4.below' D5
  clear whinputs_4 bw0_4 bw1_4 bw2_4 bw3_4 bw4_4 eh_4 ghinputs_4
  have bg0_5 : w5.cell? ⟨w4.heap.size, 0, none⟩ = some (.int .i64 x.rel) := cell_below (cell_new _ _ _ 0 _ rfl) hb5
  have bg1_5 : w5.cell? ⟨w4.heap.size, 1, none⟩ = some ((.slice gainputs x.inputs.length gcinputs)) := cell_below (cell_new _ _ _ 1 _ rfl) hb5
  have bg2_5 : w5.cell? ⟨w4.heap.size, 2, none⟩ = some (.int .i64 x.limit) := cell_below (cell_new _ _ _ 2 _ rfl) hb5
  have bg3_5 : w5.cell? ⟨w4.heap.size, 3, none⟩ = some (.int .i64 x.cost) := cell_below (cell_new _ _ _ 3 _ rfl) hb5
  have bg4_5 : w5.cell? ⟨w4.heap.size, 4, none⟩ = some (.int .i64 x.quota) := cell_below (cell_new _ _ _ 4 _ rfl) hb5
  go_wp2_with fail
  refine (toIntS_any _ l0 _ (intsV.below' g0 ?_) n0).mono ?_
  · (repeat (first | exact B5 | refine ba ?_))
  rintro e w6 ⟨tv, tf, rfl, th_6, tr, hb6⟩
  obtain ⟨ta, tc, rfl⟩ := slR.form th_6
  have D6 : Below w5.heap.size w5 w6 := bt (by (repeat (first | exact Below.refl _ _ | refine ba ?_ | refine bdr ?_))) hb6
  have B6 : Below w.heap.size w w6 := bt B5 D6
  have whinputs_6 := whinputs_5.below' D6
  have bw0_6 : w6.cell? ⟨w2.heap.size, 0, none⟩ = some (.int .i64 x.rel) := cell_below bw0_5 D6
  have bw1_6 : w6.cell? ⟨w2.heap.size, 1, none⟩ = some ((.slice wainputs x.inputs.length wcinputs)) := cell_below bw1_5 D6
  have bw2_6 : w6.cell? ⟨w2.heap.size, 2, none⟩ = some (.int .i64 x.limit) := cell_below bw2_5 D6
  have bw3_6 : w6.cell? ⟨w2.heap.size, 3, none⟩ = some (.int .i64 x.cost) := cell_below bw3_5 D6
  have bw4_6 : w6.cell? ⟨w2.heap.size, 4, none⟩ = some (.int .i64 x.quota) := cell_below bw4_5 D6
  have eh_6 := eh_5.below' D6
  have ghinputs_6 := ghinputs_5.below' D6
  have bg0_6 : w6.cell? ⟨w4.heap.size, 0, none⟩ = some (.int .i64 x.rel) := cell_below bg0_5 D6
  have bg1_6 : w6.cell? ⟨w4.heap.size, 1, none⟩ = some ((.slice gainputs x.inputs.length gcinputs)) := cell_below bg1_5 D6
  have bg2_6 : w6.cell? ⟨w4.heap.size, 2, none⟩ = some (.int .i64 x.limit) := cell_below bg2_5 D6
  have bg3_6 : w6.cell? ⟨w4.heap.size, 3, none⟩ = some (.int .i64 x.cost) := cell_below bg3_5 D6
  have bg4_6 : w6.cell? ⟨w4.heap.size, 4, none⟩ = some (.int .i64 x.quota) := cell_below bg4_5 D6
  clear whinputs_5 bw0_5 bw1_5 bw2_5 bw3_5 bw4_5 eh_5 ghinputs_5 bg0_5 bg1_5 bg2_5 bg3_5 bg4_5
  go_wp2_with fail
  refine (eqIntS_any _ _ l0 l0 _ _ _ (eh_6.below' (by (repeat (first | exact Below.refl _ _ | refine ba ?_ | refine bdr ?_)))) (th_6.below' (by (repeat (first | exact Below.refl _ _ | refine ba ?_ | refine bdr ?_))))).mono ?_
  rintro e w7 ⟨rfl, hb7⟩
  have D7 : Below w6.heap.size w6 w7 := bt (by (repeat (first | exact Below.refl _ _ | refine ba ?_ | refine bdr ?_))) hb7
  have B7 : Below w.heap.size w w7 := bt B6 D7
  have whinputs_7 := whinputs_6.below' D7
  have bw0_7 : w7.cell? ⟨w2.heap.size, 0, none⟩ = some (.int .i64 x.rel) := cell_below bw0_6 D7
  have bw1_7 : w7.cell? ⟨w2.heap.size, 1, none⟩ = some ((.slice wainputs x.inputs.length wcinputs)) := cell_below bw1_6 D7
  have bw2_7 : w7.cell? ⟨w2.heap.size, 2, none⟩ = some (.int .i64 x.limit) := cell_below bw2_6 D7
  have bw3_7 : w7.cell? ⟨w2.heap.size, 3, none⟩ = some (.int .i64 x.cost) := cell_below bw3_6 D7
  have bw4_7 : w7.cell? ⟨w2.heap.size, 4, none⟩ = some (.int .i64 x.quota) := cell_below bw4_6 D7
  have eh_7 := eh_6.below' D7
  have ghinputs_7 := ghinputs_6.below' D7
  have bg0_7 : w7.cell? ⟨w4.heap.size, 0, none⟩ = some (.int .i64 x.rel) := cell_below bg0_6 D7
  have bg1_7 : w7.cell? ⟨w4.heap.size, 1, none⟩ = some ((.slice gainputs x.inputs.length gcinputs)) := cell_below bg1_6 D7
  have bg2_7 : w7.cell? ⟨w4.heap.size, 2, none⟩ = some (.int .i64 x.limit) := cell_below bg2_6 D7
  have bg3_7 : w7.cell? ⟨w4.heap.size, 3, none⟩ = some (.int .i64 x.cost) := cell_below bg3_6 D7
  have bg4_7 : w7.cell? ⟨w4.heap.size, 4, none⟩ = some (.int .i64 x.quota) := cell_below bg4_6 D7
  have th_7 := th_6.below' D7
  clear whinputs_6 bw0_6 bw1_6 bw2_6 bw3_6 bw4_6 eh_6 ghinputs_6 bg0_6 bg1_6 bg2_6 bg3_6 bg4_6 th_6
  go_wp2_with fail
  refine (markIntS_any _ l0 _ 1 _ (eh_7.below' (by (repeat (first | exact Below.refl _ _ | refine ba ?_ | refine bdr ?_)))) ⟨by omega, by omega⟩ (by omega)).mono ?_
  rintro e w8 ⟨rfl, em_8, hw8⟩
  have B8 : Below w.heap.size w w8 := bw B7 hw8 (fun g hg => by have h1 := ez g hg; have h2 := B2.size; omega)
  have whinputs_8 := ints.frame whinputs_7 fun g hg => hw8.block g (whinputs_7.lt g hg) (fun hm => by have h1 := wzinputs g hg; have h2 := ez g hm; omega)
  have bw0_8 : w8.cell? ⟨w2.heap.size, 0, none⟩ = some (.int .i64 x.rel) := (hw8.cellAt (lt_of_cell bw0_7) (fun hg => by have h1 := ez _ hg; omega)).trans bw0_7
  have bw1_8 : w8.cell? ⟨w2.heap.size, 1, none⟩ = some ((.slice wainputs x.inputs.length wcinputs)) := (hw8.cellAt (lt_of_cell bw1_7) (fun hg => by have h1 := ez _ hg; omega)).trans bw1_7
  have bw2_8 : w8.cell? ⟨w2.heap.size, 2, none⟩ = some (.int .i64 x.limit) := (hw8.cellAt (lt_of_cell bw2_7) (fun hg => by have h1 := ez _ hg; omega)).trans bw2_7
  have bw3_8 : w8.cell? ⟨w2.heap.size, 3, none⟩ = some (.int .i64 x.cost) := (hw8.cellAt (lt_of_cell bw3_7) (fun hg => by have h1 := ez _ hg; omega)).trans bw3_7
  have bw4_8 : w8.cell? ⟨w2.heap.size, 4, none⟩ = some (.int .i64 x.quota) := (hw8.cellAt (lt_of_cell bw4_7) (fun hg => by have h1 := ez _ hg; omega)).trans bw4_7
  have ghinputs_8 := ints.frame ghinputs_7 fun g hg => hw8.block g (ghinputs_7.lt g hg) (fun hm => by have h1 := gzinputs g hg; have h2 := el g hm; omega)
  have bg0_8 : w8.cell? ⟨w4.heap.size, 0, none⟩ = some (.int .i64 x.rel) := (hw8.cellAt (lt_of_cell bg0_7) (fun hg => by have h1 := el _ hg; omega)).trans bg0_7
  have bg1_8 : w8.cell? ⟨w4.heap.size, 1, none⟩ = some ((.slice gainputs x.inputs.length gcinputs)) := (hw8.cellAt (lt_of_cell bg1_7) (fun hg => by have h1 := el _ hg; omega)).trans bg1_7
  have bg2_8 : w8.cell? ⟨w4.heap.size, 2, none⟩ = some (.int .i64 x.limit) := (hw8.cellAt (lt_of_cell bg2_7) (fun hg => by have h1 := el _ hg; omega)).trans bg2_7
  have bg3_8 : w8.cell? ⟨w4.heap.size, 3, none⟩ = some (.int .i64 x.cost) := (hw8.cellAt (lt_of_cell bg3_7) (fun hg => by have h1 := el _ hg; omega)).trans bg3_7
  have bg4_8 : w8.cell? ⟨w4.heap.size, 4, none⟩ = some (.int .i64 x.quota) := (hw8.cellAt (lt_of_cell bg4_7) (fun hg => by have h1 := el _ hg; omega)).trans bg4_7
  clear whinputs_7 bw0_7 bw1_7 bw2_7 bw3_7 bw4_7 eh_7 ghinputs_7 bg0_7 bg1_7 bg2_7 bg3_7 bg4_7
  go_wp2_with fail
  refine (eqMethod_any x x _ _ _ _ _ (ghinputs_8.below' (by (repeat (first | exact Below.refl _ _ | refine ba ?_ | refine bdr ?_)))) (whinputs_8.below' (by (repeat (first | exact Below.refl _ _ | refine ba ?_ | refine bdr ?_))))).mono ?_
  rintro e w9 ⟨rfl, hb9⟩
  have D9 : Below w8.heap.size w8 w9 := bt (by (repeat (first | exact Below.refl _ _ | refine ba ?_ | refine bdr ?_))) hb9
  have B9 : Below w.heap.size w w9 := bt B8 D9
  have whinputs_9 := whinputs_8.below' D9
  have bw0_9 : w9.cell? ⟨w2.heap.size, 0, none⟩ = some (.int .i64 x.rel) := cell_below bw0_8 D9
  have bw1_9 : w9.cell? ⟨w2.heap.size, 1, none⟩ = some ((.slice wainputs x.inputs.length wcinputs)) := cell_below bw1_8 D9
  have bw2_9 : w9.cell? ⟨w2.heap.size, 2, none⟩ = some (.int .i64 x.limit) := cell_below bw2_8 D9
  have bw3_9 : w9.cell? ⟨w2.heap.size, 3, none⟩ = some (.int .i64 x.cost) := cell_below bw3_8 D9
  have bw4_9 : w9.cell? ⟨w2.heap.size, 4, none⟩ = some (.int .i64 x.quota) := cell_below bw4_8 D9
  have ghinputs_9 := ghinputs_8.below' D9
  have bg0_9 : w9.cell? ⟨w4.heap.size, 0, none⟩ = some (.int .i64 x.rel) := cell_below bg0_8 D9
  have bg1_9 : w9.cell? ⟨w4.heap.size, 1, none⟩ = some ((.slice gainputs x.inputs.length gcinputs)) := cell_below bg1_8 D9
  have bg2_9 : w9.cell? ⟨w4.heap.size, 2, none⟩ = some (.int .i64 x.limit) := cell_below bg2_8 D9
  have bg3_9 : w9.cell? ⟨w4.heap.size, 3, none⟩ = some (.int .i64 x.cost) := cell_below bg3_8 D9
  have bg4_9 : w9.cell? ⟨w4.heap.size, 4, none⟩ = some (.int .i64 x.quota) := cell_below bg4_8 D9
  clear whinputs_8 bw0_8 bw1_8 bw2_8 bw3_8 bw4_8 ghinputs_8 bg0_8 bg1_8 bg2_8 bg3_8 bg4_8
  go_wp2_with fail
  refine (markMethod_any x _ _ 1 _ (ghinputs_9.below' (by (repeat (first | exact Below.refl _ _ | refine ba ?_ | refine bdr ?_)))) gr.1 (by omega) (by omega)).mono ?_
  rintro e w10 ⟨rfl, mhinputs_10, hw10⟩
  have gm : ∀ g ∈ gfinputs, g < w4.heap.size := fun g hg => by exact glinputs g hg
  have B10 : Below w.heap.size w w10 := bw B9 hw10 (fun g hg => by have h1 := gr.2 g hg; have h2 := B3.size; omega)
  have whinputs_10 := ints.frame whinputs_9 fun g hg => hw10.block g (whinputs_9.lt g hg) (fun hm => by have h1 := wlinputs g hg; have h2 := gr.2 g hm; omega)
  have bw0_10 : w10.cell? ⟨w2.heap.size, 0, none⟩ = some (.int .i64 x.rel) := (hw10.cellAt (lt_of_cell bw0_9) (fun hg => by have h1 := gr.2 _ hg; omega)).trans bw0_9
  have bw1_10 : w10.cell? ⟨w2.heap.size, 1, none⟩ = some ((.slice wainputs x.inputs.length wcinputs)) := (hw10.cellAt (lt_of_cell bw1_9) (fun hg => by have h1 := gr.2 _ hg; omega)).trans bw1_9
  have bw2_10 : w10.cell? ⟨w2.heap.size, 2, none⟩ = some (.int .i64 x.limit) := (hw10.cellAt (lt_of_cell bw2_9) (fun hg => by have h1 := gr.2 _ hg; omega)).trans bw2_9
  have bw3_10 : w10.cell? ⟨w2.heap.size, 3, none⟩ = some (.int .i64 x.cost) := (hw10.cellAt (lt_of_cell bw3_9) (fun hg => by have h1 := gr.2 _ hg; omega)).trans bw3_9
  have bw4_10 : w10.cell? ⟨w2.heap.size, 4, none⟩ = some (.int .i64 x.quota) := (hw10.cellAt (lt_of_cell bw4_9) (fun hg => by have h1 := gr.2 _ hg; omega)).trans bw4_9
  have bg0_10 : w10.cell? ⟨w4.heap.size, 0, none⟩ = some (.int .i64 x.rel) := (hw10.cellAt (lt_of_cell bg0_9) (fun hg => by have h1 := gm _ hg; omega)).trans bg0_9
  have bg1_10 : w10.cell? ⟨w4.heap.size, 1, none⟩ = some ((.slice gainputs x.inputs.length gcinputs)) := (hw10.cellAt (lt_of_cell bg1_9) (fun hg => by have h1 := gm _ hg; omega)).trans bg1_9
  have bg2_10 : w10.cell? ⟨w4.heap.size, 2, none⟩ = some (.int .i64 x.limit) := (hw10.cellAt (lt_of_cell bg2_9) (fun hg => by have h1 := gm _ hg; omega)).trans bg2_9
  have bg3_10 : w10.cell? ⟨w4.heap.size, 3, none⟩ = some (.int .i64 x.cost) := (hw10.cellAt (lt_of_cell bg3_9) (fun hg => by have h1 := gm _ hg; omega)).trans bg3_9
  have bg4_10 : w10.cell? ⟨w4.heap.size, 4, none⟩ = some (.int .i64 x.quota) := (hw10.cellAt (lt_of_cell bg4_9) (fun hg => by have h1 := gm _ hg; omega)).trans bg4_9
  clear whinputs_9 bw0_9 bw1_9 bw2_9 bw3_9 bw4_9 ghinputs_9 bg0_9 bg1_9 bg2_9 bg3_9 bg4_9
  go_wp2_with fail
  refine (heldMethod_any x _ _ _ _ _ _ 1 _ (mhinputs_10.below' (by (repeat (first | exact Below.refl _ _ | refine ba ?_ | refine bdr ?_)))) (by omega) (by omega)).mono ?_
  rintro e w11 ⟨rfl, hb11⟩
  have D11 : Below w10.heap.size w10 w11 := bt (by (repeat (first | exact Below.refl _ _ | refine ba ?_ | refine bdr ?_))) hb11
  have B11 : Below w.heap.size w w11 := bt B10 D11
  have whinputs_11 := whinputs_10.below' D11
  have bw0_11 : w11.cell? ⟨w2.heap.size, 0, none⟩ = some (.int .i64 x.rel) := cell_below bw0_10 D11
  have bw1_11 : w11.cell? ⟨w2.heap.size, 1, none⟩ = some ((.slice wainputs x.inputs.length wcinputs)) := cell_below bw1_10 D11
  have bw2_11 : w11.cell? ⟨w2.heap.size, 2, none⟩ = some (.int .i64 x.limit) := cell_below bw2_10 D11
  have bw3_11 : w11.cell? ⟨w2.heap.size, 3, none⟩ = some (.int .i64 x.cost) := cell_below bw3_10 D11
  have bw4_11 : w11.cell? ⟨w2.heap.size, 4, none⟩ = some (.int .i64 x.quota) := cell_below bw4_10 D11
  have bg0_11 : w11.cell? ⟨w4.heap.size, 0, none⟩ = some (.int .i64 x.rel) := cell_below bg0_10 D11
  have bg1_11 : w11.cell? ⟨w4.heap.size, 1, none⟩ = some ((.slice gainputs x.inputs.length gcinputs)) := cell_below bg1_10 D11
  have bg2_11 : w11.cell? ⟨w4.heap.size, 2, none⟩ = some (.int .i64 x.limit) := cell_below bg2_10 D11
  have bg3_11 : w11.cell? ⟨w4.heap.size, 3, none⟩ = some (.int .i64 x.cost) := cell_below bg3_10 D11
  have bg4_11 : w11.cell? ⟨w4.heap.size, 4, none⟩ = some (.int .i64 x.quota) := cell_below bg4_10 D11
  have mhinputs_11 := mhinputs_10.below' D11
  clear whinputs_10 bw0_10 bw1_10 bw2_10 bw3_10 bw4_10 bg0_10 bg1_10 bg2_10 bg3_10 bg4_10 mhinputs_10
  go_wp2_with fail
  refine (toIntS_any _ l0 _ (intsV.below' g0 ?_) n0).mono ?_
  · (repeat (first | exact B11 | refine ba ?_))
  rintro e w12 ⟨uv, uf, rfl, uh_12, ur, hb12⟩
  obtain ⟨ua, uc, rfl⟩ := slR.form uh_12
  have D12 : Below w11.heap.size w11 w12 := bt (by (repeat (first | exact Below.refl _ _ | refine ba ?_ | refine bdr ?_))) hb12
  have B12 : Below w.heap.size w w12 := bt B11 D12
  have whinputs_12 := whinputs_11.below' D12
  have bw0_12 : w12.cell? ⟨w2.heap.size, 0, none⟩ = some (.int .i64 x.rel) := cell_below bw0_11 D12
  have bw1_12 : w12.cell? ⟨w2.heap.size, 1, none⟩ = some ((.slice wainputs x.inputs.length wcinputs)) := cell_below bw1_11 D12
  have bw2_12 : w12.cell? ⟨w2.heap.size, 2, none⟩ = some (.int .i64 x.limit) := cell_below bw2_11 D12
  have bw3_12 : w12.cell? ⟨w2.heap.size, 3, none⟩ = some (.int .i64 x.cost) := cell_below bw3_11 D12
  have bw4_12 : w12.cell? ⟨w2.heap.size, 4, none⟩ = some (.int .i64 x.quota) := cell_below bw4_11 D12
  have bg0_12 : w12.cell? ⟨w4.heap.size, 0, none⟩ = some (.int .i64 x.rel) := cell_below bg0_11 D12
  have bg1_12 : w12.cell? ⟨w4.heap.size, 1, none⟩ = some ((.slice gainputs x.inputs.length gcinputs)) := cell_below bg1_11 D12
  have bg2_12 : w12.cell? ⟨w4.heap.size, 2, none⟩ = some (.int .i64 x.limit) := cell_below bg2_11 D12
  have bg3_12 : w12.cell? ⟨w4.heap.size, 3, none⟩ = some (.int .i64 x.cost) := cell_below bg3_11 D12
  have bg4_12 : w12.cell? ⟨w4.heap.size, 4, none⟩ = some (.int .i64 x.quota) := cell_below bg4_11 D12
  have mhinputs_12 := mhinputs_11.below' D12
  clear whinputs_11 bw0_11 bw1_11 bw2_11 bw3_11 bw4_11 bg0_11 bg1_11 bg2_11 bg3_11 bg4_11 mhinputs_11
  go_wp2_with fail
  refine (implParseMethod_any _ l0 _ s1 _ (uh_12.below' (by (repeat (first | exact Below.refl _ _ | refine ba ?_ | refine bdr ?_)))) n1 (HLW.out.on (bt B12 (by (repeat (first | exact Below.refl _ _ | refine ba ?_ | refine bdr ?_)))))).mono ?_
  rintro e w13 ⟨x', k', hvinputs, hfinputs, rfl, hI, hhinputs_13, hr, hb13⟩
  obtain ⟨rfl, rfl⟩ := HI.out.one hI
  clear hI
  obtain ⟨hainputs, hcinputs, rfl⟩ := slR.form hhinputs_13
  have D13 : Below w12.heap.size w12 w13 := bt (by (repeat (first | exact Below.refl _ _ | refine ba ?_ | refine bdr ?_))) hb13
  have B13 : Below w.heap.size w w13 := bt B12 D13
  have whinputs_13 := whinputs_12.below' D13
  have bw0_13 : w13.cell? ⟨w2.heap.size, 0, none⟩ = some (.int .i64 x.rel) := cell_below bw0_12 D13
  have bw1_13 : w13.cell? ⟨w2.heap.size, 1, none⟩ = some ((.slice wainputs x.inputs.length wcinputs)) := cell_below bw1_12 D13
  have bw2_13 : w13.cell? ⟨w2.heap.size, 2, none⟩ = some (.int .i64 x.limit) := cell_below bw2_12 D13
  have bw3_13 : w13.cell? ⟨w2.heap.size, 3, none⟩ = some (.int .i64 x.cost) := cell_below bw3_12 D13
  have bw4_13 : w13.cell? ⟨w2.heap.size, 4, none⟩ = some (.int .i64 x.quota) := cell_below bw4_12 D13
  have bg0_13 : w13.cell? ⟨w4.heap.size, 0, none⟩ = some (.int .i64 x.rel) := cell_below bg0_12 D13
  have bg1_13 : w13.cell? ⟨w4.heap.size, 1, none⟩ = some ((.slice gainputs x.inputs.length gcinputs)) := cell_below bg1_12 D13
  have bg2_13 : w13.cell? ⟨w4.heap.size, 2, none⟩ = some (.int .i64 x.limit) := cell_below bg2_12 D13
  have bg3_13 : w13.cell? ⟨w4.heap.size, 3, none⟩ = some (.int .i64 x.cost) := cell_below bg3_12 D13
  have bg4_13 : w13.cell? ⟨w4.heap.size, 4, none⟩ = some (.int .i64 x.quota) := cell_below bg4_12 D13
  have mhinputs_13 := mhinputs_12.below' D13
  have uh_13 := uh_12.below' D13
  clear whinputs_12 bw0_12 bw1_12 bw2_12 bw3_12 bw4_12 bg0_12 bg1_12 bg2_12 bg3_12 bg4_12 mhinputs_12 uh_12
  have bw0n := fun o => cell_al bw0_13 o
  have bw1n := fun o => cell_al bw1_13 o
  have bw2n := fun o => cell_al bw2_13 o
  have bw3n := fun o => cell_al bw3_13 o
  have bw4n := fun o => cell_al bw4_13 o
  have bg0n := fun o => cell_al bg0_13 o
  have bg1n := fun o => cell_al bg1_13 o
  have bg2n := fun o => cell_al bg2_13 o
  have bg3n := fun o => cell_al bg3_13 o
  have bg4n := fun o => cell_al bg4_13 o
  go_wp2_with fail
  refine (eqMethod_any x x _ _ _ _ _ (hhinputs_13.below' (by (repeat (first | exact Below.refl _ _ | refine ba ?_ | refine bdr ?_)))) (whinputs_13.below' (by (repeat (first | exact Below.refl _ _ | refine ba ?_ | refine bdr ?_))))).mono ?_
  rintro e w14 ⟨rfl, hb14⟩
  clear bw0n bw1n bw2n bw3n bw4n bg0n bg1n bg2n bg3n bg4n
  have D14 : Below w13.heap.size w13 w14 := bt (by (repeat (first | exact Below.refl _ _ | refine ba ?_ | refine bdr ?_))) hb14
  have B14 : Below w.heap.size w w14 := bt B13 D14
  have whinputs_14 := whinputs_13.below' D14
  have bw0_14 : w14.cell? ⟨w2.heap.size, 0, none⟩ = some (.int .i64 x.rel) := cell_below bw0_13 D14
  have bw1_14 : w14.cell? ⟨w2.heap.size, 1, none⟩ = some ((.slice wainputs x.inputs.length wcinputs)) := cell_below bw1_13 D14
  have bw2_14 : w14.cell? ⟨w2.heap.size, 2, none⟩ = some (.int .i64 x.limit) := cell_below bw2_13 D14
  have bw3_14 : w14.cell? ⟨w2.heap.size, 3, none⟩ = some (.int .i64 x.cost) := cell_below bw3_13 D14
  have bw4_14 : w14.cell? ⟨w2.heap.size, 4, none⟩ = some (.int .i64 x.quota) := cell_below bw4_13 D14
  have bg0_14 : w14.cell? ⟨w4.heap.size, 0, none⟩ = some (.int .i64 x.rel) := cell_below bg0_13 D14
  have bg1_14 : w14.cell? ⟨w4.heap.size, 1, none⟩ = some ((.slice gainputs x.inputs.length gcinputs)) := cell_below bg1_13 D14
  have bg2_14 : w14.cell? ⟨w4.heap.size, 2, none⟩ = some (.int .i64 x.limit) := cell_below bg2_13 D14
  have bg3_14 : w14.cell? ⟨w4.heap.size, 3, none⟩ = some (.int .i64 x.cost) := cell_below bg3_13 D14
  have bg4_14 : w14.cell? ⟨w4.heap.size, 4, none⟩ = some (.int .i64 x.quota) := cell_below bg4_13 D14
  have mhinputs_14 := mhinputs_13.below' D14
  have hhinputs_14 := hhinputs_13.below' D14
  clear whinputs_13 bw0_13 bw1_13 bw2_13 bw3_13 bw4_13 bg0_13 bg1_13 bg2_13 bg3_13 bg4_13 mhinputs_13 hhinputs_13
  have bh0_14 : w14.cell? ⟨w13.heap.size, 0, none⟩ = some (.int .i64 x.rel) := cell_below (cell_new _ _ _ 0 _ rfl) hb14
  have bh1_14 : w14.cell? ⟨w13.heap.size, 1, none⟩ = some ((.slice hainputs x.inputs.length hcinputs)) := cell_below (cell_new _ _ _ 1 _ rfl) hb14
  have bh2_14 : w14.cell? ⟨w13.heap.size, 2, none⟩ = some (.int .i64 x.limit) := cell_below (cell_new _ _ _ 2 _ rfl) hb14
  have bh3_14 : w14.cell? ⟨w13.heap.size, 3, none⟩ = some (.int .i64 x.cost) := cell_below (cell_new _ _ _ 3 _ rfl) hb14
  have bh4_14 : w14.cell? ⟨w13.heap.size, 4, none⟩ = some (.int .i64 x.quota) := cell_below (cell_new _ _ _ 4 _ rfl) hb14
  go_wp2_with fail
  refine (heldMethod_any x _ _ _ _ _ _ 1 _ (mhinputs_14.below' (by (repeat (first | exact Below.refl _ _ | refine ba ?_ | refine bdr ?_)))) (by omega) (by omega)).mono ?_
  rintro e w15 ⟨rfl, hb15⟩
  have D15 : Below w14.heap.size w14 w15 := bt (by (repeat (first | exact Below.refl _ _ | refine ba ?_ | refine bdr ?_))) hb15
  have B15 : Below w.heap.size w w15 := bt B14 D15
  have whinputs_15 := whinputs_14.below' D15
  have bw0_15 : w15.cell? ⟨w2.heap.size, 0, none⟩ = some (.int .i64 x.rel) := cell_below bw0_14 D15
  have bw1_15 : w15.cell? ⟨w2.heap.size, 1, none⟩ = some ((.slice wainputs x.inputs.length wcinputs)) := cell_below bw1_14 D15
  have bw2_15 : w15.cell? ⟨w2.heap.size, 2, none⟩ = some (.int .i64 x.limit) := cell_below bw2_14 D15
  have bw3_15 : w15.cell? ⟨w2.heap.size, 3, none⟩ = some (.int .i64 x.cost) := cell_below bw3_14 D15
  have bw4_15 : w15.cell? ⟨w2.heap.size, 4, none⟩ = some (.int .i64 x.quota) := cell_below bw4_14 D15
  have bg0_15 : w15.cell? ⟨w4.heap.size, 0, none⟩ = some (.int .i64 x.rel) := cell_below bg0_14 D15
  have bg1_15 : w15.cell? ⟨w4.heap.size, 1, none⟩ = some ((.slice gainputs x.inputs.length gcinputs)) := cell_below bg1_14 D15
  have bg2_15 : w15.cell? ⟨w4.heap.size, 2, none⟩ = some (.int .i64 x.limit) := cell_below bg2_14 D15
  have bg3_15 : w15.cell? ⟨w4.heap.size, 3, none⟩ = some (.int .i64 x.cost) := cell_below bg3_14 D15
  have bg4_15 : w15.cell? ⟨w4.heap.size, 4, none⟩ = some (.int .i64 x.quota) := cell_below bg4_14 D15
  have mhinputs_15 := mhinputs_14.below' D15
  have hhinputs_15 := hhinputs_14.below' D15
  have bh0_15 : w15.cell? ⟨w13.heap.size, 0, none⟩ = some (.int .i64 x.rel) := cell_below bh0_14 D15
  have bh1_15 : w15.cell? ⟨w13.heap.size, 1, none⟩ = some ((.slice hainputs x.inputs.length hcinputs)) := cell_below bh1_14 D15
  have bh2_15 : w15.cell? ⟨w13.heap.size, 2, none⟩ = some (.int .i64 x.limit) := cell_below bh2_14 D15
  have bh3_15 : w15.cell? ⟨w13.heap.size, 3, none⟩ = some (.int .i64 x.cost) := cell_below bh3_14 D15
  have bh4_15 : w15.cell? ⟨w13.heap.size, 4, none⟩ = some (.int .i64 x.quota) := cell_below bh4_14 D15
  clear whinputs_14 bw0_14 bw1_14 bw2_14 bw3_14 bw4_14 bg0_14 bg1_14 bg2_14 bg3_14 bg4_14 mhinputs_14 hhinputs_14 bh0_14 bh1_14 bh2_14 bh3_14 bh4_14
  go_wp2
  go_ret
  exact ⟨rfl, B15⟩
end Go.Proofs.YtojjojcmemifhaaDoor
