/- copyBinding of the program: a copy. Condition: lengths within 2^20. -/
import Derived.Test.YtapapnaljjnhnaaMatS
import Derived.Test.YtapapnaljjnhnaaCopyF
namespace Go.Proofs.Ytapapnaljjnhnaa
open Go.RowKit
set_option linter.unusedVariables false
set_option linter.unusedSimpArgs false
set_option maxRecDepth 100000 in
set_option maxHeartbeats 3200000 in
theorem copyBinding_any (vars vals : List Int) (vv va : Value) (fv fa : List Nat) (w : World) (hv : ints w vv vars fv) (ha : ints w va vals fa) (h1 : vars.length ≤ 1048576) (h2 : vals.length ≤ 1048576) :
    Calls Try.prog 26 #[.agg #[vv, va]] w (BnEnd vars vals w) := by
  obtain ⟨av, cv, rfl⟩ := slR.form hv
  obtain ⟨aa, ca, rfl⟩ := slR.form ha
  have hb0 : Below w.heap.size w ((w.alloc (.cells #[.slice av vars.length cv, .slice aa vals.length ca] 32)).alloc (.cells #[.slice none 0 0, .slice none 0 0] 32)) := ba (ba (Below.refl _ _))
  have s1 := size_al (w := w) (.cells #[.slice av vars.length cv, .slice aa vals.length ca] 32) rfl
  have s2 := size_al (.cells #[.slice none 0 0, .slice none 0 0] 32) s1
  have T1 : Two ((w.alloc (.cells #[.slice av vars.length cv, .slice aa vals.length ca] 32)).alloc (.cells #[.slice none 0 0, .slice none 0 0] 32)) w.heap.size (.slice av vars.length cv) (.slice aa vals.length ca) := (two_at 32 _ _ rfl).below (ba (Below.refl _ _))
  have T2 : Two ((w.alloc (.cells #[.slice av vars.length cv, .slice aa vals.length ca] 32)).alloc (.cells #[.slice none 0 0, .slice none 0 0] 32)) (w.heap.size + 1) (.slice none 0 0) (.slice none 0 0) := two_at 32 _ _ s1
  have hv2 := hv.below' hb0
  have ha2 := ha.below' hb0
  have T1' := T1
  obtain ⟨⟨a0, a1⟩, _, _⟩ := T1'
  have HT2 := Lib.hid T2
  clear T2
  go_enter Try.func26, Try.ntmps26
  go_wp2
  go_region_law (go_simp
                 go_wp2_with (first
                              | (go_at_call_of 34 (Value.slice av vars.length cv)
                                 refine (clone_any _ vars fv _ (hv2.below' ?_) h1).mono ?_
                                 · (repeat (first | exact Below.refl _ _ | refine bdr ?_))
                                 rintro e w3 ⟨v3, f3, rfl, i3, fr3', hb3'⟩
                                 have hb3 : Below ((w.alloc (.cells #[.slice av vars.length cv, .slice aa vals.length ca] 32)).alloc (.cells #[.slice none 0 0, .slice none 0 0] 32)).heap.size ((w.alloc (.cells #[.slice av vars.length cv, .slice aa vals.length ca] 32)).alloc (.cells #[.slice none 0 0, .slice none 0 0] 32)) w3 := bt (by (repeat (first | exact Below.refl _ _ | refine bdr ?_))) hb3'
                                 have fr3 : Fresh ((w.alloc (.cells #[.slice av vars.length cv, .slice aa vals.length ca] 32)).alloc (.cells #[.slice none 0 0, .slice none 0 0] 32)).heap.size f3 := fr3'
                                 have d0 : w3.cell? ⟨w.heap.size, 0, none⟩ = some (.slice av vars.length cv) := cell_below a0 hb3
                                 have d1 : w3.cell? ⟨w.heap.size, 1, none⟩ = some (.slice aa vals.length ca) := cell_below a1 hb3
                                 obtain ⟨p3, q3, rfl⟩ := slR.form i3)
                              | (go_at_call_of 34 (Value.slice aa vals.length ca)
                                 refine (clone_any _ vals fa _ (ha2.below' hb3) h2).mono ?_
                                 rintro e w4 ⟨v4, f4, rfl, i4, fr4, hb4⟩
                                 have hb24 : Below ((w.alloc (.cells #[.slice av vars.length cv, .slice aa vals.length ca] 32)).alloc (.cells #[.slice none 0 0, .slice none 0 0] 32)).heap.size ((w.alloc (.cells #[.slice av vars.length cv, .slice aa vals.length ca] 32)).alloc (.cells #[.slice none 0 0, .slice none 0 0] 32)) w4 := bt hb3 hb4
                                 have HT4 := Lib.hid (HT2.out.below hb24)
                                 have HT4' := HT4.out
                                 obtain ⟨⟨r0, r1⟩, z0, z1⟩ := HT4'
                                 have i34 := i3.below' hb4
                                 obtain ⟨p4, q4, rfl⟩ := slR.form i4)))
  all_goals
    have hne : ∀ g ∈ f3, g ∉ f4 := fun g hg hg2 => by have e1 := i3.lt g hg; have e2 := fr4.2 g hg2; omega
    have e3 := fun g hg => fr3.2 g hg
    have hs34 := hb3.size
    have Hfr := Lib.hid (show Fresh w.heap.size (f3 ++ f4) from ⟨List.nodup_append.2 ⟨fr3.1, fr4.1, fun a ha b hb e => by subst e; exact hne a ha hb⟩, fun g hg => (List.mem_append.1 hg).elim (fun h => by have := fr3.2 g h; rw [s2] at this; omega) (fun h => by have := fr4.2 g h; rw [s2] at hs34; omega)⟩)
    have Hn3 := Lib.hid (show w.heap.size + 1 ∉ f3 from fun hm => by have := fr3.2 _ hm; rw [s2] at this; omega)
    have Hn4 := Lib.hid (show w.heap.size + 1 ∉ f4 from fun hm => by have := fr4.2 _ hm; rw [s2] at hs34; omega)
    go_wp2
    (try simp only [Exit.inBlock, Exit.then])
    refine bodyPost_ret (v := .agg #[.slice p3 vars.length q3, .slice p4 vals.length q4]) ?_ rfl ?_
    · rw [results_cellB rfl]
      simp [asAddr, Result.andThen, Act.put, load_bind2 HT4.out]
    · exact BnEnd.mk _ _ _ _ rfl (ints_two2 i34 Hn3.out _ _) (ints_two2 i4 Hn4.out _ _) Hfr.out (below_two2 (bt hb0 hb24) (by omega) _ _)
end Go.Proofs.Ytapapnaljjnhnaa
