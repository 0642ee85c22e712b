/- What the finder of the program holds; slices.Clone of steps. Condition: lengths within 2^20. -/
import Derived.Test.YtpdmdfkcaabnaaaGreatSrchS
import Derived.Test.YtpdmdfkcaabnaaaGreatInsL
import Derived.Test.YtpdmdfkcaabnaaaGreatSX
import Derived.Test.YtpdmdfkcaabnaaaGreatOrdB
import Derived.Lib.SliceRun
namespace Go.Proofs.YtpdmdfkcaabnaaaGreat
open Go.RowKit
set_option linter.unusedVariables false
set_option linter.unusedSimpArgs false
/-- The row without its last step. -/
theorem grR.init {B : Nat} {w : World} {p : Option Addr} {c : Nat} {l : List StepD} {x : StepD} {f : List Nat} (h : grR 65 2 stepR B w (.slice p (l.length + 1) c) (l ++ [x]) f) : grR 65 2 stepR B w (.slice p l.length c) l f := by
  obtain ⟨rows, fs, ha, hlen, hown, rfl, hfr⟩ := h
  have hfl := all_flat step_flat ha
  have h1 := ha.take l.length
  rw [show (l ++ [x]).take l.length = l by simp] at h1
  have hfl1 := all_flat step_flat h1
  have hrl : rows.length = l.length + 1 := by have := ha.len.1; simpa using this
  have hlen1 : ∀ c ∈ rows.take l.length, c.length = 2 := fun c hc => hlen c (List.mem_of_mem_take hc)
  have ht := flat_take hlen (i := l.length) (by omega)
  refine ⟨rows.take l.length, fs.take l.length, h1, hlen1, ?_, by rw [hfl, hfl1]; cases p <;> rfl, hfr⟩
  have hl2 : (l ++ [x]).length = l.length + 1 := by simp
  rw [hl2] at hown
  refine ⟨by rw [flat_len _ hlen1, List.length_take]; omega, ?_⟩
  rcases hown.2 with ⟨_, h0⟩ | ⟨g, cap, cur, hv, hb, hg, r1, r2, r3, r4⟩
  · omega
  · cases hv
    refine .inr ⟨g, _, cur, rfl, hb, hg, by omega, r2, r3, ?_⟩
    rw [← ht, ← r4, List.take_take]
    congr 1
    omega
/-- A step more, in the form of the walk. -/
theorem steps_form {B : Nat} {w : World} {p : Option Addr} {c n : Nat} {l : List StepD} {f : List Nat} (h : grR 65 2 stepR B w (.slice p n c) l f) : n = l.length := by
  obtain ⟨a, b, e⟩ := slR.form h.sl
  cases e; rfl
/-- What the finder of the program holds, and the marks of what is done. -/
def FinE (l : List MethD) (ats : List AtomD) (B gx gd : Nat) (vl va : Value) (st best : List StepD) (fst fb : List Nat) (w : World) : Prop :=
  ∃ (ps pb : Option Addr) (cs cb : Nat) (ds : List Bool), Five w gx vl va (.slice ps st.length cs) (.slice pb best.length cb) (.int .i64 (sumC l best)) ∧ grR 65 2 stepR B w (.slice ps st.length cs) st fst ∧ steps w (.slice pb best.length cb) best fb ∧ pb.isNone = decide (best.length = 0) ∧
    Row w 4 1 (.slice (some ⟨gd, 0, none⟩) ats.length ats.length) ats.length (bcells ds) (some gd) ∧ (∀ a, a < ats.length → ds[a]? = some (memB (used st) (a : Int))) ∧ gx ∉ fst ∧ gx ∉ fb ∧ gd ∉ fst ∧ gd ∉ fb ∧ (∀ j ∈ fst, j ∉ fb) ∧ gx ≠ gd ∧ B ≤ gx ∧ B ≤ gd ∧ Fresh B fb
theorem FinE.sx {l : List MethD} {ats : List AtomD} {B gx gd : Nat} {vl va : Value} {st best : List StepD} {fst fb X : List Nat} {w w' : World} (h : FinE l ats B gx gd vl va st best fst fb w) (s : SX X w w') (hx : ∀ j ∈ X, j ≠ gx ∧ j ≠ gd ∧ j ∉ fst ∧ j ∉ fb) : FinE l ats B gx gd vl va st best fst fb w' := by
  obtain ⟨ps, pb, cs, cb, ds, F, G, S, hn, R, hd, h1, h2, h3, h4, h5, h6, h7, h8, h9⟩ := h
  refine ⟨ps, pb, cs, cb, ds, F.sx s (fun hm => (hx _ hm).1 rfl), G.frame good_step (fun j hj => s.2 j (G.lt good_step j hj) (fun hm => (hx _ hm).2.2.1 hj)), S.frame (fun j hj => s.2 j (S.lt j hj) (fun hm => (hx _ hm).2.2.2 hj)), hn, R.frame (fun g hg => ?_), hd, h1, h2, h3, h4, h5, h6, h7, h8, h9⟩
  cases hg
  exact s.2 gd (R.lt gd rfl) (fun hm => (hx _ hm).2.1 rfl)
theorem FinE.below {l : List MethD} {ats : List AtomD} {B gx gd : Nat} {vl va : Value} {st best : List StepD} {fst fb : List Nat} {w w' : World} (h : FinE l ats B gx gd vl va st best fst fb w) (hb : Below w.heap.size w w') : FinE l ats B gx gd vl va st best fst fb w' := h.sx (SX.of_below hb) (by simp)
/-- What a search of the program ends in. -/
def ExtE (l : List MethD) (ats : List AtomD) (B gx gd : Nat) (vl va : Value) (st best : List StepD) (fst : List Nat) (w : World) (w' : World) : Prop :=
  ∃ (fst' fb' : List Nat), FinE l ats B gx gd vl va st best fst' fb' w' ∧ SX (gx :: gd :: fst) w w' ∧ (∀ j ∈ fst', j ∈ fst ∨ w.heap.size ≤ j) ∧ Below B w w'
theorem ExtE.mk {l : List MethD} {ats : List AtomD} {B gx gd : Nat} {vl va : Value} {st best : List StepD} {fst : List Nat} {w w' : World} (fst' fb' : List Nat) (h1 : FinE l ats B gx gd vl va st best fst' fb' w') (h2 : SX (gx :: gd :: fst) w w') (h3 : ∀ j ∈ fst', j ∈ fst ∨ w.heap.size ≤ j) (h4 : Below B w w') : ExtE l ats B gx gd vl va st best fst w w' := ⟨fst', fb', h1, h2, h3, h4⟩
/-- One change behind another. -/
theorem SX.then {X Y : List Nat} {a b c : World} (h : SX X a b) (k : SX Y b c) (hy : ∀ j ∈ Y, j ∈ X ∨ a.heap.size ≤ j) : SX X a c :=
  ⟨Nat.le_trans h.1 k.1, fun j hj hn => (k.2 j (Nat.lt_of_lt_of_le hj h.1) (fun hm => (hy j hm).elim hn (fun h9 => by omega))).trans (h.2 j hj hn)⟩
theorem costB_at {l : List MethD} {m : Nat} (hm : m < l.length) (h : ∀ m ∈ l, 0 ≤ m.cost ∧ m.cost ≤ 99) : costB l (m : Int) = l[m].cost := by
  have hc := h l[m] (List.getElem_mem hm)
  exact costB_in (by unfold inR; simp; omega) hm (by unfold inR; simp; omega)
theorem used_set {st : List StepD} {ds : List Bool} {N k : Nat} (hk : k < N) (h : ∀ a, a < N → ds[a]? = some (memB (used st) (a : Int))) (m : Int) : ∀ a, a < N → (ds.set k true)[a]? = some (memB (used (st ++ [⟨(k : Int), m⟩])) (a : Int)) := by
  intro a ha
  have h1 := h a ha
  have hu : memB (used (st ++ [⟨(k : Int), m⟩])) (a : Int) = (memB (used st) (a : Int) || ((k : Int) == (a : Int))) := by
    have := used_take (st := st ++ [⟨(k : Int), m⟩]) (q := st.length) (by simp) (a : Int)
    rw [show (st ++ [(⟨(k : Int), m⟩ : StepD)]).take (st.length + 1) = st ++ [⟨(k : Int), m⟩] by rw [List.take_of_length_le]; simp, show (st ++ [(⟨(k : Int), m⟩ : StepD)]).take st.length = st by simp] at this
    simpa using this
  rw [hu]
  by_cases e : k = a
  · subst e
    have hlt : k < ds.length := by
      by_cases hq : k < ds.length
      · exact hq
      · rw [List.getElem?_eq_none (by omega)] at h1; cases h1
    rw [List.getElem?_set_self hlt]
    simp
  · rw [List.getElem?_set_ne e, h1]
    have : ((k : Int) == (a : Int)) = false := by simp; omega
    rw [this, Bool.or_false]
theorem used_unset {st : List StepD} {ds : List Bool} {N k : Nat} {m : Int} (hk : k < N) (hu : memB (used st) (k : Int) = false) (h : ∀ a, a < N → ds[a]? = some (memB (used (st ++ [⟨(k : Int), m⟩])) (a : Int))) : ∀ a, a < N → (ds.set k false)[a]? = some (memB (used st) (a : Int)) := by
  intro a ha
  have h1 := h a ha
  have hu2 : memB (used (st ++ [⟨(k : Int), m⟩])) (a : Int) = (memB (used st) (a : Int) || ((k : Int) == (a : Int))) := by
    have := used_take (st := st ++ [⟨(k : Int), m⟩]) (q := st.length) (by simp) (a : Int)
    rw [show (st ++ [(⟨(k : Int), m⟩ : StepD)]).take (st.length + 1) = st ++ [⟨(k : Int), m⟩] by rw [List.take_of_length_le]; simp, show (st ++ [(⟨(k : Int), m⟩ : StepD)]).take st.length = st by simp] at this
    simpa using this
  rw [hu2] at h1
  by_cases e : k = a
  · subst e
    have hlt : k < ds.length := by
      by_cases hq : k < ds.length
      · exact hq
      · rw [List.getElem?_eq_none (by omega)] at h1; cases h1
    rw [List.getElem?_set_self hlt, hu]
  · rw [List.getElem?_set_ne e, h1]
    have : ((k : Int) == (a : Int)) = false := by simp; omega
    rw [this, Bool.or_false]
theorem bcells_set' (ds : List Bool) (i : Nat) (b : Bool) : (bcells ds).set i (.bool b) = bcells (ds.set i b) := bcells_set ds i b
set_option maxRecDepth 100000 in
set_option maxHeartbeats 1600000 in
theorem cloneS_any (g cap : Nat) (l : List StepD) (f : List Nat) (w : World) (h : steps w (.slice (some ⟨g, 0, none⟩) l.length cap) l f) (h0 : 0 < l.length) (hn : l.length ≤ 1048576) :
    Calls Tryz.prog 43 #[.slice (some ⟨g, 0, none⟩) l.length cap] w fun e w' => ∃ (g' : Nat) (c' : Nat) (f' : List Nat), e = .returned (.slice (some ⟨g', 0, none⟩) l.length c') ∧ grR 65 2 stepR w.heap.size w' (.slice (some ⟨g', 0, none⟩) l.length c') l f' ∧ Below w.heap.size w w' := by
  have heq := fun (w : World) => Lib.run_eql_slice_nil (P := Tryz.prog) w 29 65 (some ⟨g, 0, none⟩) l.length cap 0 0 Tryz.underlying29
  go_enter Tryz.func43, Tryz.ntmps43
  go_wp2_with (at_builtin; refine wpList_copy_steps rfl _ _ rfl _ rfl rfl _ l _ rfl h (by omega) ?_; intro v5 w5 f5 hg5 hb5)
  obtain ⟨p5, q5, rfl⟩ := slR.form hg5.sl
  obtain ⟨g5, _, _, rfl, _⟩ := slR.at hg5.sl 0 h0
  go_ret
  exact ⟨g5, q5, f5, rfl, hg5, hb5⟩
end Go.Proofs.YtpdmdfkcaabnaaaGreat
