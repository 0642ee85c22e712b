/- Several of my texts as one: Row, Open, Shp, Laid, LaidE, LaidP, BytesO. -/
import Derived.WalkKit
import Derived.ProofKit
import Derived.ChangeSame
import Derived.ChangeOld
import Derived.Below
import Derived.Test.YtpdmdfkcaabnaaaGreatDoorMA
import Derived.Deep.Slices
import Derived.Deep.Fields
import Derived.ChangeArms
import Derived.Handed
import Derived.HandedShaped
import Derived.Test.YtpdmdfkcaabnaaaGreatDoorRows
import Derived.Lib.LaidTab
import Derived.Lib.AppendIntMem
import Derived.LaidMore
import Derived.Stop.Joined
import Derived.Stop.LaidErr
import Derived.Shelf.Strconv.Itoa3
import Derived.LaidLaws
import Derived.Test.YtpdmdfkcaabnaaaGreatDoorMP
import Derived.Test.YtpdmdfkcaabnaaaGreatDoorDraws
/- The last step of a law's row where all that is known of the world behind the call is that what was there is as it was. -/
namespace Go.Proofs.YtpdmdfkcaabnaaaGreatDoor
open Go.RowKit Go.WideShapes Go.ChangeShapes
set_option linter.unusedVariables false
set_option linter.unusedSimpArgs false
section
variable {H : Type} {enc : TypeId × Value → H} {P : Program}
theorem post_of_below {f : Func} {s : ChangeSpec} {apart fresh handsOn again : Bool} {W W' : World} {args : Array Value} {v : Value} {ds gs : List (DataW H)} {before pa pv : List MemPlace}
    (hW : DataW.Whole enc P f.params.toList s.vars apart W args.toList ds gs before)
    (hres : ∀ (b : Nat) (sp : Nat → Bool) (hd : Bool), DataW.TrodAll enc P W' b sp hd f.resultTypes.toList (v.resultList f.resultTypes.size) (s.fn H (ds ++ gs)).results [])
    (hargs : ∀ sp : Nat → Bool, (∀ p ∈ before, sp p.block = true) → DataW.TrodAll enc P W' 0 sp true f.params.toList args.toList (s.fn H (ds ++ gs)).args pa)
    (hvars : ∀ sp : Nat → Bool, (∀ p ∈ before, sp p.block = true) → DataW.TrodVars enc P W' sp s.vars (s.fn H (ds ++ gs)).vars pv)
    (hps : before = pa ++ pv) (hb : Below W.heap.size W W')
    (hok : ∀ (j : Nat) (t : TypeId) (r : Value), f.resultTypes[j]? = some t → (v.resultList f.resultTypes.size)[j]? = some r → Value.okWide P W' .any 0 t r) :
    s.post enc P f apart fresh handsOn again W args v W' := by
  have hlt : ∀ p ∈ before, p.block < W.heap.size := fun p hp => hW.lt p hp
  have hold : ∀ p ∈ before, (fun b => decide (b < W.heap.size)) p.block = true := fun p hp => by simpa using hlt p hp
  refine ⟨ds, gs, before, [], pa, pv, hW, hres _ _ _, hargs _ hold, hvars _ hold, World.keptBut_mono (fun p hp => ⟨hp, ?_⟩) (hb.frame (· ∈ before)), fun _ => ?_⟩
  · rw [hps, List.mem_append] at hp
    exact Or.inr hp
  · obtain ⟨_, _, _, _, _, hz, hn⟩ := hW
    refine ⟨hok, _, _, ([] ++ pa) ++ pv, ⟨[] ++ pa, pv, trodAll_append (hargs _ (fun _ _ => rfl)) (hres _ _ _), hvars _ (fun _ _ => rfl), rfl, ?_, ?_⟩, ?_⟩
    · intro b off hp
      have hin : MemPlace.cell b off ∈ before := by rw [hps]; simpa using hp
      rw [hb.frozen (hlt _ hin)]
      exact hz b off hin
    · intro ha
      have := hn ha
      rw [hps] at this
      simpa using this
    · intro p hp _
      rw [hps]
      simpa using hp
end
end Go.Proofs.YtpdmdfkcaabnaaaGreatDoor
/- The laws' arguments as they are read off memory: each reading gives a datum of ours. No condition. -/
namespace Go.Proofs.YtpdmdfkcaabnaaaGreatDoor
open Go.RowKit Go.ChangeShapes Go.WideShapes Go.Deep
set_option linter.unusedVariables false
set_option linter.unusedSimpArgs false
/-- What the form reads at type t is one of our data. -/
def Reads {α : Type} (P : Program) (t : TypeId) (R : RdW α) : Prop :=
  ∀ {H : Type} {enc : TypeId × Value → H} {w : World} {fuel : Nat} {cs : List Value} {x : DataW H × List MemPlace}, DataW.trod enc P w 0 (fun _ => true) true fuel t cs = some x → ∃ d, R w cs d
theorem reads_int {P : Program} {t : TypeId} (ht : P.underlying t = some (.int .i64)) : Reads P t intW := by
  intro H enc w fuel cs x h
  obtain ⟨n, rfl, _, hw⟩ := DataW.trod_int ht h
  have hb : -9223372036854775808 ≤ n ∧ n ≤ 9223372036854775807 := by
    simp [Lit.wf, IntKind.min, IntKind.max, IntKind.signed, IntKind.bits] at hw
    omega
  exact ⟨n, rfl, hb⟩
theorem choose_list {α : Type} (n : Nat) (p : Nat → α → Prop) (h : ∀ i, i < n → ∃ d, p i d) : ∃ l : List α, l.length = n ∧ ∀ i (hi : i < l.length), p i l[i] := by
  induction n with
  | zero => exact ⟨[], rfl, fun i hi => by simp at hi⟩
  | succ n ih =>
    obtain ⟨l, hl, hp⟩ := ih fun i hi => h i (by omega)
    obtain ⟨d, hd⟩ := h n (by omega)
    refine ⟨l ++ [d], by simp [hl], fun i hi => ?_⟩
    by_cases hin : i < l.length
    · rw [List.getElem_append_left hin]; exact hp i hin
    · have : i = n := by simp at hi; omega
      subst this
      rw [List.getElem_append_right (by omega)]
      simpa [hl] using hd
theorem reads_slice {α : Type} {P : Program} {t e : TypeId} {sz : Nat} {R : RdW α} (ht : P.underlying t = some (.slice e)) (hsz : P.cellsOf e = sz) (hp : 0 < sz) (he : Reads P e R) : Reads P t (elW sz R) := by
  intro H enc w fuel cs x h
  rcases open_slice ht h with ⟨rfl, _⟩ | ⟨a, len, cap, m, n, D, Pl, rfl, _, hl, hm, hmm, _, hi⟩
  · exact ⟨[], _, rfl, none, 0, rfl, by simp, fun i hi => by simp at hi⟩
  · have hlm : len ≤ m := by simp at hmm; omega
    have key : ∀ i, i < len → ∃ d : α, ∃ b off c, some a = some (⟨b, off, none⟩ : Addr) ∧ c.length = sz ∧ (∀ j u, c[j]? = some u → w.cell? ⟨b, off + i * sz + j, none⟩ = some u) ∧ R w c d := by
      intro i hil
      obtain ⟨c, hc, ht'⟩ := hi i (by omega)
      rw [hsz] at hc
      obtain ⟨_, hcl, hat⟩ := World.cells?_some hc
      obtain ⟨d, hd⟩ := he ht'
      obtain ⟨b, off, spot⟩ := a
      have hspot : spot = none := by
        obtain ⟨c0, hc0, _⟩ := hi 0 (by omega)
        rw [hsz] at hc0
        obtain ⟨_, hcl0, hat0⟩ := World.cells?_some hc0
        have h0 := hat0 0 hp
        have he0 : c0[0]? = some (c0[0]'(by omega)) := List.getElem?_eq_getElem (by omega)
        rw [he0] at h0
        have := World.cell?_spot h0
        simpa [Addr.add] using this
      subst hspot
      refine ⟨d, b, off, c, rfl, hcl, fun j u hj => ?_, hd⟩
      have hjl : j < sz := by have := (List.getElem?_eq_some_iff.1 hj).1; omega
      have := hat j hjl
      rw [hj] at this
      rw [← this]
      rw [Go.WideShapes.add_plain, Go.WideShapes.add_plain]
    obtain ⟨l, hll, hpl⟩ := choose_list len _ key
    refine ⟨l, _, rfl, some a, cap, by rw [hll], by omega, fun i hi => ?_⟩
    exact hpl i hi
theorem struct_cells {P : Program} {t : TypeId} {fs : Array Field} (hs : P.underlying t = some (.struct fs)) (hone : oneCellFields P fs = true) (hC : P.cellsOf t = fs.size)
    {H : Type} {enc : TypeId × Value → H} {w : World} {fuel : Nat} {cs : List Value} {x : DataW H × List MemPlace} (h : DataW.trod enc P w 0 (fun _ => true) true fuel t cs = some x) :
    cs.length = fs.size ∧ ∀ (j : Nat) (f : Field), fs[j]? = some f → ∃ v n y, cs[j]? = some v ∧ DataW.trod enc P w 0 (fun _ => true) true n f.type [v] = some y := by
  obtain ⟨ys, n, _, _, hlen, hyl, hf⟩ := DataW.trod_struct hs h
  refine ⟨by omega, fun j f hj => ?_⟩
  obtain ⟨ho, hk⟩ := hone_of hone j f hj
  have hjl : j < fs.size := (Array.getElem?_eq_some_iff.1 hj).1
  have h1 := hf j f hj
  rw [ho, hk] at h1
  have hone' : (cs.drop j).take 1 = [cs[j]'(by omega)] := by
    rw [List.drop_eq_getElem_cons (by omega)]; rfl
  rw [hone'] at h1
  exact ⟨_, n, ys[j]'(by omega), List.getElem?_eq_getElem (by omega), h1.trans (List.getElem?_eq_getElem (by omega))⟩
theorem cells_of {cs : List Value} {n : Nat} {vs : List Value} (hl : cs.length = n) (hv : vs.length = n) (h : ∀ j, j < n → cs[j]? = vs[j]?) : cs = vs := by
  apply List.ext_getElem?
  intro j
  by_cases hj : j < n
  · exact h j hj
  · rw [List.getElem?_eq_none (by omega), List.getElem?_eq_none (by omega)]
theorem intsO : Reads Tryz.prog 24 intsW := reads_slice Tryz.underlying24 (by kernel_rfl) (by decide) (reads_int Tryz.underlying3)
end Go.Proofs.YtpdmdfkcaabnaaaGreatDoor
/- A law's row, its listed variables and the world's shape both handed to the walk. Over any program; no condition. -/
namespace Go.Proofs.YtpdmdfkcaabnaaaGreatDoor
open Go.RowKit
set_option linter.unusedVariables false
theorem returnsIn_listed_shaped {H : Type} {enc : TypeId × Value → H} {a : Assume} {C : Checked} {os : Os} {f : FuncId} {fn : Func} {s : ChangeSpec} {conds : List PathCond} {apart fresh handsOn again : Bool} {X : World → Array Value → Prop}
    (hX : ∀ (w w' : World) (args : Array Value), w.heap = w'.heap → X w args → X w' args)
    (own : ownKnob C.prog.godebug = none) (started : os.Started) (noInit : C.prog.inits.idxOf? f = none) (hfn : C.prog.funcs[f]? = some fn)
    (witness : ∃ (w : World) (tape : Tape) (i : Input), w.os = os ∧ (w.forCall tape i).Shaped C.prog ∧ i.vars = [] ∧ Input.okWide C.prog (w.forCall tape i) .any w.heap.size f i ∧
      ((s.pre enc C.prog fn conds apart (w.forCall tape i).memory i.args ∧ X (w.forCall tape i).memory i.args) ∧ sizedMet enc C.prog fn (OpenSpec.ofChange s) apart (w.forCall tape i).memory i.args) ∧ a.holds C.prog (lone (Frame.enter C.prog f i.args .normal) [] (w.forCall tape i)))
    (contract : ∀ (W : World) (base : Nat) (args : Array Value) (ds gs : List (DataW H)) (before : List MemPlace),
      (∀ (j : Nat) t v, fn.params[j]? = some t → args[j]? = some v → Value.okWide C.prog W .any base t v) →
      DataW.Whole enc C.prog fn.params.toList s.vars apart W args.toList ds gs before → X W args → W.ShapedOpen C.prog →
      Calls C.prog f args W fun e W' => ∃ v, e = .returned v ∧ s.post enc C.prog fn apart fresh handsOn again W args v W') :
    ReturnsInHanded a C os f .any (fun w args => (s.pre enc C.prog fn conds apart w args ∧ X w args) ∧ sizedMet enc C.prog fn (OpenSpec.ofChange s) apart w args) (s.post enc C.prog fn apart fresh handsOn again) := by
  refine returnsInHanded_of_calls own started noInit witness ?_
  intro w tape i _ hsh _ hok hpre hholds
  obtain ⟨_, _, _, fn', hfn', _, _, _, _, hval⟩ := hok
  have e : fn' = fn := Option.some.inj (hfn'.symm.trans hfn)
  subst e
  obtain ⟨⟨⟨ds, gs, before, hw, hc⟩, hx⟩, hz⟩ := hpre
  have hw' := DataW.Whole.of_heap (w' := w.forCall tape i) (by rfl) hw
  refine (contract (w.forCall tape i) w.heap.size i.args ds gs before hval hw' (hX _ _ _ (by rfl) hx) hsh).mono fun e W' ⟨v, he, hp⟩ => ?_
  subst he
  exact ChangeSpec.post_blind hp
end Go.Proofs.YtpdmdfkcaabnaaaGreatDoor
/- From the rows' condition on listed variables to what the library's table of powers reads as. No condition beyond the row's own. -/
namespace Go.Proofs.YtpdmdfkcaabnaaaGreatDoor
open Go.RowKit
set_option linter.unusedVariables false
theorem band {a b : Bool} (h : a = true) (k : b = true) : (a && b) = true := by rw [h, k]; rfl
theorem powData : (Rows.laid_internal_strconv_uint64pow10 : DataW Unit) = Lib.tabData .u64 Lib.pow10Tab := by rfl
theorem tab_of_laid {W : World} (h : laidMetH Tryz.prog [("math/bits.deBruijn32tab", Rows.laid_math_bits_deBruijn32tab), ("math/bits.deBruijn64tab", Rows.laid_math_bits_deBruijn64tab), ("internal/strconv.uint64pow10", Rows.laid_internal_strconv_uint64pow10)] W) :
    Lib.TabBelow Tryz.prog W.heap.size W "internal/strconv.uint64pow10" .u64 Lib.pow10Tab := by
  rw [MakeChecks.laidMetH_plain _ _ _ (by kernel_rfl)] at h
  have h2 := laidMet.tail (laidMet.tail h)
  rw [powData] at h2
  exact Lib.tabBelow_of_tabIs (Lib.tabIs_of_head (g := 3) (t := 248) (e := 230) (n := 20) (by kernel_rfl) (by kernel_rfl) (by kernel_rfl) (by kernel_rfl) (by kernel_rfl) (by kernel_rfl) h2)
end Go.Proofs.YtpdmdfkcaabnaaaGreatDoor
/- From the rows' condition on listed variables to what the libraries' error variables hold. No condition beyond the row's own. -/
namespace Go.Proofs.YtpdmdfkcaabnaaaGreatDoor
open Go.RowKit
set_option linter.unusedVariables false
theorem starE : "*" ++ "errors.errorString" = "*errors.errorString" := by decide
theorem rowE (u : TypeId) (h : Tryz.prog.typeName? 3 u = some "*errors.errorString") : u = 258 :=
  typeName_ptr_named (nm := "errors.errorString") (by rw [starE]; kernel_rfl) (by kernel_rfl) (by decide) u (by rw [starE]; exact h)
theorem errVar {n : String} {g : Nat} {text : List UInt8} {r : List (String × DataW Unit)} {W : World} (h : laidMet Tryz.prog ((n, .iface "*errors.errorString" (.ptr (.agg [.lit (.string text)]))) :: r) W)
    (hg : Tryz.prog.globalNamed n = some g) (ht : (Tryz.prog.globals[g]?).map (·.type) = some 173) : ∃ tp p, W.cell? ⟨g, 0, none⟩ = some (.iface tp p) := by
  obtain ⟨a, s, hv, _⟩ := laid_sentinel h hg ht Tryz.underlying173 rowE Tryz.underlying258 Tryz.underlying260 rfl rfl Tryz.underlying9 (by kernel_rfl) (by kernel_rfl)
  exact ⟨_, _, by have h0 := World.var?_cell hg hv 0; simpa using h0⟩
end Go.Proofs.YtpdmdfkcaabnaaaGreatDoor
/- From the rows' condition on listed variables, and the world's shape, to what the program's reading of texts wants of the library's variables. No condition beyond the row's own. -/
namespace Go.Proofs.YtpdmdfkcaabnaaaGreatDoor
open Go.RowKit
set_option linter.unusedVariables false
theorem libW_of {W : World} {r : List (String × DataW Unit)} (h2 : laidMet Tryz.prog (("internal/strconv.uint64pow10", Rows.laid_internal_strconv_uint64pow10) :: r) W)
    (hS : ∃ tp p, W.cell? ⟨1, 0, none⟩ = some (.iface tp p)) (hR : ∃ tp p, W.cell? ⟨2, 0, none⟩ = some (.iface tp p)) (hsh : W.ShapedOpen Tryz.prog) : LibW W := by
  rw [powData] at h2
  exact ⟨hS, hR, Lib.tabBelow_of_tabIs (Lib.tabIs_of_head (g := 3) (t := 248) (e := 230) (n := 20) (by kernel_rfl) (by kernel_rfl) (by kernel_rfl) (by kernel_rfl) (by kernel_rfl) (by kernel_rfl) h2), Tryz.laysM146.s1_3 W hsh⟩
theorem libW_of_FnFacts {W : World} (h : laidMetH Tryz.prog Rows.fnFactsRow.laid W) (hsh : W.ShapedOpen Tryz.prog) : LibW W := by
  rw [MakeChecks.laidMetH_plain _ _ _ (by kernel_rfl)] at h
  have h2 := laidMet.tail (laidMet.tail h)
  have h3 := laidMet.tail h2
  refine libW_of h2 ?_ ?_ hsh
  · first
    | exact errVar (n := "strconv.ErrSyntax") h3 (by kernel_rfl) (by kernel_rfl)
    | exact errVar (n := "strconv.ErrSyntax") (laidMet.tail h3) (by kernel_rfl) (by kernel_rfl)
    | exact errVar (n := "strconv.ErrSyntax") (laidMet.tail (laidMet.tail h3)) (by kernel_rfl) (by kernel_rfl)
    | exact errVar (n := "strconv.ErrSyntax") (laidMet.tail (laidMet.tail (laidMet.tail h3))) (by kernel_rfl) (by kernel_rfl)
  · first
    | exact errVar (n := "strconv.ErrRange") h3 (by kernel_rfl) (by kernel_rfl)
    | exact errVar (n := "strconv.ErrRange") (laidMet.tail h3) (by kernel_rfl) (by kernel_rfl)
    | exact errVar (n := "strconv.ErrRange") (laidMet.tail (laidMet.tail h3)) (by kernel_rfl) (by kernel_rfl)
    | exact errVar (n := "strconv.ErrRange") (laidMet.tail (laidMet.tail (laidMet.tail h3))) (by kernel_rfl) (by kernel_rfl)
theorem libW_of_FnQueries {W : World} (h : laidMetH Tryz.prog Rows.fnQueriesRow.laid W) (hsh : W.ShapedOpen Tryz.prog) : LibW W := by
  rw [MakeChecks.laidMetH_plain _ _ _ (by kernel_rfl)] at h
  have h2 := laidMet.tail (laidMet.tail h)
  have h3 := laidMet.tail h2
  refine libW_of h2 ?_ ?_ hsh
  · first
    | exact errVar (n := "strconv.ErrSyntax") h3 (by kernel_rfl) (by kernel_rfl)
    | exact errVar (n := "strconv.ErrSyntax") (laidMet.tail h3) (by kernel_rfl) (by kernel_rfl)
    | exact errVar (n := "strconv.ErrSyntax") (laidMet.tail (laidMet.tail h3)) (by kernel_rfl) (by kernel_rfl)
    | exact errVar (n := "strconv.ErrSyntax") (laidMet.tail (laidMet.tail (laidMet.tail h3))) (by kernel_rfl) (by kernel_rfl)
  · first
    | exact errVar (n := "strconv.ErrRange") h3 (by kernel_rfl) (by kernel_rfl)
    | exact errVar (n := "strconv.ErrRange") (laidMet.tail h3) (by kernel_rfl) (by kernel_rfl)
    | exact errVar (n := "strconv.ErrRange") (laidMet.tail (laidMet.tail h3)) (by kernel_rfl) (by kernel_rfl)
    | exact errVar (n := "strconv.ErrRange") (laidMet.tail (laidMet.tail (laidMet.tail h3))) (by kernel_rfl) (by kernel_rfl)
theorem libW_of_FnMethods {W : World} (h : laidMetH Tryz.prog Rows.fnMethodsRow.laid W) (hsh : W.ShapedOpen Tryz.prog) : LibW W := by
  rw [MakeChecks.laidMetH_plain _ _ _ (by kernel_rfl)] at h
  have h2 := laidMet.tail (laidMet.tail h)
  have h3 := laidMet.tail h2
  refine libW_of h2 ?_ ?_ hsh
  · first
    | exact errVar (n := "strconv.ErrSyntax") h3 (by kernel_rfl) (by kernel_rfl)
    | exact errVar (n := "strconv.ErrSyntax") (laidMet.tail h3) (by kernel_rfl) (by kernel_rfl)
    | exact errVar (n := "strconv.ErrSyntax") (laidMet.tail (laidMet.tail h3)) (by kernel_rfl) (by kernel_rfl)
    | exact errVar (n := "strconv.ErrSyntax") (laidMet.tail (laidMet.tail (laidMet.tail h3))) (by kernel_rfl) (by kernel_rfl)
  · first
    | exact errVar (n := "strconv.ErrRange") h3 (by kernel_rfl) (by kernel_rfl)
    | exact errVar (n := "strconv.ErrRange") (laidMet.tail h3) (by kernel_rfl) (by kernel_rfl)
    | exact errVar (n := "strconv.ErrRange") (laidMet.tail (laidMet.tail h3)) (by kernel_rfl) (by kernel_rfl)
    | exact errVar (n := "strconv.ErrRange") (laidMet.tail (laidMet.tail (laidMet.tail h3))) (by kernel_rfl) (by kernel_rfl)
end Go.Proofs.YtpdmdfkcaabnaaaGreatDoor
/- An argument of bytes as it is read off memory. No condition. -/
namespace Go.Proofs.YtpdmdfkcaabnaaaGreatDoor
open Go.RowKit Go.ChangeShapes Go.WideShapes Go.Deep
set_option linter.unusedVariables false
theorem reads_byte {P : Program} {t : TypeId} (ht : P.underlying t = some (.int .u8)) : Reads P t byteW := by
  intro H enc w fuel cs x h
  obtain ⟨n, rfl, _, hw⟩ := DataW.trod_int ht h
  have hb : 0 ≤ n ∧ n ≤ 255 := by
    simp [Lit.wf, IntKind.min, IntKind.max, IntKind.signed, IntKind.bits] at hw
    omega
  exact ⟨n, rfl, hb⟩
theorem bytesO : Reads Tryz.prog 22 (elW 1 byteW) := reads_slice Tryz.underlying22 (by kernel_rfl) (by decide) (reads_byte Tryz.underlying5)
end Go.Proofs.YtpdmdfkcaabnaaaGreatDoor
