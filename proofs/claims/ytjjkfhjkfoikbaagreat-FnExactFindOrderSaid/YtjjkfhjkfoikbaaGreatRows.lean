/-
  No cell of these rows narrows 'for every input' (looked for: loops, veiled, ifaces, maps, wideKeys, modest, calm, conditions, laid).
  DERIVED. THE GIVEN ROWS OF THIS SEAT. 3 by the template 'for every input the law returns true; each argument reads behind the call as it read before'; 0 by the template 'total and deterministic' (their statements: YtjjkfhjkfoikbaaGreatTotals.lean).
  GIVEN WITH THE SEED: the statements are not yours to turn. If you find one false, say at which input.
  Laid BY PROGRAM, IN A SANDBOX (cutbox-rows.mjs): the forced cells as the released guide's own fill.sh prints them over the translation 33a09282fcc44332… (all of the seat's roots in one cut). By AI agents, Wed Nov 11 2026. No macro, syntax, notation, axiom, sorry.
-/
import Derived.Test.YtjjkfhjkfoikbaaGreatChecked
import GoSem.Claim
import GoSem.ClaimJoined
import GoSem.ClaimMapViews
import Derived.JoinedTies
import Derived.KernelRfl
namespace Go.Proofs.YtjjkfhjkfoikbaaGreat
/- THE CELL 'sum', in the pinned program and in every row, IS THE sha256 OF THE DUMP (.gsa) THAT YtjjkfhjkfoikbaaGreatProg.lean LOADS. Nothing in Lean hashes anything: it is a label: what it is worth is what the hold of that sum in a sandbox is worth. -/
noncomputable def Tryz.pinned : Pinned := { name := "ytjjkfhjkfoikbaagreat", sum := "33a09282fcc443327bd76e28564448ded380190541bd5806a89aff06063ccb03", checked := Tryz.checked }
namespace Rows
def none {H : Type} : Left H := { results := [], args := [] }

/-- 'laws.FnExactBlockedAtoms': WHATEVER THE INPUT: true; the input reads as it did. -/
def fnExactBlockedAtomsSpec : ChangeSpec := { name := "fnExactBlockedAtoms", fn := fun _ => fun
  | [d1, d2, d3] => { results := [.lit (.bool true)], args := [d1, d2, d3] }
  | _ => none }
def fnExactBlockedAtomsRow : OpenClaim := { program := "ytjjkfhjkfoikbaagreat", sum := "33a09282fcc443327bd76e28564448ded380190541bd5806a89aff06063ccb03", func := "loop.example/g01989/laws.FnExactBlockedAtoms", spec := "fnExactBlockedAtoms", unfollowed := true, recurses := true, apart := false }
def FnExactBlockedAtomsSaid : Prop := fnExactBlockedAtomsRow.holds Tryz.pinned (OpenSpec.ofChange fnExactBlockedAtomsSpec)

/-- ITS FALSE NEIGHBOUR: 'it returns false'. Refute it at one input. -/
def fnExactBlockedAtomsWrong : ChangeSpec := { name := "fnExactBlockedAtoms", fn := fun _ => fun
  | [d1, d2, d3] => { results := [.lit (.bool false)], args := [d1, d2, d3] }
  | _ => none }
def FnExactBlockedAtomsWrongFalsely : Prop := fnExactBlockedAtomsRow.holds Tryz.pinned (OpenSpec.ofChange fnExactBlockedAtomsWrong)

/-- 'laws.FnExactFindOrder': WHATEVER THE INPUT: true; the input reads as it did. -/
def fnExactFindOrderSpec : ChangeSpec := { name := "fnExactFindOrder", fn := fun _ => fun
  | [d1, d2, d3] => { results := [.lit (.bool true)], args := [d1, d2, d3] }
  | _ => none }
def fnExactFindOrderRow : OpenClaim := { program := "ytjjkfhjkfoikbaagreat", sum := "33a09282fcc443327bd76e28564448ded380190541bd5806a89aff06063ccb03", func := "loop.example/g01989/laws.FnExactFindOrder", spec := "fnExactFindOrder", unfollowed := true, recurses := true, apart := false }
def FnExactFindOrderSaid : Prop := fnExactFindOrderRow.holds Tryz.pinned (OpenSpec.ofChange fnExactFindOrderSpec)

/-- ITS FALSE NEIGHBOUR: 'it returns false'. Refute it at one input. -/
def fnExactFindOrderWrong : ChangeSpec := { name := "fnExactFindOrder", fn := fun _ => fun
  | [d1, d2, d3] => { results := [.lit (.bool false)], args := [d1, d2, d3] }
  | _ => none }
def FnExactFindOrderWrongFalsely : Prop := fnExactFindOrderRow.holds Tryz.pinned (OpenSpec.ofChange fnExactFindOrderWrong)

/-- 'laws.FnExactCheapestOrder': WHATEVER THE INPUT: true; the input reads as it did. -/
def fnExactCheapestOrderSpec : ChangeSpec := { name := "fnExactCheapestOrder", fn := fun _ => fun
  | [d1, d2, d3] => { results := [.lit (.bool true)], args := [d1, d2, d3] }
  | _ => none }
def fnExactCheapestOrderRow : OpenClaim := { program := "ytjjkfhjkfoikbaagreat", sum := "33a09282fcc443327bd76e28564448ded380190541bd5806a89aff06063ccb03", func := "loop.example/g01989/laws.FnExactCheapestOrder", spec := "fnExactCheapestOrder", unfollowed := true, recurses := true, apart := false }
def FnExactCheapestOrderSaid : Prop := fnExactCheapestOrderRow.holds Tryz.pinned (OpenSpec.ofChange fnExactCheapestOrderSpec)

/-- ITS FALSE NEIGHBOUR: 'it returns false'. Refute it at one input. -/
def fnExactCheapestOrderWrong : ChangeSpec := { name := "fnExactCheapestOrder", fn := fun _ => fun
  | [d1, d2, d3] => { results := [.lit (.bool false)], args := [d1, d2, d3] }
  | _ => none }
def FnExactCheapestOrderWrongFalsely : Prop := fnExactCheapestOrderRow.holds Tryz.pinned (OpenSpec.ofChange fnExactCheapestOrderWrong)

/- THE SECOND FORM. 'bulk': how many values and letters a reading holds, each counted each time it is reached (what is shared counts as often as it is met; a slice's spare places count too). A statement '..UptoSaid' is the law's where the arguments, and the package variables that the reading takes, are together of bulk at most 1048576: NARROWER than '..Said'. Prove '..Said' where nothing that the law and all that it calls make is longer than what came in: it says more and counts as full. Else prove '..UptoSaid'. A law counts once. -/
mutual
def uptoBulk {H : Type} : DataW H → Nat
  | .lit (.string bytes) => bytes.length + 1
  | .lit _ => 1
  | .nil => 1
  | .ptr d => uptoBulk d + 1
  | .slice elems spare => uptoBulkAll elems + uptoBulkAll spare + 1
  | .agg parts => uptoBulkAll parts + 1
  | .iface _ d => uptoBulk d + 1
  | .map entries => uptoBulkEntries entries + 1
  | .held _ => 1
def uptoBulkAll {H : Type} : List (DataW H) → Nat
  | [] => 0
  | d :: r => uptoBulk d + uptoBulkAll r
def uptoBulkEntries {H : Type} : List (Lit × DataW H) → Nat
  | [] => 0
  | x :: r => uptoBulkEntry x + uptoBulkEntries r
def uptoBulkEntry {H : Type} : Lit × DataW H → Nat
  | (.string bytes, d) => bytes.length + uptoBulk d + 1
  | (_, d) => uptoBulk d + 1
 end
def uptoSmall : (H : Type) → List (DataW H) → Bool := fun _ ds => decide (uptoBulkAll ds ≤ 1048576)
def OpenSpec.upto (s : _root_.Go.ChangeSpec) : _root_.Go.OpenSpec := { _root_.Go.OpenSpec.ofChange s with cond := some uptoSmall }

/-- 'laws.FnExactBlockedAtoms', WHERE WHAT IT READS IS OF BULK AT MOST 1048576: true; the input reads as it did. -/
def fnExactBlockedAtomsUptoRow : OpenClaim := { program := "ytjjkfhjkfoikbaagreat", sum := "33a09282fcc443327bd76e28564448ded380190541bd5806a89aff06063ccb03", func := "loop.example/g01989/laws.FnExactBlockedAtoms", spec := "fnExactBlockedAtoms", unfollowed := true, recurses := true, apart := false, narrowed := true }
def FnExactBlockedAtomsUptoSaid : Prop := fnExactBlockedAtomsUptoRow.holds Tryz.pinned (OpenSpec.upto fnExactBlockedAtomsSpec)

/-- 'laws.FnExactFindOrder', WHERE WHAT IT READS IS OF BULK AT MOST 1048576: true; the input reads as it did. -/
def fnExactFindOrderUptoRow : OpenClaim := { program := "ytjjkfhjkfoikbaagreat", sum := "33a09282fcc443327bd76e28564448ded380190541bd5806a89aff06063ccb03", func := "loop.example/g01989/laws.FnExactFindOrder", spec := "fnExactFindOrder", unfollowed := true, recurses := true, apart := false, narrowed := true }
def FnExactFindOrderUptoSaid : Prop := fnExactFindOrderUptoRow.holds Tryz.pinned (OpenSpec.upto fnExactFindOrderSpec)

/-- 'laws.FnExactCheapestOrder', WHERE WHAT IT READS IS OF BULK AT MOST 1048576: true; the input reads as it did. -/
def fnExactCheapestOrderUptoRow : OpenClaim := { program := "ytjjkfhjkfoikbaagreat", sum := "33a09282fcc443327bd76e28564448ded380190541bd5806a89aff06063ccb03", func := "loop.example/g01989/laws.FnExactCheapestOrder", spec := "fnExactCheapestOrder", unfollowed := true, recurses := true, apart := false, narrowed := true }
def FnExactCheapestOrderUptoSaid : Prop := fnExactCheapestOrderUptoRow.holds Tryz.pinned (OpenSpec.upto fnExactCheapestOrderSpec)

end Rows
end Go.Proofs.YtjjkfhjkfoikbaaGreat
