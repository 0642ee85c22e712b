/-
  No cell of these rows narrows 'for every input' (looked for: loops, veiled, ifaces, maps, wideKeys, modest, calm, conditions, laid).
  DERIVED. THE GIVEN ROWS OF THIS SEAT. 8 by the template 'for every input the law returns true; each argument reads behind the call as it read before'; 0 by the template 'total and deterministic' (their statements: YtjjkfhjkfoikbaaTotals.lean).
  GIVEN WITH THE SEED: the statements are not yours to turn. If you find one false, say at which input.
  Laid BY PROGRAM, IN A SANDBOX (cutbox-rows.mjs): the forced cells as the released guide's own fill.sh prints them over the translation f6126e8a84c60d56… (all of the seat's roots in one cut). By AI agents, Wed Nov 11 2026. No macro, syntax, notation, axiom, sorry.
-/
import Derived.Test.YtjjkfhjkfoikbaaChecked
import GoSem.Claim
import GoSem.ClaimJoined
import GoSem.ClaimMapViews
import Derived.JoinedTies
import Derived.KernelRfl
namespace Go.Proofs.Ytjjkfhjkfoikbaa
/- THE CELL 'sum', in the pinned program and in every row, IS THE sha256 OF THE DUMP (.gsa) THAT YtjjkfhjkfoikbaaProg.lean LOADS. Nothing in Lean hashes anything: it is a label: what it is worth is what the hold of that sum in a sandbox is worth. -/
noncomputable def Try.pinned : Pinned := { name := "ytjjkfhjkfoikbaa", sum := "f6126e8a84c60d56232581e1016e311c23245fe4e363c12d332f1284ae1e5e19", checked := Try.checked }
namespace Rows
def none {H : Type} : Left H := { results := [], args := [] }

/-- 'laws.FnExactMatchAtom': WHATEVER THE INPUT: true; the input reads as it did. -/
def fnExactMatchAtomSpec : ChangeSpec := { name := "fnExactMatchAtom", fn := fun _ => fun
  | [d1, d2, d3] => { results := [.lit (.bool true)], args := [d1, d2, d3] }
  | _ => none }
def fnExactMatchAtomRow : OpenClaim := { program := "ytjjkfhjkfoikbaa", sum := "f6126e8a84c60d56232581e1016e311c23245fe4e363c12d332f1284ae1e5e19", func := "loop.example/g01989/laws.FnExactMatchAtom", spec := "fnExactMatchAtom", apart := false }
def FnExactMatchAtomSaid : Prop := fnExactMatchAtomRow.holds Try.pinned (OpenSpec.ofChange fnExactMatchAtomSpec)

/-- ITS FALSE NEIGHBOUR: 'it returns false'. Refute it at one input. -/
def fnExactMatchAtomWrong : ChangeSpec := { name := "fnExactMatchAtom", fn := fun _ => fun
  | [d1, d2, d3] => { results := [.lit (.bool false)], args := [d1, d2, d3] }
  | _ => none }
def FnExactMatchAtomWrongFalsely : Prop := fnExactMatchAtomRow.holds Try.pinned (OpenSpec.ofChange fnExactMatchAtomWrong)

/-- 'laws.FnExactAddTuple': WHATEVER THE INPUT: true; the input reads as it did. -/
def fnExactAddTupleSpec : ChangeSpec := { name := "fnExactAddTuple", fn := fun _ => fun
  | [d1, d2] => { results := [.lit (.bool true)], args := [d1, d2] }
  | _ => none }
def fnExactAddTupleRow : OpenClaim := { program := "ytjjkfhjkfoikbaa", sum := "f6126e8a84c60d56232581e1016e311c23245fe4e363c12d332f1284ae1e5e19", func := "loop.example/g01989/laws.FnExactAddTuple", spec := "fnExactAddTuple", inPlace := ["slices.overlaps[[]int]"], unfollowed := true, recurses := true, apart := false }
def FnExactAddTupleSaid : Prop := fnExactAddTupleRow.holds Try.pinned (OpenSpec.ofChange fnExactAddTupleSpec)

/-- ITS FALSE NEIGHBOUR: 'it returns false'. Refute it at one input. -/
def fnExactAddTupleWrong : ChangeSpec := { name := "fnExactAddTuple", fn := fun _ => fun
  | [d1, d2] => { results := [.lit (.bool false)], args := [d1, d2] }
  | _ => none }
def FnExactAddTupleWrongFalsely : Prop := fnExactAddTupleRow.holds Try.pinned (OpenSpec.ofChange fnExactAddTupleWrong)

/-- 'laws.FnExactBindingsOf': WHATEVER THE INPUT: true; the input reads as it did. -/
def fnExactBindingsOfSpec : ChangeSpec := { name := "fnExactBindingsOf", fn := fun _ => fun
  | [d1, d2] => { results := [.lit (.bool true)], args := [d1, d2] }
  | _ => none }
def fnExactBindingsOfRow : OpenClaim := { program := "ytjjkfhjkfoikbaa", sum := "f6126e8a84c60d56232581e1016e311c23245fe4e363c12d332f1284ae1e5e19", func := "loop.example/g01989/laws.FnExactBindingsOf", spec := "fnExactBindingsOf", apart := false }
def FnExactBindingsOfSaid : Prop := fnExactBindingsOfRow.holds Try.pinned (OpenSpec.ofChange fnExactBindingsOfSpec)

/-- ITS FALSE NEIGHBOUR: 'it returns false'. Refute it at one input. -/
def fnExactBindingsOfWrong : ChangeSpec := { name := "fnExactBindingsOf", fn := fun _ => fun
  | [d1, d2] => { results := [.lit (.bool false)], args := [d1, d2] }
  | _ => none }
def FnExactBindingsOfWrongFalsely : Prop := fnExactBindingsOfRow.holds Try.pinned (OpenSpec.ofChange fnExactBindingsOfWrong)

/-- 'laws.FnExactAddFact': WHATEVER THE INPUT: true; the input reads as it did. -/
def fnExactAddFactSpec : ChangeSpec := { name := "fnExactAddFact", fn := fun _ => fun
  | [d1, d2] => { results := [.lit (.bool true)], args := [d1, d2] }
  | _ => none }
def fnExactAddFactRow : OpenClaim := { program := "ytjjkfhjkfoikbaa", sum := "f6126e8a84c60d56232581e1016e311c23245fe4e363c12d332f1284ae1e5e19", func := "loop.example/g01989/laws.FnExactAddFact", spec := "fnExactAddFact", inPlace := ["slices.overlaps[loop.example/g01989/impl.Fact]"], unfollowed := true, recurses := true, apart := false }
def FnExactAddFactSaid : Prop := fnExactAddFactRow.holds Try.pinned (OpenSpec.ofChange fnExactAddFactSpec)

/-- ITS FALSE NEIGHBOUR: 'it returns false'. Refute it at one input. -/
def fnExactAddFactWrong : ChangeSpec := { name := "fnExactAddFact", fn := fun _ => fun
  | [d1, d2] => { results := [.lit (.bool false)], args := [d1, d2] }
  | _ => none }
def FnExactAddFactWrongFalsely : Prop := fnExactAddFactRow.holds Try.pinned (OpenSpec.ofChange fnExactAddFactWrong)

/-- 'laws.FnExactIsResponse': WHATEVER THE INPUT: true; the input reads as it did. -/
def fnExactIsResponseSpec : ChangeSpec := { name := "fnExactIsResponse", fn := fun _ => fun
  | [d1, d2, d3, d4, d5] => { results := [.lit (.bool true)], args := [d1, d2, d3, d4, d5] }
  | _ => none }
def fnExactIsResponseRow : OpenClaim := { program := "ytjjkfhjkfoikbaa", sum := "f6126e8a84c60d56232581e1016e311c23245fe4e363c12d332f1284ae1e5e19", func := "loop.example/g01989/laws.FnExactIsResponse", spec := "fnExactIsResponse", unfollowed := true, recurses := true, apart := false }
def FnExactIsResponseSaid : Prop := fnExactIsResponseRow.holds Try.pinned (OpenSpec.ofChange fnExactIsResponseSpec)

/-- ITS FALSE NEIGHBOUR: 'it returns false'. Refute it at one input. -/
def fnExactIsResponseWrong : ChangeSpec := { name := "fnExactIsResponse", fn := fun _ => fun
  | [d1, d2, d3, d4, d5] => { results := [.lit (.bool false)], args := [d1, d2, d3, d4, d5] }
  | _ => none }
def FnExactIsResponseWrongFalsely : Prop := fnExactIsResponseRow.holds Try.pinned (OpenSpec.ofChange fnExactIsResponseWrong)

/-- 'laws.FnExactMatchesOf': WHATEVER THE INPUT: true; the input reads as it did. -/
def fnExactMatchesOfSpec : ChangeSpec := { name := "fnExactMatchesOf", fn := fun _ => fun
  | [d1, d2, d3, d4] => { results := [.lit (.bool true)], args := [d1, d2, d3, d4] }
  | _ => none }
def fnExactMatchesOfRow : OpenClaim := { program := "ytjjkfhjkfoikbaa", sum := "f6126e8a84c60d56232581e1016e311c23245fe4e363c12d332f1284ae1e5e19", func := "loop.example/g01989/laws.FnExactMatchesOf", spec := "fnExactMatchesOf", unfollowed := true, recurses := true, apart := false }
def FnExactMatchesOfSaid : Prop := fnExactMatchesOfRow.holds Try.pinned (OpenSpec.ofChange fnExactMatchesOfSpec)

/-- ITS FALSE NEIGHBOUR: 'it returns false'. Refute it at one input. -/
def fnExactMatchesOfWrong : ChangeSpec := { name := "fnExactMatchesOf", fn := fun _ => fun
  | [d1, d2, d3, d4] => { results := [.lit (.bool false)], args := [d1, d2, d3, d4] }
  | _ => none }
def FnExactMatchesOfWrongFalsely : Prop := fnExactMatchesOfRow.holds Try.pinned (OpenSpec.ofChange fnExactMatchesOfWrong)

/-- 'laws.FnExactRespondTo': WHATEVER THE INPUT: true; the input reads as it did. -/
def fnExactRespondToSpec : ChangeSpec := { name := "fnExactRespondTo", fn := fun _ => fun
  | [d1, d2, d3, d4, d5] => { results := [.lit (.bool true)], args := [d1, d2, d3, d4, d5] }
  | _ => none }
def fnExactRespondToRow : OpenClaim := { program := "ytjjkfhjkfoikbaa", sum := "f6126e8a84c60d56232581e1016e311c23245fe4e363c12d332f1284ae1e5e19", func := "loop.example/g01989/laws.FnExactRespondTo", spec := "fnExactRespondTo", unfollowed := true, recurses := true, apart := false }
def FnExactRespondToSaid : Prop := fnExactRespondToRow.holds Try.pinned (OpenSpec.ofChange fnExactRespondToSpec)

/-- ITS FALSE NEIGHBOUR: 'it returns false'. Refute it at one input. -/
def fnExactRespondToWrong : ChangeSpec := { name := "fnExactRespondTo", fn := fun _ => fun
  | [d1, d2, d3, d4, d5] => { results := [.lit (.bool false)], args := [d1, d2, d3, d4, d5] }
  | _ => none }
def FnExactRespondToWrongFalsely : Prop := fnExactRespondToRow.holds Try.pinned (OpenSpec.ofChange fnExactRespondToWrong)

/-- 'laws.FnExactIsOrder': WHATEVER THE INPUT: true; the input reads as it did. -/
def fnExactIsOrderSpec : ChangeSpec := { name := "fnExactIsOrder", fn := fun _ => fun
  | [d1, d2, d3, d4] => { results := [.lit (.bool true)], args := [d1, d2, d3, d4] }
  | _ => none }
def fnExactIsOrderRow : OpenClaim := { program := "ytjjkfhjkfoikbaa", sum := "f6126e8a84c60d56232581e1016e311c23245fe4e363c12d332f1284ae1e5e19", func := "loop.example/g01989/laws.FnExactIsOrder", spec := "fnExactIsOrder", unfollowed := true, recurses := true, apart := false }
def FnExactIsOrderSaid : Prop := fnExactIsOrderRow.holds Try.pinned (OpenSpec.ofChange fnExactIsOrderSpec)

/-- ITS FALSE NEIGHBOUR: 'it returns false'. Refute it at one input. -/
def fnExactIsOrderWrong : ChangeSpec := { name := "fnExactIsOrder", fn := fun _ => fun
  | [d1, d2, d3, d4] => { results := [.lit (.bool false)], args := [d1, d2, d3, d4] }
  | _ => none }
def FnExactIsOrderWrongFalsely : Prop := fnExactIsOrderRow.holds Try.pinned (OpenSpec.ofChange fnExactIsOrderWrong)

/- THE SECOND FORM. 'bulk': how many values and letters a reading holds, each counted each time it is reached (what is shared counts as often as it is met; a slice's spare places count too). A statement '..UptoSaid' is the law's where the arguments, and the package variables that the reading takes, are together of bulk at most 1048576: NARROWER than '..Said'. Prove '..Said' where nothing that the law and all that it calls make is longer than what came in: it says more and counts as full. Else prove '..UptoSaid'. A law counts once. -/
mutual
def uptoBulk {H : Type} : DataW H → Nat
  | .lit (.string bytes) => bytes.length + 1
  | .lit _ => 1
  | .nil => 1
  | .ptr d => uptoBulk d + 1
  | .slice elems spare => uptoBulkAll elems + uptoBulkAll spare + 1
  | .agg parts => uptoBulkAll parts + 1
  | .iface _ d => uptoBulk d + 1
  | .map entries => uptoBulkEntries entries + 1
  | .held _ => 1
def uptoBulkAll {H : Type} : List (DataW H) → Nat
  | [] => 0
  | d :: r => uptoBulk d + uptoBulkAll r
def uptoBulkEntries {H : Type} : List (Lit × DataW H) → Nat
  | [] => 0
  | x :: r => uptoBulkEntry x + uptoBulkEntries r
def uptoBulkEntry {H : Type} : Lit × DataW H → Nat
  | (.string bytes, d) => bytes.length + uptoBulk d + 1
  | (_, d) => uptoBulk d + 1
 end
def uptoSmall : (H : Type) → List (DataW H) → Bool := fun _ ds => decide (uptoBulkAll ds ≤ 1048576)
def OpenSpec.upto (s : _root_.Go.ChangeSpec) : _root_.Go.OpenSpec := { _root_.Go.OpenSpec.ofChange s with cond := some uptoSmall }

/-- 'laws.FnExactMatchAtom', WHERE WHAT IT READS IS OF BULK AT MOST 1048576: true; the input reads as it did. -/
def fnExactMatchAtomUptoRow : OpenClaim := { program := "ytjjkfhjkfoikbaa", sum := "f6126e8a84c60d56232581e1016e311c23245fe4e363c12d332f1284ae1e5e19", func := "loop.example/g01989/laws.FnExactMatchAtom", spec := "fnExactMatchAtom", apart := false, narrowed := true }
def FnExactMatchAtomUptoSaid : Prop := fnExactMatchAtomUptoRow.holds Try.pinned (OpenSpec.upto fnExactMatchAtomSpec)

/-- 'laws.FnExactAddTuple', WHERE WHAT IT READS IS OF BULK AT MOST 1048576: true; the input reads as it did. -/
def fnExactAddTupleUptoRow : OpenClaim := { program := "ytjjkfhjkfoikbaa", sum := "f6126e8a84c60d56232581e1016e311c23245fe4e363c12d332f1284ae1e5e19", func := "loop.example/g01989/laws.FnExactAddTuple", spec := "fnExactAddTuple", inPlace := ["slices.overlaps[[]int]"], unfollowed := true, recurses := true, apart := false, narrowed := true }
def FnExactAddTupleUptoSaid : Prop := fnExactAddTupleUptoRow.holds Try.pinned (OpenSpec.upto fnExactAddTupleSpec)

/-- 'laws.FnExactBindingsOf', WHERE WHAT IT READS IS OF BULK AT MOST 1048576: true; the input reads as it did. -/
def fnExactBindingsOfUptoRow : OpenClaim := { program := "ytjjkfhjkfoikbaa", sum := "f6126e8a84c60d56232581e1016e311c23245fe4e363c12d332f1284ae1e5e19", func := "loop.example/g01989/laws.FnExactBindingsOf", spec := "fnExactBindingsOf", apart := false, narrowed := true }
def FnExactBindingsOfUptoSaid : Prop := fnExactBindingsOfUptoRow.holds Try.pinned (OpenSpec.upto fnExactBindingsOfSpec)

/-- 'laws.FnExactAddFact', WHERE WHAT IT READS IS OF BULK AT MOST 1048576: true; the input reads as it did. -/
def fnExactAddFactUptoRow : OpenClaim := { program := "ytjjkfhjkfoikbaa", sum := "f6126e8a84c60d56232581e1016e311c23245fe4e363c12d332f1284ae1e5e19", func := "loop.example/g01989/laws.FnExactAddFact", spec := "fnExactAddFact", inPlace := ["slices.overlaps[loop.example/g01989/impl.Fact]"], unfollowed := true, recurses := true, apart := false, narrowed := true }
def FnExactAddFactUptoSaid : Prop := fnExactAddFactUptoRow.holds Try.pinned (OpenSpec.upto fnExactAddFactSpec)

/-- 'laws.FnExactIsResponse', WHERE WHAT IT READS IS OF BULK AT MOST 1048576: true; the input reads as it did. -/
def fnExactIsResponseUptoRow : OpenClaim := { program := "ytjjkfhjkfoikbaa", sum := "f6126e8a84c60d56232581e1016e311c23245fe4e363c12d332f1284ae1e5e19", func := "loop.example/g01989/laws.FnExactIsResponse", spec := "fnExactIsResponse", unfollowed := true, recurses := true, apart := false, narrowed := true }
def FnExactIsResponseUptoSaid : Prop := fnExactIsResponseUptoRow.holds Try.pinned (OpenSpec.upto fnExactIsResponseSpec)

/-- 'laws.FnExactMatchesOf', WHERE WHAT IT READS IS OF BULK AT MOST 1048576: true; the input reads as it did. -/
def fnExactMatchesOfUptoRow : OpenClaim := { program := "ytjjkfhjkfoikbaa", sum := "f6126e8a84c60d56232581e1016e311c23245fe4e363c12d332f1284ae1e5e19", func := "loop.example/g01989/laws.FnExactMatchesOf", spec := "fnExactMatchesOf", unfollowed := true, recurses := true, apart := false, narrowed := true }
def FnExactMatchesOfUptoSaid : Prop := fnExactMatchesOfUptoRow.holds Try.pinned (OpenSpec.upto fnExactMatchesOfSpec)

/-- 'laws.FnExactRespondTo', WHERE WHAT IT READS IS OF BULK AT MOST 1048576: true; the input reads as it did. -/
def fnExactRespondToUptoRow : OpenClaim := { program := "ytjjkfhjkfoikbaa", sum := "f6126e8a84c60d56232581e1016e311c23245fe4e363c12d332f1284ae1e5e19", func := "loop.example/g01989/laws.FnExactRespondTo", spec := "fnExactRespondTo", unfollowed := true, recurses := true, apart := false, narrowed := true }
def FnExactRespondToUptoSaid : Prop := fnExactRespondToUptoRow.holds Try.pinned (OpenSpec.upto fnExactRespondToSpec)

/-- 'laws.FnExactIsOrder', WHERE WHAT IT READS IS OF BULK AT MOST 1048576: true; the input reads as it did. -/
def fnExactIsOrderUptoRow : OpenClaim := { program := "ytjjkfhjkfoikbaa", sum := "f6126e8a84c60d56232581e1016e311c23245fe4e363c12d332f1284ae1e5e19", func := "loop.example/g01989/laws.FnExactIsOrder", spec := "fnExactIsOrder", unfollowed := true, recurses := true, apart := false, narrowed := true }
def FnExactIsOrderUptoSaid : Prop := fnExactIsOrderUptoRow.holds Try.pinned (OpenSpec.upto fnExactIsOrderSpec)

end Rows
end Go.Proofs.Ytjjkfhjkfoikbaa
