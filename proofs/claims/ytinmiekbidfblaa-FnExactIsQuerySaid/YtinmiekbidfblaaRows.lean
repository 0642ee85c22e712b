/-
  No cell of these rows narrows 'for every input' (looked for: loops, veiled, ifaces, maps, wideKeys, modest, calm, conditions, laid).
  DERIVED. THE GIVEN ROWS OF THIS SEAT. 12 by the template 'for every input the law returns true; each argument reads behind the call as it read before'; 0 by the template 'total and deterministic' (their statements: YtinmiekbidfblaaTotals.lean).
  GIVEN WITH THE SEED: the statements are not yours to turn. If you find one false, say at which input.
  Laid BY PROGRAM, IN A SANDBOX (cutbox-rows.mjs): the forced cells as the released guide's own fill.sh prints them over the translation 421e7fbdd9dccdca… (all of the seat's roots in one cut). By AI agents, Wed Nov 11 2026. No macro, syntax, notation, axiom, sorry.
-/
import Derived.Test.YtinmiekbidfblaaChecked
import GoSem.Claim
import GoSem.ClaimJoined
import GoSem.ClaimMapViews
import Derived.JoinedTies
import Derived.KernelRfl
namespace Go.Proofs.Ytinmiekbidfblaa
/- THE CELL 'sum', in the pinned program and in every row, IS THE sha256 OF THE DUMP (.gsa) THAT YtinmiekbidfblaaProg.lean LOADS. Nothing in Lean hashes anything: it is a label: what it is worth is what the hold of that sum in a sandbox is worth. -/
noncomputable def Try.pinned : Pinned := { name := "ytinmiekbidfblaa", sum := "421e7fbdd9dccdca546e29ea2857dd72323286f8216eb4e89528f0b21bc5c5f9", checked := Try.checked }
namespace Rows
def none {H : Type} : Left H := { results := [], args := [] }

/-- 'laws.FnExactIsAccess': WHATEVER THE INPUT: true; the input reads as it did. -/
def fnExactIsAccessSpec : ChangeSpec := { name := "fnExactIsAccess", fn := fun _ => fun
  | [d1, d2, d3] => { results := [.lit (.bool true)], args := [d1, d2, d3] }
  | _ => none }
def fnExactIsAccessRow : OpenClaim := { program := "ytinmiekbidfblaa", sum := "421e7fbdd9dccdca546e29ea2857dd72323286f8216eb4e89528f0b21bc5c5f9", func := "loop.example/g01989/laws.FnExactIsAccess", spec := "fnExactIsAccess", unfollowed := true, recurses := true, apart := false }
def FnExactIsAccessSaid : Prop := fnExactIsAccessRow.holds Try.pinned (OpenSpec.ofChange fnExactIsAccessSpec)

/-- ITS FALSE NEIGHBOUR: 'it returns false'. Refute it at one input. -/
def fnExactIsAccessWrong : ChangeSpec := { name := "fnExactIsAccess", fn := fun _ => fun
  | [d1, d2, d3] => { results := [.lit (.bool false)], args := [d1, d2, d3] }
  | _ => none }
def FnExactIsAccessWrongFalsely : Prop := fnExactIsAccessRow.holds Try.pinned (OpenSpec.ofChange fnExactIsAccessWrong)

/-- 'laws.FnExactAreFacts': WHATEVER THE INPUT: true; the input reads as it did. -/
def fnExactAreFactsSpec : ChangeSpec := { name := "fnExactAreFacts", fn := fun _ => fun
  | [d1, d2] => { results := [.lit (.bool true)], args := [d1, d2] }
  | _ => none }
def fnExactAreFactsRow : OpenClaim := { program := "ytinmiekbidfblaa", sum := "421e7fbdd9dccdca546e29ea2857dd72323286f8216eb4e89528f0b21bc5c5f9", func := "loop.example/g01989/laws.FnExactAreFacts", spec := "fnExactAreFacts", unfollowed := true, recurses := true, apart := false }
def FnExactAreFactsSaid : Prop := fnExactAreFactsRow.holds Try.pinned (OpenSpec.ofChange fnExactAreFactsSpec)

/-- ITS FALSE NEIGHBOUR: 'it returns false'. Refute it at one input. -/
def fnExactAreFactsWrong : ChangeSpec := { name := "fnExactAreFacts", fn := fun _ => fun
  | [d1, d2] => { results := [.lit (.bool false)], args := [d1, d2] }
  | _ => none }
def FnExactAreFactsWrongFalsely : Prop := fnExactAreFactsRow.holds Try.pinned (OpenSpec.ofChange fnExactAreFactsWrong)

/-- 'laws.FnExactMatchAtom': WHATEVER THE INPUT: true; the input reads as it did. -/
def fnExactMatchAtomSpec : ChangeSpec := { name := "fnExactMatchAtom", fn := fun _ => fun
  | [d1, d2, d3] => { results := [.lit (.bool true)], args := [d1, d2, d3] }
  | _ => none }
def fnExactMatchAtomRow : OpenClaim := { program := "ytinmiekbidfblaa", sum := "421e7fbdd9dccdca546e29ea2857dd72323286f8216eb4e89528f0b21bc5c5f9", func := "loop.example/g01989/laws.FnExactMatchAtom", spec := "fnExactMatchAtom", apart := false }
def FnExactMatchAtomSaid : Prop := fnExactMatchAtomRow.holds Try.pinned (OpenSpec.ofChange fnExactMatchAtomSpec)

/-- ITS FALSE NEIGHBOUR: 'it returns false'. Refute it at one input. -/
def fnExactMatchAtomWrong : ChangeSpec := { name := "fnExactMatchAtom", fn := fun _ => fun
  | [d1, d2, d3] => { results := [.lit (.bool false)], args := [d1, d2, d3] }
  | _ => none }
def FnExactMatchAtomWrongFalsely : Prop := fnExactMatchAtomRow.holds Try.pinned (OpenSpec.ofChange fnExactMatchAtomWrong)

/-- 'laws.FnExactAddTuple': WHATEVER THE INPUT: true; the input reads as it did. -/
def fnExactAddTupleSpec : ChangeSpec := { name := "fnExactAddTuple", fn := fun _ => fun
  | [d1, d2] => { results := [.lit (.bool true)], args := [d1, d2] }
  | _ => none }
def fnExactAddTupleRow : OpenClaim := { program := "ytinmiekbidfblaa", sum := "421e7fbdd9dccdca546e29ea2857dd72323286f8216eb4e89528f0b21bc5c5f9", func := "loop.example/g01989/laws.FnExactAddTuple", spec := "fnExactAddTuple", inPlace := ["slices.overlaps[[]int]"], unfollowed := true, recurses := true, apart := false }
def FnExactAddTupleSaid : Prop := fnExactAddTupleRow.holds Try.pinned (OpenSpec.ofChange fnExactAddTupleSpec)

/-- ITS FALSE NEIGHBOUR: 'it returns false'. Refute it at one input. -/
def fnExactAddTupleWrong : ChangeSpec := { name := "fnExactAddTuple", fn := fun _ => fun
  | [d1, d2] => { results := [.lit (.bool false)], args := [d1, d2] }
  | _ => none }
def FnExactAddTupleWrongFalsely : Prop := fnExactAddTupleRow.holds Try.pinned (OpenSpec.ofChange fnExactAddTupleWrong)

/-- 'laws.FnExactBindingsOf': WHATEVER THE INPUT: true; the input reads as it did. -/
def fnExactBindingsOfSpec : ChangeSpec := { name := "fnExactBindingsOf", fn := fun _ => fun
  | [d1, d2] => { results := [.lit (.bool true)], args := [d1, d2] }
  | _ => none }
def fnExactBindingsOfRow : OpenClaim := { program := "ytinmiekbidfblaa", sum := "421e7fbdd9dccdca546e29ea2857dd72323286f8216eb4e89528f0b21bc5c5f9", func := "loop.example/g01989/laws.FnExactBindingsOf", spec := "fnExactBindingsOf", apart := false }
def FnExactBindingsOfSaid : Prop := fnExactBindingsOfRow.holds Try.pinned (OpenSpec.ofChange fnExactBindingsOfSpec)

/-- ITS FALSE NEIGHBOUR: 'it returns false'. Refute it at one input. -/
def fnExactBindingsOfWrong : ChangeSpec := { name := "fnExactBindingsOf", fn := fun _ => fun
  | [d1, d2] => { results := [.lit (.bool false)], args := [d1, d2] }
  | _ => none }
def FnExactBindingsOfWrongFalsely : Prop := fnExactBindingsOfRow.holds Try.pinned (OpenSpec.ofChange fnExactBindingsOfWrong)

/-- 'laws.FnExactAddFact': WHATEVER THE INPUT: true; the input reads as it did. -/
def fnExactAddFactSpec : ChangeSpec := { name := "fnExactAddFact", fn := fun _ => fun
  | [d1, d2] => { results := [.lit (.bool true)], args := [d1, d2] }
  | _ => none }
def fnExactAddFactRow : OpenClaim := { program := "ytinmiekbidfblaa", sum := "421e7fbdd9dccdca546e29ea2857dd72323286f8216eb4e89528f0b21bc5c5f9", func := "loop.example/g01989/laws.FnExactAddFact", spec := "fnExactAddFact", inPlace := ["slices.overlaps[loop.example/g01989/impl.Fact]"], unfollowed := true, recurses := true, apart := false }
def FnExactAddFactSaid : Prop := fnExactAddFactRow.holds Try.pinned (OpenSpec.ofChange fnExactAddFactSpec)

/-- ITS FALSE NEIGHBOUR: 'it returns false'. Refute it at one input. -/
def fnExactAddFactWrong : ChangeSpec := { name := "fnExactAddFact", fn := fun _ => fun
  | [d1, d2] => { results := [.lit (.bool false)], args := [d1, d2] }
  | _ => none }
def FnExactAddFactWrongFalsely : Prop := fnExactAddFactRow.holds Try.pinned (OpenSpec.ofChange fnExactAddFactWrong)

/-- 'laws.FnExactIsResponse': WHATEVER THE INPUT: true; the input reads as it did. -/
def fnExactIsResponseSpec : ChangeSpec := { name := "fnExactIsResponse", fn := fun _ => fun
  | [d1, d2, d3, d4, d5] => { results := [.lit (.bool true)], args := [d1, d2, d3, d4, d5] }
  | _ => none }
def fnExactIsResponseRow : OpenClaim := { program := "ytinmiekbidfblaa", sum := "421e7fbdd9dccdca546e29ea2857dd72323286f8216eb4e89528f0b21bc5c5f9", func := "loop.example/g01989/laws.FnExactIsResponse", spec := "fnExactIsResponse", unfollowed := true, recurses := true, apart := false }
def FnExactIsResponseSaid : Prop := fnExactIsResponseRow.holds Try.pinned (OpenSpec.ofChange fnExactIsResponseSpec)

/-- ITS FALSE NEIGHBOUR: 'it returns false'. Refute it at one input. -/
def fnExactIsResponseWrong : ChangeSpec := { name := "fnExactIsResponse", fn := fun _ => fun
  | [d1, d2, d3, d4, d5] => { results := [.lit (.bool false)], args := [d1, d2, d3, d4, d5] }
  | _ => none }
def FnExactIsResponseWrongFalsely : Prop := fnExactIsResponseRow.holds Try.pinned (OpenSpec.ofChange fnExactIsResponseWrong)

/-- 'laws.FnExactMatchesOf': WHATEVER THE INPUT: true; the input reads as it did. -/
def fnExactMatchesOfSpec : ChangeSpec := { name := "fnExactMatchesOf", fn := fun _ => fun
  | [d1, d2, d3, d4] => { results := [.lit (.bool true)], args := [d1, d2, d3, d4] }
  | _ => none }
def fnExactMatchesOfRow : OpenClaim := { program := "ytinmiekbidfblaa", sum := "421e7fbdd9dccdca546e29ea2857dd72323286f8216eb4e89528f0b21bc5c5f9", func := "loop.example/g01989/laws.FnExactMatchesOf", spec := "fnExactMatchesOf", unfollowed := true, recurses := true, apart := false }
def FnExactMatchesOfSaid : Prop := fnExactMatchesOfRow.holds Try.pinned (OpenSpec.ofChange fnExactMatchesOfSpec)

/-- ITS FALSE NEIGHBOUR: 'it returns false'. Refute it at one input. -/
def fnExactMatchesOfWrong : ChangeSpec := { name := "fnExactMatchesOf", fn := fun _ => fun
  | [d1, d2, d3, d4] => { results := [.lit (.bool false)], args := [d1, d2, d3, d4] }
  | _ => none }
def FnExactMatchesOfWrongFalsely : Prop := fnExactMatchesOfRow.holds Try.pinned (OpenSpec.ofChange fnExactMatchesOfWrong)

/-- 'laws.FnExactRespondTo': WHATEVER THE INPUT: true; the input reads as it did. -/
def fnExactRespondToSpec : ChangeSpec := { name := "fnExactRespondTo", fn := fun _ => fun
  | [d1, d2, d3, d4, d5] => { results := [.lit (.bool true)], args := [d1, d2, d3, d4, d5] }
  | _ => none }
def fnExactRespondToRow : OpenClaim := { program := "ytinmiekbidfblaa", sum := "421e7fbdd9dccdca546e29ea2857dd72323286f8216eb4e89528f0b21bc5c5f9", func := "loop.example/g01989/laws.FnExactRespondTo", spec := "fnExactRespondTo", unfollowed := true, recurses := true, apart := false }
def FnExactRespondToSaid : Prop := fnExactRespondToRow.holds Try.pinned (OpenSpec.ofChange fnExactRespondToSpec)

/-- ITS FALSE NEIGHBOUR: 'it returns false'. Refute it at one input. -/
def fnExactRespondToWrong : ChangeSpec := { name := "fnExactRespondTo", fn := fun _ => fun
  | [d1, d2, d3, d4, d5] => { results := [.lit (.bool false)], args := [d1, d2, d3, d4, d5] }
  | _ => none }
def FnExactRespondToWrongFalsely : Prop := fnExactRespondToRow.holds Try.pinned (OpenSpec.ofChange fnExactRespondToWrong)

/-- 'laws.FnExactConstantsOf': WHATEVER THE INPUT: true; the input reads as it did. -/
def fnExactConstantsOfSpec : ChangeSpec := { name := "fnExactConstantsOf", fn := fun _ => fun
  | [d] => { results := [.lit (.bool true)], args := [d] }
  | _ => none }
def fnExactConstantsOfRow : OpenClaim := { program := "ytinmiekbidfblaa", sum := "421e7fbdd9dccdca546e29ea2857dd72323286f8216eb4e89528f0b21bc5c5f9", func := "loop.example/g01989/laws.FnExactConstantsOf", spec := "fnExactConstantsOf", unfollowed := true, recurses := true, apart := false }
def FnExactConstantsOfSaid : Prop := fnExactConstantsOfRow.holds Try.pinned (OpenSpec.ofChange fnExactConstantsOfSpec)

/-- ITS FALSE NEIGHBOUR: 'it returns false'. Refute it at one input. -/
def fnExactConstantsOfWrong : ChangeSpec := { name := "fnExactConstantsOf", fn := fun _ => fun
  | [d] => { results := [.lit (.bool false)], args := [d] }
  | _ => none }
def FnExactConstantsOfWrongFalsely : Prop := fnExactConstantsOfRow.holds Try.pinned (OpenSpec.ofChange fnExactConstantsOfWrong)

/-- 'laws.FnExactVarsOf': WHATEVER THE INPUT: true; the input reads as it did. -/
def fnExactVarsOfSpec : ChangeSpec := { name := "fnExactVarsOf", fn := fun _ => fun
  | [d] => { results := [.lit (.bool true)], args := [d] }
  | _ => none }
def fnExactVarsOfRow : OpenClaim := { program := "ytinmiekbidfblaa", sum := "421e7fbdd9dccdca546e29ea2857dd72323286f8216eb4e89528f0b21bc5c5f9", func := "loop.example/g01989/laws.FnExactVarsOf", spec := "fnExactVarsOf", unfollowed := true, recurses := true, apart := false }
def FnExactVarsOfSaid : Prop := fnExactVarsOfRow.holds Try.pinned (OpenSpec.ofChange fnExactVarsOfSpec)

/-- ITS FALSE NEIGHBOUR: 'it returns false'. Refute it at one input. -/
def fnExactVarsOfWrong : ChangeSpec := { name := "fnExactVarsOf", fn := fun _ => fun
  | [d] => { results := [.lit (.bool false)], args := [d] }
  | _ => none }
def FnExactVarsOfWrongFalsely : Prop := fnExactVarsOfRow.holds Try.pinned (OpenSpec.ofChange fnExactVarsOfWrong)

/-- 'laws.FnExactIsQuery': WHATEVER THE INPUT: true; the input reads as it did. -/
def fnExactIsQuerySpec : ChangeSpec := { name := "fnExactIsQuery", fn := fun _ => fun
  | [d1, d2] => { results := [.lit (.bool true)], args := [d1, d2] }
  | _ => none }
def fnExactIsQueryRow : OpenClaim := { program := "ytinmiekbidfblaa", sum := "421e7fbdd9dccdca546e29ea2857dd72323286f8216eb4e89528f0b21bc5c5f9", func := "loop.example/g01989/laws.FnExactIsQuery", spec := "fnExactIsQuery", unfollowed := true, recurses := true, apart := false }
def FnExactIsQuerySaid : Prop := fnExactIsQueryRow.holds Try.pinned (OpenSpec.ofChange fnExactIsQuerySpec)

/-- ITS FALSE NEIGHBOUR: 'it returns false'. Refute it at one input. -/
def fnExactIsQueryWrong : ChangeSpec := { name := "fnExactIsQuery", fn := fun _ => fun
  | [d1, d2] => { results := [.lit (.bool false)], args := [d1, d2] }
  | _ => none }
def FnExactIsQueryWrongFalsely : Prop := fnExactIsQueryRow.holds Try.pinned (OpenSpec.ofChange fnExactIsQueryWrong)

/- THE SECOND FORM. 'bulk': how many values and letters a reading holds, each counted each time it is reached (what is shared counts as often as it is met; a slice's spare places count too). A statement '..UptoSaid' is the law's where the arguments, and the package variables that the reading takes, are together of bulk at most 1048576: NARROWER than '..Said'. Prove '..Said' where nothing that the law and all that it calls make is longer than what came in: it says more and counts as full. Else prove '..UptoSaid'. A law counts once. -/
mutual
def uptoBulk {H : Type} : DataW H → Nat
  | .lit (.string bytes) => bytes.length + 1
  | .lit _ => 1
  | .nil => 1
  | .ptr d => uptoBulk d + 1
  | .slice elems spare => uptoBulkAll elems + uptoBulkAll spare + 1
  | .agg parts => uptoBulkAll parts + 1
  | .iface _ d => uptoBulk d + 1
  | .map entries => uptoBulkEntries entries + 1
  | .held _ => 1
def uptoBulkAll {H : Type} : List (DataW H) → Nat
  | [] => 0
  | d :: r => uptoBulk d + uptoBulkAll r
def uptoBulkEntries {H : Type} : List (Lit × DataW H) → Nat
  | [] => 0
  | x :: r => uptoBulkEntry x + uptoBulkEntries r
def uptoBulkEntry {H : Type} : Lit × DataW H → Nat
  | (.string bytes, d) => bytes.length + uptoBulk d + 1
  | (_, d) => uptoBulk d + 1
 end
def uptoSmall : (H : Type) → List (DataW H) → Bool := fun _ ds => decide (uptoBulkAll ds ≤ 1048576)
def OpenSpec.upto (s : _root_.Go.ChangeSpec) : _root_.Go.OpenSpec := { _root_.Go.OpenSpec.ofChange s with cond := some uptoSmall }

/-- 'laws.FnExactIsAccess', WHERE WHAT IT READS IS OF BULK AT MOST 1048576: true; the input reads as it did. -/
def fnExactIsAccessUptoRow : OpenClaim := { program := "ytinmiekbidfblaa", sum := "421e7fbdd9dccdca546e29ea2857dd72323286f8216eb4e89528f0b21bc5c5f9", func := "loop.example/g01989/laws.FnExactIsAccess", spec := "fnExactIsAccess", unfollowed := true, recurses := true, apart := false, narrowed := true }
def FnExactIsAccessUptoSaid : Prop := fnExactIsAccessUptoRow.holds Try.pinned (OpenSpec.upto fnExactIsAccessSpec)

/-- 'laws.FnExactAreFacts', WHERE WHAT IT READS IS OF BULK AT MOST 1048576: true; the input reads as it did. -/
def fnExactAreFactsUptoRow : OpenClaim := { program := "ytinmiekbidfblaa", sum := "421e7fbdd9dccdca546e29ea2857dd72323286f8216eb4e89528f0b21bc5c5f9", func := "loop.example/g01989/laws.FnExactAreFacts", spec := "fnExactAreFacts", unfollowed := true, recurses := true, apart := false, narrowed := true }
def FnExactAreFactsUptoSaid : Prop := fnExactAreFactsUptoRow.holds Try.pinned (OpenSpec.upto fnExactAreFactsSpec)

/-- 'laws.FnExactMatchAtom', WHERE WHAT IT READS IS OF BULK AT MOST 1048576: true; the input reads as it did. -/
def fnExactMatchAtomUptoRow : OpenClaim := { program := "ytinmiekbidfblaa", sum := "421e7fbdd9dccdca546e29ea2857dd72323286f8216eb4e89528f0b21bc5c5f9", func := "loop.example/g01989/laws.FnExactMatchAtom", spec := "fnExactMatchAtom", apart := false, narrowed := true }
def FnExactMatchAtomUptoSaid : Prop := fnExactMatchAtomUptoRow.holds Try.pinned (OpenSpec.upto fnExactMatchAtomSpec)

/-- 'laws.FnExactAddTuple', WHERE WHAT IT READS IS OF BULK AT MOST 1048576: true; the input reads as it did. -/
def fnExactAddTupleUptoRow : OpenClaim := { program := "ytinmiekbidfblaa", sum := "421e7fbdd9dccdca546e29ea2857dd72323286f8216eb4e89528f0b21bc5c5f9", func := "loop.example/g01989/laws.FnExactAddTuple", spec := "fnExactAddTuple", inPlace := ["slices.overlaps[[]int]"], unfollowed := true, recurses := true, apart := false, narrowed := true }
def FnExactAddTupleUptoSaid : Prop := fnExactAddTupleUptoRow.holds Try.pinned (OpenSpec.upto fnExactAddTupleSpec)

/-- 'laws.FnExactBindingsOf', WHERE WHAT IT READS IS OF BULK AT MOST 1048576: true; the input reads as it did. -/
def fnExactBindingsOfUptoRow : OpenClaim := { program := "ytinmiekbidfblaa", sum := "421e7fbdd9dccdca546e29ea2857dd72323286f8216eb4e89528f0b21bc5c5f9", func := "loop.example/g01989/laws.FnExactBindingsOf", spec := "fnExactBindingsOf", apart := false, narrowed := true }
def FnExactBindingsOfUptoSaid : Prop := fnExactBindingsOfUptoRow.holds Try.pinned (OpenSpec.upto fnExactBindingsOfSpec)

/-- 'laws.FnExactAddFact', WHERE WHAT IT READS IS OF BULK AT MOST 1048576: true; the input reads as it did. -/
def fnExactAddFactUptoRow : OpenClaim := { program := "ytinmiekbidfblaa", sum := "421e7fbdd9dccdca546e29ea2857dd72323286f8216eb4e89528f0b21bc5c5f9", func := "loop.example/g01989/laws.FnExactAddFact", spec := "fnExactAddFact", inPlace := ["slices.overlaps[loop.example/g01989/impl.Fact]"], unfollowed := true, recurses := true, apart := false, narrowed := true }
def FnExactAddFactUptoSaid : Prop := fnExactAddFactUptoRow.holds Try.pinned (OpenSpec.upto fnExactAddFactSpec)

/-- 'laws.FnExactIsResponse', WHERE WHAT IT READS IS OF BULK AT MOST 1048576: true; the input reads as it did. -/
def fnExactIsResponseUptoRow : OpenClaim := { program := "ytinmiekbidfblaa", sum := "421e7fbdd9dccdca546e29ea2857dd72323286f8216eb4e89528f0b21bc5c5f9", func := "loop.example/g01989/laws.FnExactIsResponse", spec := "fnExactIsResponse", unfollowed := true, recurses := true, apart := false, narrowed := true }
def FnExactIsResponseUptoSaid : Prop := fnExactIsResponseUptoRow.holds Try.pinned (OpenSpec.upto fnExactIsResponseSpec)

/-- 'laws.FnExactMatchesOf', WHERE WHAT IT READS IS OF BULK AT MOST 1048576: true; the input reads as it did. -/
def fnExactMatchesOfUptoRow : OpenClaim := { program := "ytinmiekbidfblaa", sum := "421e7fbdd9dccdca546e29ea2857dd72323286f8216eb4e89528f0b21bc5c5f9", func := "loop.example/g01989/laws.FnExactMatchesOf", spec := "fnExactMatchesOf", unfollowed := true, recurses := true, apart := false, narrowed := true }
def FnExactMatchesOfUptoSaid : Prop := fnExactMatchesOfUptoRow.holds Try.pinned (OpenSpec.upto fnExactMatchesOfSpec)

/-- 'laws.FnExactRespondTo', WHERE WHAT IT READS IS OF BULK AT MOST 1048576: true; the input reads as it did. -/
def fnExactRespondToUptoRow : OpenClaim := { program := "ytinmiekbidfblaa", sum := "421e7fbdd9dccdca546e29ea2857dd72323286f8216eb4e89528f0b21bc5c5f9", func := "loop.example/g01989/laws.FnExactRespondTo", spec := "fnExactRespondTo", unfollowed := true, recurses := true, apart := false, narrowed := true }
def FnExactRespondToUptoSaid : Prop := fnExactRespondToUptoRow.holds Try.pinned (OpenSpec.upto fnExactRespondToSpec)

/-- 'laws.FnExactConstantsOf', WHERE WHAT IT READS IS OF BULK AT MOST 1048576: true; the input reads as it did. -/
def fnExactConstantsOfUptoRow : OpenClaim := { program := "ytinmiekbidfblaa", sum := "421e7fbdd9dccdca546e29ea2857dd72323286f8216eb4e89528f0b21bc5c5f9", func := "loop.example/g01989/laws.FnExactConstantsOf", spec := "fnExactConstantsOf", unfollowed := true, recurses := true, apart := false, narrowed := true }
def FnExactConstantsOfUptoSaid : Prop := fnExactConstantsOfUptoRow.holds Try.pinned (OpenSpec.upto fnExactConstantsOfSpec)

/-- 'laws.FnExactVarsOf', WHERE WHAT IT READS IS OF BULK AT MOST 1048576: true; the input reads as it did. -/
def fnExactVarsOfUptoRow : OpenClaim := { program := "ytinmiekbidfblaa", sum := "421e7fbdd9dccdca546e29ea2857dd72323286f8216eb4e89528f0b21bc5c5f9", func := "loop.example/g01989/laws.FnExactVarsOf", spec := "fnExactVarsOf", unfollowed := true, recurses := true, apart := false, narrowed := true }
def FnExactVarsOfUptoSaid : Prop := fnExactVarsOfUptoRow.holds Try.pinned (OpenSpec.upto fnExactVarsOfSpec)

/-- 'laws.FnExactIsQuery', WHERE WHAT IT READS IS OF BULK AT MOST 1048576: true; the input reads as it did. -/
def fnExactIsQueryUptoRow : OpenClaim := { program := "ytinmiekbidfblaa", sum := "421e7fbdd9dccdca546e29ea2857dd72323286f8216eb4e89528f0b21bc5c5f9", func := "loop.example/g01989/laws.FnExactIsQuery", spec := "fnExactIsQuery", unfollowed := true, recurses := true, apart := false, narrowed := true }
def FnExactIsQueryUptoSaid : Prop := fnExactIsQueryUptoRow.holds Try.pinned (OpenSpec.upto fnExactIsQuerySpec)

end Rows
end Go.Proofs.Ytinmiekbidfblaa
