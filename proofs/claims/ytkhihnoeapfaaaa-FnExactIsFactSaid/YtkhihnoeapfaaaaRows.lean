/-
  No cell of these rows narrows 'for every input' (looked for: loops, veiled, ifaces, maps, wideKeys, modest, calm, conditions, laid).
  DERIVED. THE GIVEN ROWS OF THIS SEAT. 31 by the template 'for every input the law returns true; each argument reads behind the call as it read before'; 0 by the template 'total and deterministic' (their statements: YtkhihnoeapfaaaaTotals.lean).
  GIVEN WITH THE SEED: the statements are not yours to turn. If you find one false, say at which input.
  Laid BY PROGRAM, IN A SANDBOX (cutbox-rows.mjs): the forced cells as the released guide's own fill.sh prints them over the translation c16b461030566879… (all of the seat's roots in one cut). By AI agents, Wed Nov 11 2026. No macro, syntax, notation, axiom, sorry.
-/
import Derived.Test.YtkhihnoeapfaaaaChecked
import GoSem.Claim
import GoSem.ClaimJoined
import GoSem.ClaimMapViews
import Derived.JoinedTies
import Derived.KernelRfl
namespace Go.Proofs.Ytkhihnoeapfaaaa
/- THE CELL 'sum', in the pinned program and in every row, IS THE sha256 OF THE DUMP (.gsa) THAT YtkhihnoeapfaaaaProg.lean LOADS. Nothing in Lean hashes anything: it is a label: what it is worth is what the hold of that sum in a sandbox is worth. -/
noncomputable def Try.pinned : Pinned := { name := "ytkhihnoeapfaaaa", sum := "c16b461030566879e4c9645b3d2fd0abd08a62e161246838a1aa4f064faf903d", checked := Try.checked }
namespace Rows
def none {H : Type} : Left H := { results := [], args := [] }

/-- 'laws.FnExactIsSchema': WHATEVER THE INPUT: true; the input reads as it did. -/
def fnExactIsSchemaSpec : ChangeSpec := { name := "fnExactIsSchema", fn := fun _ => fun
  | [d] => { results := [.lit (.bool true)], args := [d] }
  | _ => none }
def fnExactIsSchemaRow : OpenClaim := { program := "ytkhihnoeapfaaaa", sum := "c16b461030566879e4c9645b3d2fd0abd08a62e161246838a1aa4f064faf903d", func := "loop.example/g01989/laws.FnExactIsSchema", spec := "fnExactIsSchema", unfollowed := true, recurses := true, apart := false }
def FnExactIsSchemaSaid : Prop := fnExactIsSchemaRow.holds Try.pinned (OpenSpec.ofChange fnExactIsSchemaSpec)

/-- ITS FALSE NEIGHBOUR: 'it returns false'. Refute it at one input. -/
def fnExactIsSchemaWrong : ChangeSpec := { name := "fnExactIsSchema", fn := fun _ => fun
  | [d] => { results := [.lit (.bool false)], args := [d] }
  | _ => none }
def FnExactIsSchemaWrongFalsely : Prop := fnExactIsSchemaRow.holds Try.pinned (OpenSpec.ofChange fnExactIsSchemaWrong)

/-- 'laws.FnExactSameSteps': WHATEVER THE INPUT: true; the input reads as it did. -/
def fnExactSameStepsSpec : ChangeSpec := { name := "fnExactSameSteps", fn := fun _ => fun
  | [d1, d2] => { results := [.lit (.bool true)], args := [d1, d2] }
  | _ => none }
def fnExactSameStepsRow : OpenClaim := { program := "ytkhihnoeapfaaaa", sum := "c16b461030566879e4c9645b3d2fd0abd08a62e161246838a1aa4f064faf903d", func := "loop.example/g01989/laws.FnExactSameSteps", spec := "fnExactSameSteps", apart := false }
def FnExactSameStepsSaid : Prop := fnExactSameStepsRow.holds Try.pinned (OpenSpec.ofChange fnExactSameStepsSpec)

/-- ITS FALSE NEIGHBOUR: 'it returns false'. Refute it at one input. -/
def fnExactSameStepsWrong : ChangeSpec := { name := "fnExactSameSteps", fn := fun _ => fun
  | [d1, d2] => { results := [.lit (.bool false)], args := [d1, d2] }
  | _ => none }
def FnExactSameStepsWrongFalsely : Prop := fnExactSameStepsRow.holds Try.pinned (OpenSpec.ofChange fnExactSameStepsWrong)

/-- 'laws.FnExactValueOf': WHATEVER THE INPUT: true; the input reads as it did. -/
def fnExactValueOfSpec : ChangeSpec := { name := "fnExactValueOf", fn := fun _ => fun
  | [d1, d2] => { results := [.lit (.bool true)], args := [d1, d2] }
  | _ => none }
def fnExactValueOfRow : OpenClaim := { program := "ytkhihnoeapfaaaa", sum := "c16b461030566879e4c9645b3d2fd0abd08a62e161246838a1aa4f064faf903d", func := "loop.example/g01989/laws.FnExactValueOf", spec := "fnExactValueOf", apart := false }
def FnExactValueOfSaid : Prop := fnExactValueOfRow.holds Try.pinned (OpenSpec.ofChange fnExactValueOfSpec)

/-- ITS FALSE NEIGHBOUR: 'it returns false'. Refute it at one input. -/
def fnExactValueOfWrong : ChangeSpec := { name := "fnExactValueOf", fn := fun _ => fun
  | [d1, d2] => { results := [.lit (.bool false)], args := [d1, d2] }
  | _ => none }
def FnExactValueOfWrongFalsely : Prop := fnExactValueOfRow.holds Try.pinned (OpenSpec.ofChange fnExactValueOfWrong)

/-- 'laws.FnExactIsFact': WHATEVER THE INPUT: true; the input reads as it did. -/
def fnExactIsFactSpec : ChangeSpec := { name := "fnExactIsFact", fn := fun _ => fun
  | [d1, d2] => { results := [.lit (.bool true)], args := [d1, d2] }
  | _ => none }
def fnExactIsFactRow : OpenClaim := { program := "ytkhihnoeapfaaaa", sum := "c16b461030566879e4c9645b3d2fd0abd08a62e161246838a1aa4f064faf903d", func := "loop.example/g01989/laws.FnExactIsFact", spec := "fnExactIsFact", unfollowed := true, recurses := true, apart := false }
def FnExactIsFactSaid : Prop := fnExactIsFactRow.holds Try.pinned (OpenSpec.ofChange fnExactIsFactSpec)

/-- ITS FALSE NEIGHBOUR: 'it returns false'. Refute it at one input. -/
def fnExactIsFactWrong : ChangeSpec := { name := "fnExactIsFact", fn := fun _ => fun
  | [d1, d2] => { results := [.lit (.bool false)], args := [d1, d2] }
  | _ => none }
def FnExactIsFactWrongFalsely : Prop := fnExactIsFactRow.holds Try.pinned (OpenSpec.ofChange fnExactIsFactWrong)

/-- 'laws.FnExactIsAtom': WHATEVER THE INPUT: true; the input reads as it did. -/
def fnExactIsAtomSpec : ChangeSpec := { name := "fnExactIsAtom", fn := fun _ => fun
  | [d1, d2] => { results := [.lit (.bool true)], args := [d1, d2] }
  | _ => none }
def fnExactIsAtomRow : OpenClaim := { program := "ytkhihnoeapfaaaa", sum := "c16b461030566879e4c9645b3d2fd0abd08a62e161246838a1aa4f064faf903d", func := "loop.example/g01989/laws.FnExactIsAtom", spec := "fnExactIsAtom", unfollowed := true, recurses := true, apart := false }
def FnExactIsAtomSaid : Prop := fnExactIsAtomRow.holds Try.pinned (OpenSpec.ofChange fnExactIsAtomSpec)

/-- ITS FALSE NEIGHBOUR: 'it returns false'. Refute it at one input. -/
def fnExactIsAtomWrong : ChangeSpec := { name := "fnExactIsAtom", fn := fun _ => fun
  | [d1, d2] => { results := [.lit (.bool false)], args := [d1, d2] }
  | _ => none }
def FnExactIsAtomWrongFalsely : Prop := fnExactIsAtomRow.holds Try.pinned (OpenSpec.ofChange fnExactIsAtomWrong)

/-- 'laws.FnExactUsesOf': WHATEVER THE INPUT: true; the input reads as it did. -/
def fnExactUsesOfSpec : ChangeSpec := { name := "fnExactUsesOf", fn := fun _ => fun
  | [d1, d2] => { results := [.lit (.bool true)], args := [d1, d2] }
  | _ => none }
def fnExactUsesOfRow : OpenClaim := { program := "ytkhihnoeapfaaaa", sum := "c16b461030566879e4c9645b3d2fd0abd08a62e161246838a1aa4f064faf903d", func := "loop.example/g01989/laws.FnExactUsesOf", spec := "fnExactUsesOf", apart := false }
def FnExactUsesOfSaid : Prop := fnExactUsesOfRow.holds Try.pinned (OpenSpec.ofChange fnExactUsesOfSpec)

/-- ITS FALSE NEIGHBOUR: 'it returns false'. Refute it at one input. -/
def fnExactUsesOfWrong : ChangeSpec := { name := "fnExactUsesOf", fn := fun _ => fun
  | [d1, d2] => { results := [.lit (.bool false)], args := [d1, d2] }
  | _ => none }
def FnExactUsesOfWrongFalsely : Prop := fnExactUsesOfRow.holds Try.pinned (OpenSpec.ofChange fnExactUsesOfWrong)

/-- 'laws.FnExactSameTuples': WHATEVER THE INPUT: true; the input reads as it did. -/
def fnExactSameTuplesSpec : ChangeSpec := { name := "fnExactSameTuples", fn := fun _ => fun
  | [d1, d2] => { results := [.lit (.bool true)], args := [d1, d2] }
  | _ => none }
def fnExactSameTuplesRow : OpenClaim := { program := "ytkhihnoeapfaaaa", sum := "c16b461030566879e4c9645b3d2fd0abd08a62e161246838a1aa4f064faf903d", func := "loop.example/g01989/laws.FnExactSameTuples", spec := "fnExactSameTuples", unfollowed := true, recurses := true, apart := false }
def FnExactSameTuplesSaid : Prop := fnExactSameTuplesRow.holds Try.pinned (OpenSpec.ofChange fnExactSameTuplesSpec)

/-- ITS FALSE NEIGHBOUR: 'it returns false'. Refute it at one input. -/
def fnExactSameTuplesWrong : ChangeSpec := { name := "fnExactSameTuples", fn := fun _ => fun
  | [d1, d2] => { results := [.lit (.bool false)], args := [d1, d2] }
  | _ => none }
def FnExactSameTuplesWrongFalsely : Prop := fnExactSameTuplesRow.holds Try.pinned (OpenSpec.ofChange fnExactSameTuplesWrong)

/-- 'laws.FnExactIsMethod': WHATEVER THE INPUT: true; the input reads as it did. -/
def fnExactIsMethodSpec : ChangeSpec := { name := "fnExactIsMethod", fn := fun _ => fun
  | [d1, d2] => { results := [.lit (.bool true)], args := [d1, d2] }
  | _ => none }
def fnExactIsMethodRow : OpenClaim := { program := "ytkhihnoeapfaaaa", sum := "c16b461030566879e4c9645b3d2fd0abd08a62e161246838a1aa4f064faf903d", func := "loop.example/g01989/laws.FnExactIsMethod", spec := "fnExactIsMethod", unfollowed := true, recurses := true, apart := false }
def FnExactIsMethodSaid : Prop := fnExactIsMethodRow.holds Try.pinned (OpenSpec.ofChange fnExactIsMethodSpec)

/-- ITS FALSE NEIGHBOUR: 'it returns false'. Refute it at one input. -/
def fnExactIsMethodWrong : ChangeSpec := { name := "fnExactIsMethod", fn := fun _ => fun
  | [d1, d2] => { results := [.lit (.bool false)], args := [d1, d2] }
  | _ => none }
def FnExactIsMethodWrongFalsely : Prop := fnExactIsMethodRow.holds Try.pinned (OpenSpec.ofChange fnExactIsMethodWrong)

/-- 'laws.FnExactCompareFacts': WHATEVER THE INPUT: true; the input reads as it did. -/
def fnExactCompareFactsSpec : ChangeSpec := { name := "fnExactCompareFacts", fn := fun _ => fun
  | [d1, d2] => { results := [.lit (.bool true)], args := [d1, d2] }
  | _ => none }
def fnExactCompareFactsRow : OpenClaim := { program := "ytkhihnoeapfaaaa", sum := "c16b461030566879e4c9645b3d2fd0abd08a62e161246838a1aa4f064faf903d", func := "loop.example/g01989/laws.FnExactCompareFacts", spec := "fnExactCompareFacts", apart := false }
def FnExactCompareFactsSaid : Prop := fnExactCompareFactsRow.holds Try.pinned (OpenSpec.ofChange fnExactCompareFactsSpec)

/-- ITS FALSE NEIGHBOUR: 'it returns false'. Refute it at one input. -/
def fnExactCompareFactsWrong : ChangeSpec := { name := "fnExactCompareFacts", fn := fun _ => fun
  | [d1, d2] => { results := [.lit (.bool false)], args := [d1, d2] }
  | _ => none }
def FnExactCompareFactsWrongFalsely : Prop := fnExactCompareFactsRow.holds Try.pinned (OpenSpec.ofChange fnExactCompareFactsWrong)

/-- 'laws.FnExactSameAccesses': WHATEVER THE INPUT: true; the input reads as it did. -/
def fnExactSameAccessesSpec : ChangeSpec := { name := "fnExactSameAccesses", fn := fun _ => fun
  | [d1, d2] => { results := [.lit (.bool true)], args := [d1, d2] }
  | _ => none }
def fnExactSameAccessesRow : OpenClaim := { program := "ytkhihnoeapfaaaa", sum := "c16b461030566879e4c9645b3d2fd0abd08a62e161246838a1aa4f064faf903d", func := "loop.example/g01989/laws.FnExactSameAccesses", spec := "fnExactSameAccesses", unfollowed := true, recurses := true, apart := false }
def FnExactSameAccessesSaid : Prop := fnExactSameAccessesRow.holds Try.pinned (OpenSpec.ofChange fnExactSameAccessesSpec)

/-- ITS FALSE NEIGHBOUR: 'it returns false'. Refute it at one input. -/
def fnExactSameAccessesWrong : ChangeSpec := { name := "fnExactSameAccesses", fn := fun _ => fun
  | [d1, d2] => { results := [.lit (.bool false)], args := [d1, d2] }
  | _ => none }
def FnExactSameAccessesWrongFalsely : Prop := fnExactSameAccessesRow.holds Try.pinned (OpenSpec.ofChange fnExactSameAccessesWrong)

/-- 'laws.FnExactCanCall': WHATEVER THE INPUT: true; the input reads as it did. -/
def fnExactCanCallSpec : ChangeSpec := { name := "fnExactCanCall", fn := fun _ => fun
  | [d1, d2, d3] => { results := [.lit (.bool true)], args := [d1, d2, d3] }
  | _ => none }
def fnExactCanCallRow : OpenClaim := { program := "ytkhihnoeapfaaaa", sum := "c16b461030566879e4c9645b3d2fd0abd08a62e161246838a1aa4f064faf903d", func := "loop.example/g01989/laws.FnExactCanCall", spec := "fnExactCanCall", unfollowed := true, recurses := true, apart := false }
def FnExactCanCallSaid : Prop := fnExactCanCallRow.holds Try.pinned (OpenSpec.ofChange fnExactCanCallSpec)

/-- ITS FALSE NEIGHBOUR: 'it returns false'. Refute it at one input. -/
def fnExactCanCallWrong : ChangeSpec := { name := "fnExactCanCall", fn := fun _ => fun
  | [d1, d2, d3] => { results := [.lit (.bool false)], args := [d1, d2, d3] }
  | _ => none }
def FnExactCanCallWrongFalsely : Prop := fnExactCanCallRow.holds Try.pinned (OpenSpec.ofChange fnExactCanCallWrong)

/-- 'laws.FnExactAreMethods': WHATEVER THE INPUT: true; the input reads as it did. -/
def fnExactAreMethodsSpec : ChangeSpec := { name := "fnExactAreMethods", fn := fun _ => fun
  | [d1, d2] => { results := [.lit (.bool true)], args := [d1, d2] }
  | _ => none }
def fnExactAreMethodsRow : OpenClaim := { program := "ytkhihnoeapfaaaa", sum := "c16b461030566879e4c9645b3d2fd0abd08a62e161246838a1aa4f064faf903d", func := "loop.example/g01989/laws.FnExactAreMethods", spec := "fnExactAreMethods", unfollowed := true, recurses := true, apart := false }
def FnExactAreMethodsSaid : Prop := fnExactAreMethodsRow.holds Try.pinned (OpenSpec.ofChange fnExactAreMethodsSpec)

/-- ITS FALSE NEIGHBOUR: 'it returns false'. Refute it at one input. -/
def fnExactAreMethodsWrong : ChangeSpec := { name := "fnExactAreMethods", fn := fun _ => fun
  | [d1, d2] => { results := [.lit (.bool false)], args := [d1, d2] }
  | _ => none }
def FnExactAreMethodsWrongFalsely : Prop := fnExactAreMethodsRow.holds Try.pinned (OpenSpec.ofChange fnExactAreMethodsWrong)

/-- 'laws.FnExactSameQueries': WHATEVER THE INPUT: true; the input reads as it did. -/
def fnExactSameQueriesSpec : ChangeSpec := { name := "fnExactSameQueries", fn := fun _ => fun
  | [d1, d2] => { results := [.lit (.bool true)], args := [d1, d2] }
  | _ => none }
def fnExactSameQueriesRow : OpenClaim := { program := "ytkhihnoeapfaaaa", sum := "c16b461030566879e4c9645b3d2fd0abd08a62e161246838a1aa4f064faf903d", func := "loop.example/g01989/laws.FnExactSameQueries", spec := "fnExactSameQueries", unfollowed := true, recurses := true, apart := false }
def FnExactSameQueriesSaid : Prop := fnExactSameQueriesRow.holds Try.pinned (OpenSpec.ofChange fnExactSameQueriesSpec)

/-- ITS FALSE NEIGHBOUR: 'it returns false'. Refute it at one input. -/
def fnExactSameQueriesWrong : ChangeSpec := { name := "fnExactSameQueries", fn := fun _ => fun
  | [d1, d2] => { results := [.lit (.bool false)], args := [d1, d2] }
  | _ => none }
def FnExactSameQueriesWrongFalsely : Prop := fnExactSameQueriesRow.holds Try.pinned (OpenSpec.ofChange fnExactSameQueriesWrong)

/-- 'laws.FnExactIsExact': WHATEVER THE INPUT: true; the input reads as it did. -/
def fnExactIsExactSpec : ChangeSpec := { name := "fnExactIsExact", fn := fun _ => fun
  | [d1, d2] => { results := [.lit (.bool true)], args := [d1, d2] }
  | _ => none }
def fnExactIsExactRow : OpenClaim := { program := "ytkhihnoeapfaaaa", sum := "c16b461030566879e4c9645b3d2fd0abd08a62e161246838a1aa4f064faf903d", func := "loop.example/g01989/laws.FnExactIsExact", spec := "fnExactIsExact", unfollowed := true, recurses := true, apart := false }
def FnExactIsExactSaid : Prop := fnExactIsExactRow.holds Try.pinned (OpenSpec.ofChange fnExactIsExactSpec)

/-- ITS FALSE NEIGHBOUR: 'it returns false'. Refute it at one input. -/
def fnExactIsExactWrong : ChangeSpec := { name := "fnExactIsExact", fn := fun _ => fun
  | [d1, d2] => { results := [.lit (.bool false)], args := [d1, d2] }
  | _ => none }
def FnExactIsExactWrongFalsely : Prop := fnExactIsExactRow.holds Try.pinned (OpenSpec.ofChange fnExactIsExactWrong)

/-- 'laws.FnExactOrderCost': WHATEVER THE INPUT: true; the input reads as it did. -/
def fnExactOrderCostSpec : ChangeSpec := { name := "fnExactOrderCost", fn := fun _ => fun
  | [d1, d2] => { results := [.lit (.bool true)], args := [d1, d2] }
  | _ => none }
def fnExactOrderCostRow : OpenClaim := { program := "ytkhihnoeapfaaaa", sum := "c16b461030566879e4c9645b3d2fd0abd08a62e161246838a1aa4f064faf903d", func := "loop.example/g01989/laws.FnExactOrderCost", spec := "fnExactOrderCost", apart := false }
def FnExactOrderCostSaid : Prop := fnExactOrderCostRow.holds Try.pinned (OpenSpec.ofChange fnExactOrderCostSpec)

/-- ITS FALSE NEIGHBOUR: 'it returns false'. Refute it at one input. -/
def fnExactOrderCostWrong : ChangeSpec := { name := "fnExactOrderCost", fn := fun _ => fun
  | [d1, d2] => { results := [.lit (.bool false)], args := [d1, d2] }
  | _ => none }
def FnExactOrderCostWrongFalsely : Prop := fnExactOrderCostRow.holds Try.pinned (OpenSpec.ofChange fnExactOrderCostWrong)

/-- 'laws.FnExactLogCost': WHATEVER THE INPUT: true; the input reads as it did. -/
def fnExactLogCostSpec : ChangeSpec := { name := "fnExactLogCost", fn := fun _ => fun
  | [d1, d2] => { results := [.lit (.bool true)], args := [d1, d2] }
  | _ => none }
def fnExactLogCostRow : OpenClaim := { program := "ytkhihnoeapfaaaa", sum := "c16b461030566879e4c9645b3d2fd0abd08a62e161246838a1aa4f064faf903d", func := "loop.example/g01989/laws.FnExactLogCost", spec := "fnExactLogCost", apart := false }
def FnExactLogCostSaid : Prop := fnExactLogCostRow.holds Try.pinned (OpenSpec.ofChange fnExactLogCostSpec)

/-- ITS FALSE NEIGHBOUR: 'it returns false'. Refute it at one input. -/
def fnExactLogCostWrong : ChangeSpec := { name := "fnExactLogCost", fn := fun _ => fun
  | [d1, d2] => { results := [.lit (.bool false)], args := [d1, d2] }
  | _ => none }
def FnExactLogCostWrongFalsely : Prop := fnExactLogCostRow.holds Try.pinned (OpenSpec.ofChange fnExactLogCostWrong)

/-- 'laws.FnExactHasFact': WHATEVER THE INPUT: true; the input reads as it did. -/
def fnExactHasFactSpec : ChangeSpec := { name := "fnExactHasFact", fn := fun _ => fun
  | [d1, d2] => { results := [.lit (.bool true)], args := [d1, d2] }
  | _ => none }
def fnExactHasFactRow : OpenClaim := { program := "ytkhihnoeapfaaaa", sum := "c16b461030566879e4c9645b3d2fd0abd08a62e161246838a1aa4f064faf903d", func := "loop.example/g01989/laws.FnExactHasFact", spec := "fnExactHasFact", unfollowed := true, recurses := true, apart := false }
def FnExactHasFactSaid : Prop := fnExactHasFactRow.holds Try.pinned (OpenSpec.ofChange fnExactHasFactSpec)

/-- ITS FALSE NEIGHBOUR: 'it returns false'. Refute it at one input. -/
def fnExactHasFactWrong : ChangeSpec := { name := "fnExactHasFact", fn := fun _ => fun
  | [d1, d2] => { results := [.lit (.bool false)], args := [d1, d2] }
  | _ => none }
def FnExactHasFactWrongFalsely : Prop := fnExactHasFactRow.holds Try.pinned (OpenSpec.ofChange fnExactHasFactWrong)

/-- 'laws.FnExactSameFacts': WHATEVER THE INPUT: true; the input reads as it did. -/
def fnExactSameFactsSpec : ChangeSpec := { name := "fnExactSameFacts", fn := fun _ => fun
  | [d1, d2] => { results := [.lit (.bool true)], args := [d1, d2] }
  | _ => none }
def fnExactSameFactsRow : OpenClaim := { program := "ytkhihnoeapfaaaa", sum := "c16b461030566879e4c9645b3d2fd0abd08a62e161246838a1aa4f064faf903d", func := "loop.example/g01989/laws.FnExactSameFacts", spec := "fnExactSameFacts", unfollowed := true, recurses := true, apart := false }
def FnExactSameFactsSaid : Prop := fnExactSameFactsRow.holds Try.pinned (OpenSpec.ofChange fnExactSameFactsSpec)

/-- ITS FALSE NEIGHBOUR: 'it returns false'. Refute it at one input. -/
def fnExactSameFactsWrong : ChangeSpec := { name := "fnExactSameFacts", fn := fun _ => fun
  | [d1, d2] => { results := [.lit (.bool false)], args := [d1, d2] }
  | _ => none }
def FnExactSameFactsWrongFalsely : Prop := fnExactSameFactsRow.holds Try.pinned (OpenSpec.ofChange fnExactSameFactsWrong)

/-- 'laws.FnExactIsAccess': WHATEVER THE INPUT: true; the input reads as it did. -/
def fnExactIsAccessSpec : ChangeSpec := { name := "fnExactIsAccess", fn := fun _ => fun
  | [d1, d2, d3] => { results := [.lit (.bool true)], args := [d1, d2, d3] }
  | _ => none }
def fnExactIsAccessRow : OpenClaim := { program := "ytkhihnoeapfaaaa", sum := "c16b461030566879e4c9645b3d2fd0abd08a62e161246838a1aa4f064faf903d", func := "loop.example/g01989/laws.FnExactIsAccess", spec := "fnExactIsAccess", unfollowed := true, recurses := true, apart := false }
def FnExactIsAccessSaid : Prop := fnExactIsAccessRow.holds Try.pinned (OpenSpec.ofChange fnExactIsAccessSpec)

/-- ITS FALSE NEIGHBOUR: 'it returns false'. Refute it at one input. -/
def fnExactIsAccessWrong : ChangeSpec := { name := "fnExactIsAccess", fn := fun _ => fun
  | [d1, d2, d3] => { results := [.lit (.bool false)], args := [d1, d2, d3] }
  | _ => none }
def FnExactIsAccessWrongFalsely : Prop := fnExactIsAccessRow.holds Try.pinned (OpenSpec.ofChange fnExactIsAccessWrong)

/-- 'laws.FnExactAreFacts': WHATEVER THE INPUT: true; the input reads as it did. -/
def fnExactAreFactsSpec : ChangeSpec := { name := "fnExactAreFacts", fn := fun _ => fun
  | [d1, d2] => { results := [.lit (.bool true)], args := [d1, d2] }
  | _ => none }
def fnExactAreFactsRow : OpenClaim := { program := "ytkhihnoeapfaaaa", sum := "c16b461030566879e4c9645b3d2fd0abd08a62e161246838a1aa4f064faf903d", func := "loop.example/g01989/laws.FnExactAreFacts", spec := "fnExactAreFacts", unfollowed := true, recurses := true, apart := false }
def FnExactAreFactsSaid : Prop := fnExactAreFactsRow.holds Try.pinned (OpenSpec.ofChange fnExactAreFactsSpec)

/-- ITS FALSE NEIGHBOUR: 'it returns false'. Refute it at one input. -/
def fnExactAreFactsWrong : ChangeSpec := { name := "fnExactAreFacts", fn := fun _ => fun
  | [d1, d2] => { results := [.lit (.bool false)], args := [d1, d2] }
  | _ => none }
def FnExactAreFactsWrongFalsely : Prop := fnExactAreFactsRow.holds Try.pinned (OpenSpec.ofChange fnExactAreFactsWrong)

/-- 'laws.FnExactMatchAtom': WHATEVER THE INPUT: true; the input reads as it did. -/
def fnExactMatchAtomSpec : ChangeSpec := { name := "fnExactMatchAtom", fn := fun _ => fun
  | [d1, d2, d3] => { results := [.lit (.bool true)], args := [d1, d2, d3] }
  | _ => none }
def fnExactMatchAtomRow : OpenClaim := { program := "ytkhihnoeapfaaaa", sum := "c16b461030566879e4c9645b3d2fd0abd08a62e161246838a1aa4f064faf903d", func := "loop.example/g01989/laws.FnExactMatchAtom", spec := "fnExactMatchAtom", apart := false }
def FnExactMatchAtomSaid : Prop := fnExactMatchAtomRow.holds Try.pinned (OpenSpec.ofChange fnExactMatchAtomSpec)

/-- ITS FALSE NEIGHBOUR: 'it returns false'. Refute it at one input. -/
def fnExactMatchAtomWrong : ChangeSpec := { name := "fnExactMatchAtom", fn := fun _ => fun
  | [d1, d2, d3] => { results := [.lit (.bool false)], args := [d1, d2, d3] }
  | _ => none }
def FnExactMatchAtomWrongFalsely : Prop := fnExactMatchAtomRow.holds Try.pinned (OpenSpec.ofChange fnExactMatchAtomWrong)

/-- 'laws.FnExactAddTuple': WHATEVER THE INPUT: true; the input reads as it did. -/
def fnExactAddTupleSpec : ChangeSpec := { name := "fnExactAddTuple", fn := fun _ => fun
  | [d1, d2] => { results := [.lit (.bool true)], args := [d1, d2] }
  | _ => none }
def fnExactAddTupleRow : OpenClaim := { program := "ytkhihnoeapfaaaa", sum := "c16b461030566879e4c9645b3d2fd0abd08a62e161246838a1aa4f064faf903d", func := "loop.example/g01989/laws.FnExactAddTuple", spec := "fnExactAddTuple", inPlace := ["slices.overlaps[[]int]"], unfollowed := true, recurses := true, apart := false }
def FnExactAddTupleSaid : Prop := fnExactAddTupleRow.holds Try.pinned (OpenSpec.ofChange fnExactAddTupleSpec)

/-- ITS FALSE NEIGHBOUR: 'it returns false'. Refute it at one input. -/
def fnExactAddTupleWrong : ChangeSpec := { name := "fnExactAddTuple", fn := fun _ => fun
  | [d1, d2] => { results := [.lit (.bool false)], args := [d1, d2] }
  | _ => none }
def FnExactAddTupleWrongFalsely : Prop := fnExactAddTupleRow.holds Try.pinned (OpenSpec.ofChange fnExactAddTupleWrong)

/-- 'laws.FnExactBindingsOf': WHATEVER THE INPUT: true; the input reads as it did. -/
def fnExactBindingsOfSpec : ChangeSpec := { name := "fnExactBindingsOf", fn := fun _ => fun
  | [d1, d2] => { results := [.lit (.bool true)], args := [d1, d2] }
  | _ => none }
def fnExactBindingsOfRow : OpenClaim := { program := "ytkhihnoeapfaaaa", sum := "c16b461030566879e4c9645b3d2fd0abd08a62e161246838a1aa4f064faf903d", func := "loop.example/g01989/laws.FnExactBindingsOf", spec := "fnExactBindingsOf", apart := false }
def FnExactBindingsOfSaid : Prop := fnExactBindingsOfRow.holds Try.pinned (OpenSpec.ofChange fnExactBindingsOfSpec)

/-- ITS FALSE NEIGHBOUR: 'it returns false'. Refute it at one input. -/
def fnExactBindingsOfWrong : ChangeSpec := { name := "fnExactBindingsOf", fn := fun _ => fun
  | [d1, d2] => { results := [.lit (.bool false)], args := [d1, d2] }
  | _ => none }
def FnExactBindingsOfWrongFalsely : Prop := fnExactBindingsOfRow.holds Try.pinned (OpenSpec.ofChange fnExactBindingsOfWrong)

/-- 'laws.FnExactAddFact': WHATEVER THE INPUT: true; the input reads as it did. -/
def fnExactAddFactSpec : ChangeSpec := { name := "fnExactAddFact", fn := fun _ => fun
  | [d1, d2] => { results := [.lit (.bool true)], args := [d1, d2] }
  | _ => none }
def fnExactAddFactRow : OpenClaim := { program := "ytkhihnoeapfaaaa", sum := "c16b461030566879e4c9645b3d2fd0abd08a62e161246838a1aa4f064faf903d", func := "loop.example/g01989/laws.FnExactAddFact", spec := "fnExactAddFact", inPlace := ["slices.overlaps[loop.example/g01989/impl.Fact]"], unfollowed := true, recurses := true, apart := false }
def FnExactAddFactSaid : Prop := fnExactAddFactRow.holds Try.pinned (OpenSpec.ofChange fnExactAddFactSpec)

/-- ITS FALSE NEIGHBOUR: 'it returns false'. Refute it at one input. -/
def fnExactAddFactWrong : ChangeSpec := { name := "fnExactAddFact", fn := fun _ => fun
  | [d1, d2] => { results := [.lit (.bool false)], args := [d1, d2] }
  | _ => none }
def FnExactAddFactWrongFalsely : Prop := fnExactAddFactRow.holds Try.pinned (OpenSpec.ofChange fnExactAddFactWrong)

/-- 'laws.FnExactIsResponse': WHATEVER THE INPUT: true; the input reads as it did. -/
def fnExactIsResponseSpec : ChangeSpec := { name := "fnExactIsResponse", fn := fun _ => fun
  | [d1, d2, d3, d4, d5] => { results := [.lit (.bool true)], args := [d1, d2, d3, d4, d5] }
  | _ => none }
def fnExactIsResponseRow : OpenClaim := { program := "ytkhihnoeapfaaaa", sum := "c16b461030566879e4c9645b3d2fd0abd08a62e161246838a1aa4f064faf903d", func := "loop.example/g01989/laws.FnExactIsResponse", spec := "fnExactIsResponse", unfollowed := true, recurses := true, apart := false }
def FnExactIsResponseSaid : Prop := fnExactIsResponseRow.holds Try.pinned (OpenSpec.ofChange fnExactIsResponseSpec)

/-- ITS FALSE NEIGHBOUR: 'it returns false'. Refute it at one input. -/
def fnExactIsResponseWrong : ChangeSpec := { name := "fnExactIsResponse", fn := fun _ => fun
  | [d1, d2, d3, d4, d5] => { results := [.lit (.bool false)], args := [d1, d2, d3, d4, d5] }
  | _ => none }
def FnExactIsResponseWrongFalsely : Prop := fnExactIsResponseRow.holds Try.pinned (OpenSpec.ofChange fnExactIsResponseWrong)

/-- 'laws.FnExactMatchesOf': WHATEVER THE INPUT: true; the input reads as it did. -/
def fnExactMatchesOfSpec : ChangeSpec := { name := "fnExactMatchesOf", fn := fun _ => fun
  | [d1, d2, d3, d4] => { results := [.lit (.bool true)], args := [d1, d2, d3, d4] }
  | _ => none }
def fnExactMatchesOfRow : OpenClaim := { program := "ytkhihnoeapfaaaa", sum := "c16b461030566879e4c9645b3d2fd0abd08a62e161246838a1aa4f064faf903d", func := "loop.example/g01989/laws.FnExactMatchesOf", spec := "fnExactMatchesOf", unfollowed := true, recurses := true, apart := false }
def FnExactMatchesOfSaid : Prop := fnExactMatchesOfRow.holds Try.pinned (OpenSpec.ofChange fnExactMatchesOfSpec)

/-- ITS FALSE NEIGHBOUR: 'it returns false'. Refute it at one input. -/
def fnExactMatchesOfWrong : ChangeSpec := { name := "fnExactMatchesOf", fn := fun _ => fun
  | [d1, d2, d3, d4] => { results := [.lit (.bool false)], args := [d1, d2, d3, d4] }
  | _ => none }
def FnExactMatchesOfWrongFalsely : Prop := fnExactMatchesOfRow.holds Try.pinned (OpenSpec.ofChange fnExactMatchesOfWrong)

/-- 'laws.FnExactRespondTo': WHATEVER THE INPUT: true; the input reads as it did. -/
def fnExactRespondToSpec : ChangeSpec := { name := "fnExactRespondTo", fn := fun _ => fun
  | [d1, d2, d3, d4, d5] => { results := [.lit (.bool true)], args := [d1, d2, d3, d4, d5] }
  | _ => none }
def fnExactRespondToRow : OpenClaim := { program := "ytkhihnoeapfaaaa", sum := "c16b461030566879e4c9645b3d2fd0abd08a62e161246838a1aa4f064faf903d", func := "loop.example/g01989/laws.FnExactRespondTo", spec := "fnExactRespondTo", unfollowed := true, recurses := true, apart := false }
def FnExactRespondToSaid : Prop := fnExactRespondToRow.holds Try.pinned (OpenSpec.ofChange fnExactRespondToSpec)

/-- ITS FALSE NEIGHBOUR: 'it returns false'. Refute it at one input. -/
def fnExactRespondToWrong : ChangeSpec := { name := "fnExactRespondTo", fn := fun _ => fun
  | [d1, d2, d3, d4, d5] => { results := [.lit (.bool false)], args := [d1, d2, d3, d4, d5] }
  | _ => none }
def FnExactRespondToWrongFalsely : Prop := fnExactRespondToRow.holds Try.pinned (OpenSpec.ofChange fnExactRespondToWrong)

/-- 'laws.FnExactConstantsOf': WHATEVER THE INPUT: true; the input reads as it did. -/
def fnExactConstantsOfSpec : ChangeSpec := { name := "fnExactConstantsOf", fn := fun _ => fun
  | [d] => { results := [.lit (.bool true)], args := [d] }
  | _ => none }
def fnExactConstantsOfRow : OpenClaim := { program := "ytkhihnoeapfaaaa", sum := "c16b461030566879e4c9645b3d2fd0abd08a62e161246838a1aa4f064faf903d", func := "loop.example/g01989/laws.FnExactConstantsOf", spec := "fnExactConstantsOf", unfollowed := true, recurses := true, apart := false }
def FnExactConstantsOfSaid : Prop := fnExactConstantsOfRow.holds Try.pinned (OpenSpec.ofChange fnExactConstantsOfSpec)

/-- ITS FALSE NEIGHBOUR: 'it returns false'. Refute it at one input. -/
def fnExactConstantsOfWrong : ChangeSpec := { name := "fnExactConstantsOf", fn := fun _ => fun
  | [d] => { results := [.lit (.bool false)], args := [d] }
  | _ => none }
def FnExactConstantsOfWrongFalsely : Prop := fnExactConstantsOfRow.holds Try.pinned (OpenSpec.ofChange fnExactConstantsOfWrong)

/-- 'laws.FnExactVarsOf': WHATEVER THE INPUT: true; the input reads as it did. -/
def fnExactVarsOfSpec : ChangeSpec := { name := "fnExactVarsOf", fn := fun _ => fun
  | [d] => { results := [.lit (.bool true)], args := [d] }
  | _ => none }
def fnExactVarsOfRow : OpenClaim := { program := "ytkhihnoeapfaaaa", sum := "c16b461030566879e4c9645b3d2fd0abd08a62e161246838a1aa4f064faf903d", func := "loop.example/g01989/laws.FnExactVarsOf", spec := "fnExactVarsOf", unfollowed := true, recurses := true, apart := false }
def FnExactVarsOfSaid : Prop := fnExactVarsOfRow.holds Try.pinned (OpenSpec.ofChange fnExactVarsOfSpec)

/-- ITS FALSE NEIGHBOUR: 'it returns false'. Refute it at one input. -/
def fnExactVarsOfWrong : ChangeSpec := { name := "fnExactVarsOf", fn := fun _ => fun
  | [d] => { results := [.lit (.bool false)], args := [d] }
  | _ => none }
def FnExactVarsOfWrongFalsely : Prop := fnExactVarsOfRow.holds Try.pinned (OpenSpec.ofChange fnExactVarsOfWrong)

/-- 'laws.FnExactIsQuery': WHATEVER THE INPUT: true; the input reads as it did. -/
def fnExactIsQuerySpec : ChangeSpec := { name := "fnExactIsQuery", fn := fun _ => fun
  | [d1, d2] => { results := [.lit (.bool true)], args := [d1, d2] }
  | _ => none }
def fnExactIsQueryRow : OpenClaim := { program := "ytkhihnoeapfaaaa", sum := "c16b461030566879e4c9645b3d2fd0abd08a62e161246838a1aa4f064faf903d", func := "loop.example/g01989/laws.FnExactIsQuery", spec := "fnExactIsQuery", unfollowed := true, recurses := true, apart := false }
def FnExactIsQuerySaid : Prop := fnExactIsQueryRow.holds Try.pinned (OpenSpec.ofChange fnExactIsQuerySpec)

/-- ITS FALSE NEIGHBOUR: 'it returns false'. Refute it at one input. -/
def fnExactIsQueryWrong : ChangeSpec := { name := "fnExactIsQuery", fn := fun _ => fun
  | [d1, d2] => { results := [.lit (.bool false)], args := [d1, d2] }
  | _ => none }
def FnExactIsQueryWrongFalsely : Prop := fnExactIsQueryRow.holds Try.pinned (OpenSpec.ofChange fnExactIsQueryWrong)

/-- 'laws.FnExactIsOrder': WHATEVER THE INPUT: true; the input reads as it did. -/
def fnExactIsOrderSpec : ChangeSpec := { name := "fnExactIsOrder", fn := fun _ => fun
  | [d1, d2, d3, d4] => { results := [.lit (.bool true)], args := [d1, d2, d3, d4] }
  | _ => none }
def fnExactIsOrderRow : OpenClaim := { program := "ytkhihnoeapfaaaa", sum := "c16b461030566879e4c9645b3d2fd0abd08a62e161246838a1aa4f064faf903d", func := "loop.example/g01989/laws.FnExactIsOrder", spec := "fnExactIsOrder", unfollowed := true, recurses := true, apart := false }
def FnExactIsOrderSaid : Prop := fnExactIsOrderRow.holds Try.pinned (OpenSpec.ofChange fnExactIsOrderSpec)

/-- ITS FALSE NEIGHBOUR: 'it returns false'. Refute it at one input. -/
def fnExactIsOrderWrong : ChangeSpec := { name := "fnExactIsOrder", fn := fun _ => fun
  | [d1, d2, d3, d4] => { results := [.lit (.bool false)], args := [d1, d2, d3, d4] }
  | _ => none }
def FnExactIsOrderWrongFalsely : Prop := fnExactIsOrderRow.holds Try.pinned (OpenSpec.ofChange fnExactIsOrderWrong)

/- THE SECOND FORM. 'bulk': how many values and letters a reading holds, each counted each time it is reached (what is shared counts as often as it is met; a slice's spare places count too). A statement '..UptoSaid' is the law's where the arguments, and the package variables that the reading takes, are together of bulk at most 1048576: NARROWER than '..Said'. Prove '..Said' where nothing that the law and all that it calls make is longer than what came in: it says more and counts as full. Else prove '..UptoSaid'. A law counts once. -/
mutual
def uptoBulk {H : Type} : DataW H → Nat
  | .lit (.string bytes) => bytes.length + 1
  | .lit _ => 1
  | .nil => 1
  | .ptr d => uptoBulk d + 1
  | .slice elems spare => uptoBulkAll elems + uptoBulkAll spare + 1
  | .agg parts => uptoBulkAll parts + 1
  | .iface _ d => uptoBulk d + 1
  | .map entries => uptoBulkEntries entries + 1
  | .held _ => 1
def uptoBulkAll {H : Type} : List (DataW H) → Nat
  | [] => 0
  | d :: r => uptoBulk d + uptoBulkAll r
def uptoBulkEntries {H : Type} : List (Lit × DataW H) → Nat
  | [] => 0
  | x :: r => uptoBulkEntry x + uptoBulkEntries r
def uptoBulkEntry {H : Type} : Lit × DataW H → Nat
  | (.string bytes, d) => bytes.length + uptoBulk d + 1
  | (_, d) => uptoBulk d + 1
 end
def uptoSmall : (H : Type) → List (DataW H) → Bool := fun _ ds => decide (uptoBulkAll ds ≤ 1048576)
def OpenSpec.upto (s : _root_.Go.ChangeSpec) : _root_.Go.OpenSpec := { _root_.Go.OpenSpec.ofChange s with cond := some uptoSmall }

/-- 'laws.FnExactIsSchema', WHERE WHAT IT READS IS OF BULK AT MOST 1048576: true; the input reads as it did. -/
def fnExactIsSchemaUptoRow : OpenClaim := { program := "ytkhihnoeapfaaaa", sum := "c16b461030566879e4c9645b3d2fd0abd08a62e161246838a1aa4f064faf903d", func := "loop.example/g01989/laws.FnExactIsSchema", spec := "fnExactIsSchema", unfollowed := true, recurses := true, apart := false, narrowed := true }
def FnExactIsSchemaUptoSaid : Prop := fnExactIsSchemaUptoRow.holds Try.pinned (OpenSpec.upto fnExactIsSchemaSpec)

/-- 'laws.FnExactSameSteps', WHERE WHAT IT READS IS OF BULK AT MOST 1048576: true; the input reads as it did. -/
def fnExactSameStepsUptoRow : OpenClaim := { program := "ytkhihnoeapfaaaa", sum := "c16b461030566879e4c9645b3d2fd0abd08a62e161246838a1aa4f064faf903d", func := "loop.example/g01989/laws.FnExactSameSteps", spec := "fnExactSameSteps", apart := false, narrowed := true }
def FnExactSameStepsUptoSaid : Prop := fnExactSameStepsUptoRow.holds Try.pinned (OpenSpec.upto fnExactSameStepsSpec)

/-- 'laws.FnExactValueOf', WHERE WHAT IT READS IS OF BULK AT MOST 1048576: true; the input reads as it did. -/
def fnExactValueOfUptoRow : OpenClaim := { program := "ytkhihnoeapfaaaa", sum := "c16b461030566879e4c9645b3d2fd0abd08a62e161246838a1aa4f064faf903d", func := "loop.example/g01989/laws.FnExactValueOf", spec := "fnExactValueOf", apart := false, narrowed := true }
def FnExactValueOfUptoSaid : Prop := fnExactValueOfUptoRow.holds Try.pinned (OpenSpec.upto fnExactValueOfSpec)

/-- 'laws.FnExactIsFact', WHERE WHAT IT READS IS OF BULK AT MOST 1048576: true; the input reads as it did. -/
def fnExactIsFactUptoRow : OpenClaim := { program := "ytkhihnoeapfaaaa", sum := "c16b461030566879e4c9645b3d2fd0abd08a62e161246838a1aa4f064faf903d", func := "loop.example/g01989/laws.FnExactIsFact", spec := "fnExactIsFact", unfollowed := true, recurses := true, apart := false, narrowed := true }
def FnExactIsFactUptoSaid : Prop := fnExactIsFactUptoRow.holds Try.pinned (OpenSpec.upto fnExactIsFactSpec)

/-- 'laws.FnExactIsAtom', WHERE WHAT IT READS IS OF BULK AT MOST 1048576: true; the input reads as it did. -/
def fnExactIsAtomUptoRow : OpenClaim := { program := "ytkhihnoeapfaaaa", sum := "c16b461030566879e4c9645b3d2fd0abd08a62e161246838a1aa4f064faf903d", func := "loop.example/g01989/laws.FnExactIsAtom", spec := "fnExactIsAtom", unfollowed := true, recurses := true, apart := false, narrowed := true }
def FnExactIsAtomUptoSaid : Prop := fnExactIsAtomUptoRow.holds Try.pinned (OpenSpec.upto fnExactIsAtomSpec)

/-- 'laws.FnExactUsesOf', WHERE WHAT IT READS IS OF BULK AT MOST 1048576: true; the input reads as it did. -/
def fnExactUsesOfUptoRow : OpenClaim := { program := "ytkhihnoeapfaaaa", sum := "c16b461030566879e4c9645b3d2fd0abd08a62e161246838a1aa4f064faf903d", func := "loop.example/g01989/laws.FnExactUsesOf", spec := "fnExactUsesOf", apart := false, narrowed := true }
def FnExactUsesOfUptoSaid : Prop := fnExactUsesOfUptoRow.holds Try.pinned (OpenSpec.upto fnExactUsesOfSpec)

/-- 'laws.FnExactSameTuples', WHERE WHAT IT READS IS OF BULK AT MOST 1048576: true; the input reads as it did. -/
def fnExactSameTuplesUptoRow : OpenClaim := { program := "ytkhihnoeapfaaaa", sum := "c16b461030566879e4c9645b3d2fd0abd08a62e161246838a1aa4f064faf903d", func := "loop.example/g01989/laws.FnExactSameTuples", spec := "fnExactSameTuples", unfollowed := true, recurses := true, apart := false, narrowed := true }
def FnExactSameTuplesUptoSaid : Prop := fnExactSameTuplesUptoRow.holds Try.pinned (OpenSpec.upto fnExactSameTuplesSpec)

/-- 'laws.FnExactIsMethod', WHERE WHAT IT READS IS OF BULK AT MOST 1048576: true; the input reads as it did. -/
def fnExactIsMethodUptoRow : OpenClaim := { program := "ytkhihnoeapfaaaa", sum := "c16b461030566879e4c9645b3d2fd0abd08a62e161246838a1aa4f064faf903d", func := "loop.example/g01989/laws.FnExactIsMethod", spec := "fnExactIsMethod", unfollowed := true, recurses := true, apart := false, narrowed := true }
def FnExactIsMethodUptoSaid : Prop := fnExactIsMethodUptoRow.holds Try.pinned (OpenSpec.upto fnExactIsMethodSpec)

/-- 'laws.FnExactCompareFacts', WHERE WHAT IT READS IS OF BULK AT MOST 1048576: true; the input reads as it did. -/
def fnExactCompareFactsUptoRow : OpenClaim := { program := "ytkhihnoeapfaaaa", sum := "c16b461030566879e4c9645b3d2fd0abd08a62e161246838a1aa4f064faf903d", func := "loop.example/g01989/laws.FnExactCompareFacts", spec := "fnExactCompareFacts", apart := false, narrowed := true }
def FnExactCompareFactsUptoSaid : Prop := fnExactCompareFactsUptoRow.holds Try.pinned (OpenSpec.upto fnExactCompareFactsSpec)

/-- 'laws.FnExactSameAccesses', WHERE WHAT IT READS IS OF BULK AT MOST 1048576: true; the input reads as it did. -/
def fnExactSameAccessesUptoRow : OpenClaim := { program := "ytkhihnoeapfaaaa", sum := "c16b461030566879e4c9645b3d2fd0abd08a62e161246838a1aa4f064faf903d", func := "loop.example/g01989/laws.FnExactSameAccesses", spec := "fnExactSameAccesses", unfollowed := true, recurses := true, apart := false, narrowed := true }
def FnExactSameAccessesUptoSaid : Prop := fnExactSameAccessesUptoRow.holds Try.pinned (OpenSpec.upto fnExactSameAccessesSpec)

/-- 'laws.FnExactCanCall', WHERE WHAT IT READS IS OF BULK AT MOST 1048576: true; the input reads as it did. -/
def fnExactCanCallUptoRow : OpenClaim := { program := "ytkhihnoeapfaaaa", sum := "c16b461030566879e4c9645b3d2fd0abd08a62e161246838a1aa4f064faf903d", func := "loop.example/g01989/laws.FnExactCanCall", spec := "fnExactCanCall", unfollowed := true, recurses := true, apart := false, narrowed := true }
def FnExactCanCallUptoSaid : Prop := fnExactCanCallUptoRow.holds Try.pinned (OpenSpec.upto fnExactCanCallSpec)

/-- 'laws.FnExactAreMethods', WHERE WHAT IT READS IS OF BULK AT MOST 1048576: true; the input reads as it did. -/
def fnExactAreMethodsUptoRow : OpenClaim := { program := "ytkhihnoeapfaaaa", sum := "c16b461030566879e4c9645b3d2fd0abd08a62e161246838a1aa4f064faf903d", func := "loop.example/g01989/laws.FnExactAreMethods", spec := "fnExactAreMethods", unfollowed := true, recurses := true, apart := false, narrowed := true }
def FnExactAreMethodsUptoSaid : Prop := fnExactAreMethodsUptoRow.holds Try.pinned (OpenSpec.upto fnExactAreMethodsSpec)

/-- 'laws.FnExactSameQueries', WHERE WHAT IT READS IS OF BULK AT MOST 1048576: true; the input reads as it did. -/
def fnExactSameQueriesUptoRow : OpenClaim := { program := "ytkhihnoeapfaaaa", sum := "c16b461030566879e4c9645b3d2fd0abd08a62e161246838a1aa4f064faf903d", func := "loop.example/g01989/laws.FnExactSameQueries", spec := "fnExactSameQueries", unfollowed := true, recurses := true, apart := false, narrowed := true }
def FnExactSameQueriesUptoSaid : Prop := fnExactSameQueriesUptoRow.holds Try.pinned (OpenSpec.upto fnExactSameQueriesSpec)

/-- 'laws.FnExactIsExact', WHERE WHAT IT READS IS OF BULK AT MOST 1048576: true; the input reads as it did. -/
def fnExactIsExactUptoRow : OpenClaim := { program := "ytkhihnoeapfaaaa", sum := "c16b461030566879e4c9645b3d2fd0abd08a62e161246838a1aa4f064faf903d", func := "loop.example/g01989/laws.FnExactIsExact", spec := "fnExactIsExact", unfollowed := true, recurses := true, apart := false, narrowed := true }
def FnExactIsExactUptoSaid : Prop := fnExactIsExactUptoRow.holds Try.pinned (OpenSpec.upto fnExactIsExactSpec)

/-- 'laws.FnExactOrderCost', WHERE WHAT IT READS IS OF BULK AT MOST 1048576: true; the input reads as it did. -/
def fnExactOrderCostUptoRow : OpenClaim := { program := "ytkhihnoeapfaaaa", sum := "c16b461030566879e4c9645b3d2fd0abd08a62e161246838a1aa4f064faf903d", func := "loop.example/g01989/laws.FnExactOrderCost", spec := "fnExactOrderCost", apart := false, narrowed := true }
def FnExactOrderCostUptoSaid : Prop := fnExactOrderCostUptoRow.holds Try.pinned (OpenSpec.upto fnExactOrderCostSpec)

/-- 'laws.FnExactLogCost', WHERE WHAT IT READS IS OF BULK AT MOST 1048576: true; the input reads as it did. -/
def fnExactLogCostUptoRow : OpenClaim := { program := "ytkhihnoeapfaaaa", sum := "c16b461030566879e4c9645b3d2fd0abd08a62e161246838a1aa4f064faf903d", func := "loop.example/g01989/laws.FnExactLogCost", spec := "fnExactLogCost", apart := false, narrowed := true }
def FnExactLogCostUptoSaid : Prop := fnExactLogCostUptoRow.holds Try.pinned (OpenSpec.upto fnExactLogCostSpec)

/-- 'laws.FnExactHasFact', WHERE WHAT IT READS IS OF BULK AT MOST 1048576: true; the input reads as it did. -/
def fnExactHasFactUptoRow : OpenClaim := { program := "ytkhihnoeapfaaaa", sum := "c16b461030566879e4c9645b3d2fd0abd08a62e161246838a1aa4f064faf903d", func := "loop.example/g01989/laws.FnExactHasFact", spec := "fnExactHasFact", unfollowed := true, recurses := true, apart := false, narrowed := true }
def FnExactHasFactUptoSaid : Prop := fnExactHasFactUptoRow.holds Try.pinned (OpenSpec.upto fnExactHasFactSpec)

/-- 'laws.FnExactSameFacts', WHERE WHAT IT READS IS OF BULK AT MOST 1048576: true; the input reads as it did. -/
def fnExactSameFactsUptoRow : OpenClaim := { program := "ytkhihnoeapfaaaa", sum := "c16b461030566879e4c9645b3d2fd0abd08a62e161246838a1aa4f064faf903d", func := "loop.example/g01989/laws.FnExactSameFacts", spec := "fnExactSameFacts", unfollowed := true, recurses := true, apart := false, narrowed := true }
def FnExactSameFactsUptoSaid : Prop := fnExactSameFactsUptoRow.holds Try.pinned (OpenSpec.upto fnExactSameFactsSpec)

/-- 'laws.FnExactIsAccess', WHERE WHAT IT READS IS OF BULK AT MOST 1048576: true; the input reads as it did. -/
def fnExactIsAccessUptoRow : OpenClaim := { program := "ytkhihnoeapfaaaa", sum := "c16b461030566879e4c9645b3d2fd0abd08a62e161246838a1aa4f064faf903d", func := "loop.example/g01989/laws.FnExactIsAccess", spec := "fnExactIsAccess", unfollowed := true, recurses := true, apart := false, narrowed := true }
def FnExactIsAccessUptoSaid : Prop := fnExactIsAccessUptoRow.holds Try.pinned (OpenSpec.upto fnExactIsAccessSpec)

/-- 'laws.FnExactAreFacts', WHERE WHAT IT READS IS OF BULK AT MOST 1048576: true; the input reads as it did. -/
def fnExactAreFactsUptoRow : OpenClaim := { program := "ytkhihnoeapfaaaa", sum := "c16b461030566879e4c9645b3d2fd0abd08a62e161246838a1aa4f064faf903d", func := "loop.example/g01989/laws.FnExactAreFacts", spec := "fnExactAreFacts", unfollowed := true, recurses := true, apart := false, narrowed := true }
def FnExactAreFactsUptoSaid : Prop := fnExactAreFactsUptoRow.holds Try.pinned (OpenSpec.upto fnExactAreFactsSpec)

/-- 'laws.FnExactMatchAtom', WHERE WHAT IT READS IS OF BULK AT MOST 1048576: true; the input reads as it did. -/
def fnExactMatchAtomUptoRow : OpenClaim := { program := "ytkhihnoeapfaaaa", sum := "c16b461030566879e4c9645b3d2fd0abd08a62e161246838a1aa4f064faf903d", func := "loop.example/g01989/laws.FnExactMatchAtom", spec := "fnExactMatchAtom", apart := false, narrowed := true }
def FnExactMatchAtomUptoSaid : Prop := fnExactMatchAtomUptoRow.holds Try.pinned (OpenSpec.upto fnExactMatchAtomSpec)

/-- 'laws.FnExactAddTuple', WHERE WHAT IT READS IS OF BULK AT MOST 1048576: true; the input reads as it did. -/
def fnExactAddTupleUptoRow : OpenClaim := { program := "ytkhihnoeapfaaaa", sum := "c16b461030566879e4c9645b3d2fd0abd08a62e161246838a1aa4f064faf903d", func := "loop.example/g01989/laws.FnExactAddTuple", spec := "fnExactAddTuple", inPlace := ["slices.overlaps[[]int]"], unfollowed := true, recurses := true, apart := false, narrowed := true }
def FnExactAddTupleUptoSaid : Prop := fnExactAddTupleUptoRow.holds Try.pinned (OpenSpec.upto fnExactAddTupleSpec)

/-- 'laws.FnExactBindingsOf', WHERE WHAT IT READS IS OF BULK AT MOST 1048576: true; the input reads as it did. -/
def fnExactBindingsOfUptoRow : OpenClaim := { program := "ytkhihnoeapfaaaa", sum := "c16b461030566879e4c9645b3d2fd0abd08a62e161246838a1aa4f064faf903d", func := "loop.example/g01989/laws.FnExactBindingsOf", spec := "fnExactBindingsOf", apart := false, narrowed := true }
def FnExactBindingsOfUptoSaid : Prop := fnExactBindingsOfUptoRow.holds Try.pinned (OpenSpec.upto fnExactBindingsOfSpec)

/-- 'laws.FnExactAddFact', WHERE WHAT IT READS IS OF BULK AT MOST 1048576: true; the input reads as it did. -/
def fnExactAddFactUptoRow : OpenClaim := { program := "ytkhihnoeapfaaaa", sum := "c16b461030566879e4c9645b3d2fd0abd08a62e161246838a1aa4f064faf903d", func := "loop.example/g01989/laws.FnExactAddFact", spec := "fnExactAddFact", inPlace := ["slices.overlaps[loop.example/g01989/impl.Fact]"], unfollowed := true, recurses := true, apart := false, narrowed := true }
def FnExactAddFactUptoSaid : Prop := fnExactAddFactUptoRow.holds Try.pinned (OpenSpec.upto fnExactAddFactSpec)

/-- 'laws.FnExactIsResponse', WHERE WHAT IT READS IS OF BULK AT MOST 1048576: true; the input reads as it did. -/
def fnExactIsResponseUptoRow : OpenClaim := { program := "ytkhihnoeapfaaaa", sum := "c16b461030566879e4c9645b3d2fd0abd08a62e161246838a1aa4f064faf903d", func := "loop.example/g01989/laws.FnExactIsResponse", spec := "fnExactIsResponse", unfollowed := true, recurses := true, apart := false, narrowed := true }
def FnExactIsResponseUptoSaid : Prop := fnExactIsResponseUptoRow.holds Try.pinned (OpenSpec.upto fnExactIsResponseSpec)

/-- 'laws.FnExactMatchesOf', WHERE WHAT IT READS IS OF BULK AT MOST 1048576: true; the input reads as it did. -/
def fnExactMatchesOfUptoRow : OpenClaim := { program := "ytkhihnoeapfaaaa", sum := "c16b461030566879e4c9645b3d2fd0abd08a62e161246838a1aa4f064faf903d", func := "loop.example/g01989/laws.FnExactMatchesOf", spec := "fnExactMatchesOf", unfollowed := true, recurses := true, apart := false, narrowed := true }
def FnExactMatchesOfUptoSaid : Prop := fnExactMatchesOfUptoRow.holds Try.pinned (OpenSpec.upto fnExactMatchesOfSpec)

/-- 'laws.FnExactRespondTo', WHERE WHAT IT READS IS OF BULK AT MOST 1048576: true; the input reads as it did. -/
def fnExactRespondToUptoRow : OpenClaim := { program := "ytkhihnoeapfaaaa", sum := "c16b461030566879e4c9645b3d2fd0abd08a62e161246838a1aa4f064faf903d", func := "loop.example/g01989/laws.FnExactRespondTo", spec := "fnExactRespondTo", unfollowed := true, recurses := true, apart := false, narrowed := true }
def FnExactRespondToUptoSaid : Prop := fnExactRespondToUptoRow.holds Try.pinned (OpenSpec.upto fnExactRespondToSpec)

/-- 'laws.FnExactConstantsOf', WHERE WHAT IT READS IS OF BULK AT MOST 1048576: true; the input reads as it did. -/
def fnExactConstantsOfUptoRow : OpenClaim := { program := "ytkhihnoeapfaaaa", sum := "c16b461030566879e4c9645b3d2fd0abd08a62e161246838a1aa4f064faf903d", func := "loop.example/g01989/laws.FnExactConstantsOf", spec := "fnExactConstantsOf", unfollowed := true, recurses := true, apart := false, narrowed := true }
def FnExactConstantsOfUptoSaid : Prop := fnExactConstantsOfUptoRow.holds Try.pinned (OpenSpec.upto fnExactConstantsOfSpec)

/-- 'laws.FnExactVarsOf', WHERE WHAT IT READS IS OF BULK AT MOST 1048576: true; the input reads as it did. -/
def fnExactVarsOfUptoRow : OpenClaim := { program := "ytkhihnoeapfaaaa", sum := "c16b461030566879e4c9645b3d2fd0abd08a62e161246838a1aa4f064faf903d", func := "loop.example/g01989/laws.FnExactVarsOf", spec := "fnExactVarsOf", unfollowed := true, recurses := true, apart := false, narrowed := true }
def FnExactVarsOfUptoSaid : Prop := fnExactVarsOfUptoRow.holds Try.pinned (OpenSpec.upto fnExactVarsOfSpec)

/-- 'laws.FnExactIsQuery', WHERE WHAT IT READS IS OF BULK AT MOST 1048576: true; the input reads as it did. -/
def fnExactIsQueryUptoRow : OpenClaim := { program := "ytkhihnoeapfaaaa", sum := "c16b461030566879e4c9645b3d2fd0abd08a62e161246838a1aa4f064faf903d", func := "loop.example/g01989/laws.FnExactIsQuery", spec := "fnExactIsQuery", unfollowed := true, recurses := true, apart := false, narrowed := true }
def FnExactIsQueryUptoSaid : Prop := fnExactIsQueryUptoRow.holds Try.pinned (OpenSpec.upto fnExactIsQuerySpec)

/-- 'laws.FnExactIsOrder', WHERE WHAT IT READS IS OF BULK AT MOST 1048576: true; the input reads as it did. -/
def fnExactIsOrderUptoRow : OpenClaim := { program := "ytkhihnoeapfaaaa", sum := "c16b461030566879e4c9645b3d2fd0abd08a62e161246838a1aa4f064faf903d", func := "loop.example/g01989/laws.FnExactIsOrder", spec := "fnExactIsOrder", unfollowed := true, recurses := true, apart := false, narrowed := true }
def FnExactIsOrderUptoSaid : Prop := fnExactIsOrderUptoRow.holds Try.pinned (OpenSpec.upto fnExactIsOrderSpec)

end Rows
end Go.Proofs.Ytkhihnoeapfaaaa
