/-
  DERIVED. GIVEN WITH THE SEED: THE CARDS: each row of YtojjojcmemifhaaDoorRows.lean that lists a variable, with what it lists TIED to the program's text (the seventh form; the later family's looks); each row that meets fmt, with fmt's text TOLD by the authors' own Lean function (tested against real Go, not proved from fmt's source: count such statements apart). THE CARD IS WHAT COUNTS. Prove the row's statement (the work); the ties are given (YtojjojcmemifhaaDoorTie.lean); close each card by the builder's one call (the guide's Derived/Test/ToyasCard.lean, 'card_holds'). Laid BY PROGRAM, IN A SANDBOX (cutbox-door.mjs). By AI agents, Wed Nov 11 2026. No macro, syntax, notation, axiom, sorry.
-/
import Derived.Test.YtojjojcmemifhaaDoorRows
import GoSem.ClaimSeven
namespace Go.Proofs.YtojjojcmemifhaaDoor
namespace Rows

/-- THE TIED CARD OF 'laws.FnExactParseMethod'. -/
def fnExactParseMethodCard : Claim7 := { stood := { row := fnExactParseMethodRow, standIns := [], harness := (true, "ee071a02a71b404daa63b72b3d7fb869686fdee8558ca50b5c986ba8a3131f71"), looks := true }, kinds := [], alts := [], laidByText := true, laidKinds := [.data, .data, .data, .data, .sentinel, .sentinel, .pinned], laidTests := true, laidLooks := .later }
def FnExactParseMethodCardSaid : Prop := Claim7.holds Tryd.pinned (.plain (OpenSpec.ofChange fnExactParseMethodSpec)) fnExactParseMethodCard

/-- THE SECOND FORM's CARD OF 'laws.FnExactParseMethod'. -/
def fnExactParseMethodUptoCard : Claim7 := { stood := { row := fnExactParseMethodUptoRow, standIns := [], harness := (true, "ee071a02a71b404daa63b72b3d7fb869686fdee8558ca50b5c986ba8a3131f71"), looks := true }, kinds := [], alts := [], laidByText := true, laidKinds := [.data, .data, .data, .data, .sentinel, .sentinel, .pinned], laidTests := true, laidLooks := .later }
def FnExactParseMethodUptoCardSaid : Prop := Claim7.holds Tryd.pinned (.plain (OpenSpec.upto fnExactParseMethodSpec)) fnExactParseMethodUptoCard
end Rows
end Go.Proofs.YtojjojcmemifhaaDoor
