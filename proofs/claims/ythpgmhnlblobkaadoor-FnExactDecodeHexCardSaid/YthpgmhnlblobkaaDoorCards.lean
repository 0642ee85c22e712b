/-
  DERIVED. GIVEN WITH THE SEED: THE CARDS: each row of YthpgmhnlblobkaaDoorRows.lean that lists a variable, with what it lists TIED to the program's text (the seventh form; the later family's looks); each row that meets fmt, with fmt's text TOLD by the authors' own Lean function (tested against real Go, not proved from fmt's source: count such statements apart). THE CARD IS WHAT COUNTS. Prove the row's statement (the work); the ties are given (YthpgmhnlblobkaaDoorTie.lean); close each card by the builder's one call (the guide's Derived/Test/ToyasCard.lean, 'card_holds'). Laid BY PROGRAM, IN A SANDBOX (cutbox-door.mjs). By AI agents, Wed Nov 11 2026. No macro, syntax, notation, axiom, sorry.
-/
import Derived.Test.YthpgmhnlblobkaaDoorRows
import GoSem.ClaimSeven
namespace Go.Proofs.YthpgmhnlblobkaaDoor
namespace Rows

/-- THE TIED CARD OF 'laws.FnExactFormatInt'. -/
def fnExactFormatIntCard : Claim7 := { stood := { row := fnExactFormatIntRow, standIns := [], harness := (true, "34d1e4dd97dce7dcc08cecdc632797dcd885d17267e65e8d27927c8e982c3fb1"), looks := true }, kinds := [], alts := [], laidByText := true, laidKinds := [.data, .data, .data], laidTests := true, laidLooks := .later }
def FnExactFormatIntCardSaid : Prop := Claim7.holds Tryd.pinned (.plain (OpenSpec.ofChange fnExactFormatIntSpec)) fnExactFormatIntCard

/-- THE TIED CARD OF 'laws.FnExactFormatTuples'. -/
def fnExactFormatTuplesCard : Claim7 := { stood := { row := fnExactFormatTuplesRow, standIns := [], harness := (true, "34d1e4dd97dce7dcc08cecdc632797dcd885d17267e65e8d27927c8e982c3fb1"), looks := true }, kinds := [], alts := [], laidByText := true, laidKinds := [.data, .data, .data], laidTests := true, laidLooks := .later }
def FnExactFormatTuplesCardSaid : Prop := Claim7.holds Tryd.pinned (.plain (OpenSpec.ofChange fnExactFormatTuplesSpec)) fnExactFormatTuplesCard

/-- THE TIED CARD OF 'laws.FnExactFormatOrder'. -/
def fnExactFormatOrderCard : Claim7 := { stood := { row := fnExactFormatOrderRow, standIns := [], harness := (true, "34d1e4dd97dce7dcc08cecdc632797dcd885d17267e65e8d27927c8e982c3fb1"), looks := true }, kinds := [], alts := [], laidByText := true, laidKinds := [.data, .data, .data], laidTests := true, laidLooks := .later }
def FnExactFormatOrderCardSaid : Prop := Claim7.holds Tryd.pinned (.plain (OpenSpec.ofChange fnExactFormatOrderSpec)) fnExactFormatOrderCard

/-- THE TIED CARD OF 'laws.FnExactFormatAccess'. -/
def fnExactFormatAccessCard : Claim7 := { stood := { row := fnExactFormatAccessRow, standIns := [], harness := (true, "34d1e4dd97dce7dcc08cecdc632797dcd885d17267e65e8d27927c8e982c3fb1"), looks := true }, kinds := [], alts := [], laidByText := true, laidKinds := [.data, .data, .data], laidTests := true, laidLooks := .later }
def FnExactFormatAccessCardSaid : Prop := Claim7.holds Tryd.pinned (.plain (OpenSpec.ofChange fnExactFormatAccessSpec)) fnExactFormatAccessCard

/-- THE TIED CARD OF 'laws.FnExactFormatFact'. -/
def fnExactFormatFactCard : Claim7 := { stood := { row := fnExactFormatFactRow, standIns := [], harness := (true, "34d1e4dd97dce7dcc08cecdc632797dcd885d17267e65e8d27927c8e982c3fb1"), looks := true }, kinds := [], alts := [], laidByText := true, laidKinds := [.data, .data, .data], laidTests := true, laidLooks := .later }
def FnExactFormatFactCardSaid : Prop := Claim7.holds Tryd.pinned (.plain (OpenSpec.ofChange fnExactFormatFactSpec)) fnExactFormatFactCard

/-- THE TIED CARD OF 'laws.FnExactFormatAtom'. -/
def fnExactFormatAtomCard : Claim7 := { stood := { row := fnExactFormatAtomRow, standIns := [], harness := (true, "34d1e4dd97dce7dcc08cecdc632797dcd885d17267e65e8d27927c8e982c3fb1"), looks := true }, kinds := [], alts := [], laidByText := true, laidKinds := [.data, .data, .data], laidTests := true, laidLooks := .later }
def FnExactFormatAtomCardSaid : Prop := Claim7.holds Tryd.pinned (.plain (OpenSpec.ofChange fnExactFormatAtomSpec)) fnExactFormatAtomCard

/-- THE TIED CARD OF 'laws.FnExactFormatMethod'. -/
def fnExactFormatMethodCard : Claim7 := { stood := { row := fnExactFormatMethodRow, standIns := [], harness := (true, "34d1e4dd97dce7dcc08cecdc632797dcd885d17267e65e8d27927c8e982c3fb1"), looks := true }, kinds := [], alts := [], laidByText := true, laidKinds := [.data, .data, .data], laidTests := true, laidLooks := .later }
def FnExactFormatMethodCardSaid : Prop := Claim7.holds Tryd.pinned (.plain (OpenSpec.ofChange fnExactFormatMethodSpec)) fnExactFormatMethodCard

/-- THE TIED CARD OF 'laws.FnExactFormatQuery'. -/
def fnExactFormatQueryCard : Claim7 := { stood := { row := fnExactFormatQueryRow, standIns := [], harness := (true, "34d1e4dd97dce7dcc08cecdc632797dcd885d17267e65e8d27927c8e982c3fb1"), looks := true }, kinds := [], alts := [], laidByText := true, laidKinds := [.data, .data, .data], laidTests := true, laidLooks := .later }
def FnExactFormatQueryCardSaid : Prop := Claim7.holds Tryd.pinned (.plain (OpenSpec.ofChange fnExactFormatQuerySpec)) fnExactFormatQueryCard

/-- THE TIED CARD OF 'laws.FnExactDecodeHex'. -/
def fnExactDecodeHexCard : Claim7 := { stood := { row := fnExactDecodeHexRow, standIns := [], harness := (true, "34d1e4dd97dce7dcc08cecdc632797dcd885d17267e65e8d27927c8e982c3fb1"), looks := true }, kinds := [], alts := [], laidByText := true, laidKinds := [.sentinel], laidTests := true, laidLooks := .later }
def FnExactDecodeHexCardSaid : Prop := Claim7.holds Tryd.pinned (.plain (OpenSpec.ofChange fnExactDecodeHexSpec)) fnExactDecodeHexCard

/-- THE TIED CARD OF 'laws.FnExactParseInt'. -/
def fnExactParseIntCard : Claim7 := { stood := { row := fnExactParseIntRow, standIns := [], harness := (true, "34d1e4dd97dce7dcc08cecdc632797dcd885d17267e65e8d27927c8e982c3fb1"), looks := true }, kinds := [], alts := [], laidByText := true, laidKinds := [.data, .data, .data, .sentinel, .sentinel], laidTests := true, laidLooks := .later }
def FnExactParseIntCardSaid : Prop := Claim7.holds Tryd.pinned (.plain (OpenSpec.ofChange fnExactParseIntSpec)) fnExactParseIntCard

/-- THE TIED CARD OF 'laws.FnIntegerEncodings'. -/
def fnIntegerEncodingsCard : Claim7 := { stood := { row := fnIntegerEncodingsRow, standIns := [], harness := (true, "34d1e4dd97dce7dcc08cecdc632797dcd885d17267e65e8d27927c8e982c3fb1"), looks := true }, kinds := [], alts := [], laidByText := true, laidKinds := [.data, .data, .data, .sentinel, .sentinel, .sentinel], laidTests := true, laidLooks := .later }
def FnIntegerEncodingsCardSaid : Prop := Claim7.holds Tryd.pinned (.plain (OpenSpec.ofChange fnIntegerEncodingsSpec)) fnIntegerEncodingsCard

/-- THE SECOND FORM's CARD OF 'laws.FnExactFormatInt'. -/
def fnExactFormatIntUptoCard : Claim7 := { stood := { row := fnExactFormatIntUptoRow, standIns := [], harness := (true, "34d1e4dd97dce7dcc08cecdc632797dcd885d17267e65e8d27927c8e982c3fb1"), looks := true }, kinds := [], alts := [], laidByText := true, laidKinds := [.data, .data, .data], laidTests := true, laidLooks := .later }
def FnExactFormatIntUptoCardSaid : Prop := Claim7.holds Tryd.pinned (.plain (OpenSpec.upto fnExactFormatIntSpec)) fnExactFormatIntUptoCard

/-- THE SECOND FORM's CARD OF 'laws.FnExactFormatTuples'. -/
def fnExactFormatTuplesUptoCard : Claim7 := { stood := { row := fnExactFormatTuplesUptoRow, standIns := [], harness := (true, "34d1e4dd97dce7dcc08cecdc632797dcd885d17267e65e8d27927c8e982c3fb1"), looks := true }, kinds := [], alts := [], laidByText := true, laidKinds := [.data, .data, .data], laidTests := true, laidLooks := .later }
def FnExactFormatTuplesUptoCardSaid : Prop := Claim7.holds Tryd.pinned (.plain (OpenSpec.upto fnExactFormatTuplesSpec)) fnExactFormatTuplesUptoCard

/-- THE SECOND FORM's CARD OF 'laws.FnExactFormatOrder'. -/
def fnExactFormatOrderUptoCard : Claim7 := { stood := { row := fnExactFormatOrderUptoRow, standIns := [], harness := (true, "34d1e4dd97dce7dcc08cecdc632797dcd885d17267e65e8d27927c8e982c3fb1"), looks := true }, kinds := [], alts := [], laidByText := true, laidKinds := [.data, .data, .data], laidTests := true, laidLooks := .later }
def FnExactFormatOrderUptoCardSaid : Prop := Claim7.holds Tryd.pinned (.plain (OpenSpec.upto fnExactFormatOrderSpec)) fnExactFormatOrderUptoCard

/-- THE SECOND FORM's CARD OF 'laws.FnExactFormatAccess'. -/
def fnExactFormatAccessUptoCard : Claim7 := { stood := { row := fnExactFormatAccessUptoRow, standIns := [], harness := (true, "34d1e4dd97dce7dcc08cecdc632797dcd885d17267e65e8d27927c8e982c3fb1"), looks := true }, kinds := [], alts := [], laidByText := true, laidKinds := [.data, .data, .data], laidTests := true, laidLooks := .later }
def FnExactFormatAccessUptoCardSaid : Prop := Claim7.holds Tryd.pinned (.plain (OpenSpec.upto fnExactFormatAccessSpec)) fnExactFormatAccessUptoCard

/-- THE SECOND FORM's CARD OF 'laws.FnExactFormatFact'. -/
def fnExactFormatFactUptoCard : Claim7 := { stood := { row := fnExactFormatFactUptoRow, standIns := [], harness := (true, "34d1e4dd97dce7dcc08cecdc632797dcd885d17267e65e8d27927c8e982c3fb1"), looks := true }, kinds := [], alts := [], laidByText := true, laidKinds := [.data, .data, .data], laidTests := true, laidLooks := .later }
def FnExactFormatFactUptoCardSaid : Prop := Claim7.holds Tryd.pinned (.plain (OpenSpec.upto fnExactFormatFactSpec)) fnExactFormatFactUptoCard

/-- THE SECOND FORM's CARD OF 'laws.FnExactFormatAtom'. -/
def fnExactFormatAtomUptoCard : Claim7 := { stood := { row := fnExactFormatAtomUptoRow, standIns := [], harness := (true, "34d1e4dd97dce7dcc08cecdc632797dcd885d17267e65e8d27927c8e982c3fb1"), looks := true }, kinds := [], alts := [], laidByText := true, laidKinds := [.data, .data, .data], laidTests := true, laidLooks := .later }
def FnExactFormatAtomUptoCardSaid : Prop := Claim7.holds Tryd.pinned (.plain (OpenSpec.upto fnExactFormatAtomSpec)) fnExactFormatAtomUptoCard

/-- THE SECOND FORM's CARD OF 'laws.FnExactFormatMethod'. -/
def fnExactFormatMethodUptoCard : Claim7 := { stood := { row := fnExactFormatMethodUptoRow, standIns := [], harness := (true, "34d1e4dd97dce7dcc08cecdc632797dcd885d17267e65e8d27927c8e982c3fb1"), looks := true }, kinds := [], alts := [], laidByText := true, laidKinds := [.data, .data, .data], laidTests := true, laidLooks := .later }
def FnExactFormatMethodUptoCardSaid : Prop := Claim7.holds Tryd.pinned (.plain (OpenSpec.upto fnExactFormatMethodSpec)) fnExactFormatMethodUptoCard

/-- THE SECOND FORM's CARD OF 'laws.FnExactFormatQuery'. -/
def fnExactFormatQueryUptoCard : Claim7 := { stood := { row := fnExactFormatQueryUptoRow, standIns := [], harness := (true, "34d1e4dd97dce7dcc08cecdc632797dcd885d17267e65e8d27927c8e982c3fb1"), looks := true }, kinds := [], alts := [], laidByText := true, laidKinds := [.data, .data, .data], laidTests := true, laidLooks := .later }
def FnExactFormatQueryUptoCardSaid : Prop := Claim7.holds Tryd.pinned (.plain (OpenSpec.upto fnExactFormatQuerySpec)) fnExactFormatQueryUptoCard

/-- THE SECOND FORM's CARD OF 'laws.FnExactDecodeHex'. -/
def fnExactDecodeHexUptoCard : Claim7 := { stood := { row := fnExactDecodeHexUptoRow, standIns := [], harness := (true, "34d1e4dd97dce7dcc08cecdc632797dcd885d17267e65e8d27927c8e982c3fb1"), looks := true }, kinds := [], alts := [], laidByText := true, laidKinds := [.sentinel], laidTests := true, laidLooks := .later }
def FnExactDecodeHexUptoCardSaid : Prop := Claim7.holds Tryd.pinned (.plain (OpenSpec.upto fnExactDecodeHexSpec)) fnExactDecodeHexUptoCard

/-- THE SECOND FORM's CARD OF 'laws.FnExactParseInt'. -/
def fnExactParseIntUptoCard : Claim7 := { stood := { row := fnExactParseIntUptoRow, standIns := [], harness := (true, "34d1e4dd97dce7dcc08cecdc632797dcd885d17267e65e8d27927c8e982c3fb1"), looks := true }, kinds := [], alts := [], laidByText := true, laidKinds := [.data, .data, .data, .sentinel, .sentinel], laidTests := true, laidLooks := .later }
def FnExactParseIntUptoCardSaid : Prop := Claim7.holds Tryd.pinned (.plain (OpenSpec.upto fnExactParseIntSpec)) fnExactParseIntUptoCard

/-- THE SECOND FORM's CARD OF 'laws.FnIntegerEncodings'. -/
def fnIntegerEncodingsUptoCard : Claim7 := { stood := { row := fnIntegerEncodingsUptoRow, standIns := [], harness := (true, "34d1e4dd97dce7dcc08cecdc632797dcd885d17267e65e8d27927c8e982c3fb1"), looks := true }, kinds := [], alts := [], laidByText := true, laidKinds := [.data, .data, .data, .sentinel, .sentinel, .sentinel], laidTests := true, laidLooks := .later }
def FnIntegerEncodingsUptoCardSaid : Prop := Claim7.holds Tryd.pinned (.plain (OpenSpec.upto fnIntegerEncodingsSpec)) fnIntegerEncodingsUptoCard
end Rows
end Go.Proofs.YthpgmhnlblobkaaDoor
