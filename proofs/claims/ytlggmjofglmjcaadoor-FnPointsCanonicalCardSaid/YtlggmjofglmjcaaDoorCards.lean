/-
  DERIVED. GIVEN WITH THE SEED: THE CARDS: each row of YtlggmjofglmjcaaDoorRows.lean that lists a variable, with what it lists TIED to the program's text (the seventh form; the later family's looks); each row that meets fmt, with fmt's text TOLD by the authors' own Lean function (tested against real Go, not proved from fmt's source: count such statements apart). THE CARD IS WHAT COUNTS. Prove the row's statement (the work); the ties are given (YtlggmjofglmjcaaDoorTie.lean); close each card by the builder's one call (the guide's Derived/Test/ToyasCard.lean, 'card_holds'). Laid BY PROGRAM, IN A SANDBOX (cutbox-door.mjs). By AI agents, Wed Nov 11 2026. No macro, syntax, notation, axiom, sorry.
-/
import Derived.Test.YtlggmjofglmjcaaDoorRows
import GoSem.ClaimSeven
namespace Go.Proofs.YtlggmjofglmjcaaDoor
namespace Rows

/-- THE TIED CARD OF 'laws.FnExactEncodeRatPoint'. -/
def fnExactEncodeRatPointCard : Claim7 := { stood := { row := fnExactEncodeRatPointRow, standIns := [], harness := (true, "7f59f89a730e8401056067703b068cd5529d47dbc811a2538cc8f44210016eb7"), looks := true }, kinds := [], alts := [], laidByText := true, laidKinds := [.data, .data, .data], laidTests := true, laidLooks := .later }
def FnExactEncodeRatPointCardSaid : Prop := Claim7.holds Tryd.pinned (.plain (OpenSpec.ofChange fnExactEncodeRatPointSpec)) fnExactEncodeRatPointCard

/-- THE TIED CARD OF 'laws.FnExactEncodePoints'. -/
def fnExactEncodePointsCard : Claim7 := { stood := { row := fnExactEncodePointsRow, standIns := [], harness := (true, "7f59f89a730e8401056067703b068cd5529d47dbc811a2538cc8f44210016eb7"), looks := true }, kinds := [], alts := [], laidByText := true, laidKinds := [.data, .data, .data], laidTests := true, laidLooks := .later }
def FnExactEncodePointsCardSaid : Prop := Claim7.holds Tryd.pinned (.plain (OpenSpec.ofChange fnExactEncodePointsSpec)) fnExactEncodePointsCard

/-- THE TIED CARD OF 'laws.FnExactDecodeRatPoint'. -/
def fnExactDecodeRatPointCard : Claim7 := { stood := { row := fnExactDecodeRatPointRow, standIns := [], harness := (true, "7f59f89a730e8401056067703b068cd5529d47dbc811a2538cc8f44210016eb7"), looks := true }, kinds := [], alts := [], laidByText := true, laidKinds := [.data, .data, .data, .sentinel, .sentinel], laidTests := true, laidLooks := .later }
def FnExactDecodeRatPointCardSaid : Prop := Claim7.holds Tryd.pinned (.plain (OpenSpec.ofChange fnExactDecodeRatPointSpec)) fnExactDecodeRatPointCard

/-- THE TIED CARD OF 'laws.FnRatPointRoundTrip'. -/
def fnRatPointRoundTripCard : Claim7 := { stood := { row := fnRatPointRoundTripRow, standIns := [], harness := (true, "7f59f89a730e8401056067703b068cd5529d47dbc811a2538cc8f44210016eb7"), looks := true }, kinds := [], alts := [], laidByText := true, laidKinds := [.data, .data, .data, .sentinel, .sentinel], laidTests := true, laidLooks := .later }
def FnRatPointRoundTripCardSaid : Prop := Claim7.holds Tryd.pinned (.plain (OpenSpec.ofChange fnRatPointRoundTripSpec)) fnRatPointRoundTripCard

/-- THE TIED CARD OF 'laws.FnRatPointCanonical'. -/
def fnRatPointCanonicalCard : Claim7 := { stood := { row := fnRatPointCanonicalRow, standIns := [], harness := (true, "7f59f89a730e8401056067703b068cd5529d47dbc811a2538cc8f44210016eb7"), looks := true }, kinds := [], alts := [], laidByText := true, laidKinds := [.data, .data, .data, .sentinel, .sentinel], laidTests := true, laidLooks := .later }
def FnRatPointCanonicalCardSaid : Prop := Claim7.holds Tryd.pinned (.plain (OpenSpec.ofChange fnRatPointCanonicalSpec)) fnRatPointCanonicalCard

/-- THE TIED CARD OF 'laws.FnPointsRoundTrip'. -/
def fnPointsRoundTripCard : Claim7 := { stood := { row := fnPointsRoundTripRow, standIns := [], harness := (true, "7f59f89a730e8401056067703b068cd5529d47dbc811a2538cc8f44210016eb7"), looks := true }, kinds := [], alts := [], laidByText := true, laidKinds := [.data, .data, .data, .data, .sentinel, .sentinel, .pinned], laidTests := true, laidLooks := .later }
def FnPointsRoundTripCardSaid : Prop := Claim7.holds Tryd.pinned (.plain (OpenSpec.ofChange fnPointsRoundTripSpec)) fnPointsRoundTripCard

/-- THE TIED CARD OF 'laws.FnExactDecodePoints'. -/
def fnExactDecodePointsCard : Claim7 := { stood := { row := fnExactDecodePointsRow, standIns := [], harness := (true, "7f59f89a730e8401056067703b068cd5529d47dbc811a2538cc8f44210016eb7"), looks := true }, kinds := [], alts := [], laidByText := true, laidKinds := [.data, .data, .data, .data, .sentinel, .sentinel, .pinned], laidTests := true, laidLooks := .later }
def FnExactDecodePointsCardSaid : Prop := Claim7.holds Tryd.pinned (.plain (OpenSpec.ofChange fnExactDecodePointsSpec)) fnExactDecodePointsCard

/-- THE TIED CARD OF 'laws.FnPointsCanonical'. -/
def fnPointsCanonicalCard : Claim7 := { stood := { row := fnPointsCanonicalRow, standIns := [], harness := (true, "7f59f89a730e8401056067703b068cd5529d47dbc811a2538cc8f44210016eb7"), looks := true }, kinds := [], alts := [], laidByText := true, laidKinds := [.data, .data, .data, .data, .sentinel, .sentinel, .pinned], laidTests := true, laidLooks := .later }
def FnPointsCanonicalCardSaid : Prop := Claim7.holds Tryd.pinned (.plain (OpenSpec.ofChange fnPointsCanonicalSpec)) fnPointsCanonicalCard

/-- THE SECOND FORM's CARD OF 'laws.FnExactEncodeRatPoint'. -/
def fnExactEncodeRatPointUptoCard : Claim7 := { stood := { row := fnExactEncodeRatPointUptoRow, standIns := [], harness := (true, "7f59f89a730e8401056067703b068cd5529d47dbc811a2538cc8f44210016eb7"), looks := true }, kinds := [], alts := [], laidByText := true, laidKinds := [.data, .data, .data], laidTests := true, laidLooks := .later }
def FnExactEncodeRatPointUptoCardSaid : Prop := Claim7.holds Tryd.pinned (.plain (OpenSpec.upto fnExactEncodeRatPointSpec)) fnExactEncodeRatPointUptoCard

/-- THE SECOND FORM's CARD OF 'laws.FnExactEncodePoints'. -/
def fnExactEncodePointsUptoCard : Claim7 := { stood := { row := fnExactEncodePointsUptoRow, standIns := [], harness := (true, "7f59f89a730e8401056067703b068cd5529d47dbc811a2538cc8f44210016eb7"), looks := true }, kinds := [], alts := [], laidByText := true, laidKinds := [.data, .data, .data], laidTests := true, laidLooks := .later }
def FnExactEncodePointsUptoCardSaid : Prop := Claim7.holds Tryd.pinned (.plain (OpenSpec.upto fnExactEncodePointsSpec)) fnExactEncodePointsUptoCard

/-- THE SECOND FORM's CARD OF 'laws.FnExactDecodeRatPoint'. -/
def fnExactDecodeRatPointUptoCard : Claim7 := { stood := { row := fnExactDecodeRatPointUptoRow, standIns := [], harness := (true, "7f59f89a730e8401056067703b068cd5529d47dbc811a2538cc8f44210016eb7"), looks := true }, kinds := [], alts := [], laidByText := true, laidKinds := [.data, .data, .data, .sentinel, .sentinel], laidTests := true, laidLooks := .later }
def FnExactDecodeRatPointUptoCardSaid : Prop := Claim7.holds Tryd.pinned (.plain (OpenSpec.upto fnExactDecodeRatPointSpec)) fnExactDecodeRatPointUptoCard

/-- THE SECOND FORM's CARD OF 'laws.FnRatPointRoundTrip'. -/
def fnRatPointRoundTripUptoCard : Claim7 := { stood := { row := fnRatPointRoundTripUptoRow, standIns := [], harness := (true, "7f59f89a730e8401056067703b068cd5529d47dbc811a2538cc8f44210016eb7"), looks := true }, kinds := [], alts := [], laidByText := true, laidKinds := [.data, .data, .data, .sentinel, .sentinel], laidTests := true, laidLooks := .later }
def FnRatPointRoundTripUptoCardSaid : Prop := Claim7.holds Tryd.pinned (.plain (OpenSpec.upto fnRatPointRoundTripSpec)) fnRatPointRoundTripUptoCard

/-- THE SECOND FORM's CARD OF 'laws.FnRatPointCanonical'. -/
def fnRatPointCanonicalUptoCard : Claim7 := { stood := { row := fnRatPointCanonicalUptoRow, standIns := [], harness := (true, "7f59f89a730e8401056067703b068cd5529d47dbc811a2538cc8f44210016eb7"), looks := true }, kinds := [], alts := [], laidByText := true, laidKinds := [.data, .data, .data, .sentinel, .sentinel], laidTests := true, laidLooks := .later }
def FnRatPointCanonicalUptoCardSaid : Prop := Claim7.holds Tryd.pinned (.plain (OpenSpec.upto fnRatPointCanonicalSpec)) fnRatPointCanonicalUptoCard

/-- THE SECOND FORM's CARD OF 'laws.FnPointsRoundTrip'. -/
def fnPointsRoundTripUptoCard : Claim7 := { stood := { row := fnPointsRoundTripUptoRow, standIns := [], harness := (true, "7f59f89a730e8401056067703b068cd5529d47dbc811a2538cc8f44210016eb7"), looks := true }, kinds := [], alts := [], laidByText := true, laidKinds := [.data, .data, .data, .data, .sentinel, .sentinel, .pinned], laidTests := true, laidLooks := .later }
def FnPointsRoundTripUptoCardSaid : Prop := Claim7.holds Tryd.pinned (.plain (OpenSpec.upto fnPointsRoundTripSpec)) fnPointsRoundTripUptoCard

/-- THE SECOND FORM's CARD OF 'laws.FnExactDecodePoints'. -/
def fnExactDecodePointsUptoCard : Claim7 := { stood := { row := fnExactDecodePointsUptoRow, standIns := [], harness := (true, "7f59f89a730e8401056067703b068cd5529d47dbc811a2538cc8f44210016eb7"), looks := true }, kinds := [], alts := [], laidByText := true, laidKinds := [.data, .data, .data, .data, .sentinel, .sentinel, .pinned], laidTests := true, laidLooks := .later }
def FnExactDecodePointsUptoCardSaid : Prop := Claim7.holds Tryd.pinned (.plain (OpenSpec.upto fnExactDecodePointsSpec)) fnExactDecodePointsUptoCard

/-- THE SECOND FORM's CARD OF 'laws.FnPointsCanonical'. -/
def fnPointsCanonicalUptoCard : Claim7 := { stood := { row := fnPointsCanonicalUptoRow, standIns := [], harness := (true, "7f59f89a730e8401056067703b068cd5529d47dbc811a2538cc8f44210016eb7"), looks := true }, kinds := [], alts := [], laidByText := true, laidKinds := [.data, .data, .data, .data, .sentinel, .sentinel, .pinned], laidTests := true, laidLooks := .later }
def FnPointsCanonicalUptoCardSaid : Prop := Claim7.holds Tryd.pinned (.plain (OpenSpec.upto fnPointsCanonicalSpec)) fnPointsCanonicalUptoCard
end Rows
end Go.Proofs.YtlggmjofglmjcaaDoor
