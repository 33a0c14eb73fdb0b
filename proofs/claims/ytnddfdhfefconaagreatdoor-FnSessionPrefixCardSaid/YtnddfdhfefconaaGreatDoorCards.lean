/-
  DERIVED. GIVEN WITH THE SEED: THE CARDS: each row of YtnddfdhfefconaaGreatDoorRows.lean that lists a variable, with what it lists TIED to the program's text (the seventh form; the later family's looks); each row that meets fmt, with fmt's text TOLD by the authors' own Lean function (tested against real Go, not proved from fmt's source: count such statements apart). THE CARD IS WHAT COUNTS. Prove the row's statement (the work); the ties are given (YtnddfdhfefconaaGreatDoorTie.lean); close each card by the builder's one call (the guide's Derived/Test/ToyasCard.lean, 'card_holds'). Laid BY PROGRAM, IN A SANDBOX (cutbox-door.mjs). By AI agents, Wed Nov 11 2026. No macro, syntax, notation, axiom, sorry.
-/
import Derived.Test.YtnddfdhfefconaaGreatDoorRows
import GoSem.ClaimSeven
namespace Go.Proofs.YtnddfdhfefconaaGreatDoor
namespace Rows

/-- THE TIED CARD OF 'laws.FnSessionHull'. -/
def fnSessionHullCard : Claim7 := { stood := { row := fnSessionHullRow, standIns := [], harness := (true, "20dc37d2ad39abd95ea28a7b61e14f3848b7124f1af8f4f94591a74ffd2b32bf"), looks := true }, kinds := [], alts := [], laidByText := true, laidKinds := [.data, .data, .data, .data, .sentinel, .sentinel, .pinned], laidTests := true, laidLooks := .later }
def FnSessionHullCardSaid : Prop := Claim7.holds Tryz.pinned (.plain (OpenSpec.ofChange fnSessionHullSpec)) fnSessionHullCard

/-- THE TIED CARD OF 'laws.FnSessionPrefix'. -/
def fnSessionPrefixCard : Claim7 := { stood := { row := fnSessionPrefixRow, standIns := [], harness := (true, "20dc37d2ad39abd95ea28a7b61e14f3848b7124f1af8f4f94591a74ffd2b32bf"), looks := true }, kinds := [], alts := [], laidByText := true, laidKinds := [.data, .data, .data, .data, .sentinel, .sentinel, .pinned], laidTests := true, laidLooks := .later }
def FnSessionPrefixCardSaid : Prop := Claim7.holds Tryz.pinned (.plain (OpenSpec.ofChange fnSessionPrefixSpec)) fnSessionPrefixCard

/-- THE TIED CARD OF 'laws.FnSessionWhat'. -/
def fnSessionWhatCard : Claim7 := { stood := { row := fnSessionWhatRow, standIns := [], harness := (true, "20dc37d2ad39abd95ea28a7b61e14f3848b7124f1af8f4f94591a74ffd2b32bf"), looks := true }, kinds := [], alts := [], laidByText := true, laidKinds := [.data, .data, .data, .data, .sentinel, .sentinel, .pinned], laidTests := true, laidLooks := .later }
def FnSessionWhatCardSaid : Prop := Claim7.holds Tryz.pinned (.plain (OpenSpec.ofChange fnSessionWhatSpec)) fnSessionWhatCard

/-- THE TIED CARD OF 'laws.FnSessionSimple'. -/
def fnSessionSimpleCard : Claim7 := { stood := { row := fnSessionSimpleRow, standIns := [], harness := (true, "20dc37d2ad39abd95ea28a7b61e14f3848b7124f1af8f4f94591a74ffd2b32bf"), looks := true }, kinds := [], alts := [], laidByText := true, laidKinds := [.data, .data, .data, .data, .sentinel, .sentinel, .pinned], laidTests := true, laidLooks := .later }
def FnSessionSimpleCardSaid : Prop := Claim7.holds Tryz.pinned (.plain (OpenSpec.ofChange fnSessionSimpleSpec)) fnSessionSimpleCard

/-- THE TIED CARD OF 'laws.FnExactRunSession'. -/
def fnExactRunSessionCard : Claim7 := { stood := { row := fnExactRunSessionRow, standIns := [], harness := (true, "20dc37d2ad39abd95ea28a7b61e14f3848b7124f1af8f4f94591a74ffd2b32bf"), looks := true }, kinds := [], alts := [], laidByText := true, laidKinds := [.data, .data, .data, .data, .sentinel, .sentinel, .pinned], laidTests := true, laidLooks := .later }
def FnExactRunSessionCardSaid : Prop := Claim7.holds Tryz.pinned (.plain (OpenSpec.ofChange fnExactRunSessionSpec)) fnExactRunSessionCard

/-- THE SECOND FORM's CARD OF 'laws.FnSessionHull'. -/
def fnSessionHullUptoCard : Claim7 := { stood := { row := fnSessionHullUptoRow, standIns := [], harness := (true, "20dc37d2ad39abd95ea28a7b61e14f3848b7124f1af8f4f94591a74ffd2b32bf"), looks := true }, kinds := [], alts := [], laidByText := true, laidKinds := [.data, .data, .data, .data, .sentinel, .sentinel, .pinned], laidTests := true, laidLooks := .later }
def FnSessionHullUptoCardSaid : Prop := Claim7.holds Tryz.pinned (.plain (OpenSpec.upto fnSessionHullSpec)) fnSessionHullUptoCard

/-- THE SECOND FORM's CARD OF 'laws.FnSessionPrefix'. -/
def fnSessionPrefixUptoCard : Claim7 := { stood := { row := fnSessionPrefixUptoRow, standIns := [], harness := (true, "20dc37d2ad39abd95ea28a7b61e14f3848b7124f1af8f4f94591a74ffd2b32bf"), looks := true }, kinds := [], alts := [], laidByText := true, laidKinds := [.data, .data, .data, .data, .sentinel, .sentinel, .pinned], laidTests := true, laidLooks := .later }
def FnSessionPrefixUptoCardSaid : Prop := Claim7.holds Tryz.pinned (.plain (OpenSpec.upto fnSessionPrefixSpec)) fnSessionPrefixUptoCard

/-- THE SECOND FORM's CARD OF 'laws.FnSessionWhat'. -/
def fnSessionWhatUptoCard : Claim7 := { stood := { row := fnSessionWhatUptoRow, standIns := [], harness := (true, "20dc37d2ad39abd95ea28a7b61e14f3848b7124f1af8f4f94591a74ffd2b32bf"), looks := true }, kinds := [], alts := [], laidByText := true, laidKinds := [.data, .data, .data, .data, .sentinel, .sentinel, .pinned], laidTests := true, laidLooks := .later }
def FnSessionWhatUptoCardSaid : Prop := Claim7.holds Tryz.pinned (.plain (OpenSpec.upto fnSessionWhatSpec)) fnSessionWhatUptoCard

/-- THE SECOND FORM's CARD OF 'laws.FnSessionSimple'. -/
def fnSessionSimpleUptoCard : Claim7 := { stood := { row := fnSessionSimpleUptoRow, standIns := [], harness := (true, "20dc37d2ad39abd95ea28a7b61e14f3848b7124f1af8f4f94591a74ffd2b32bf"), looks := true }, kinds := [], alts := [], laidByText := true, laidKinds := [.data, .data, .data, .data, .sentinel, .sentinel, .pinned], laidTests := true, laidLooks := .later }
def FnSessionSimpleUptoCardSaid : Prop := Claim7.holds Tryz.pinned (.plain (OpenSpec.upto fnSessionSimpleSpec)) fnSessionSimpleUptoCard

/-- THE SECOND FORM's CARD OF 'laws.FnExactRunSession'. -/
def fnExactRunSessionUptoCard : Claim7 := { stood := { row := fnExactRunSessionUptoRow, standIns := [], harness := (true, "20dc37d2ad39abd95ea28a7b61e14f3848b7124f1af8f4f94591a74ffd2b32bf"), looks := true }, kinds := [], alts := [], laidByText := true, laidKinds := [.data, .data, .data, .data, .sentinel, .sentinel, .pinned], laidTests := true, laidLooks := .later }
def FnExactRunSessionUptoCardSaid : Prop := Claim7.holds Tryz.pinned (.plain (OpenSpec.upto fnExactRunSessionSpec)) fnExactRunSessionUptoCard
end Rows
end Go.Proofs.YtnddfdhfefconaaGreatDoor
