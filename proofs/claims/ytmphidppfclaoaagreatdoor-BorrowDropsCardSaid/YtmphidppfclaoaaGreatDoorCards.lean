/-
  DERIVED. GIVEN WITH THE SEED: THE CARDS: each row of YtmphidppfclaoaaGreatDoorRows.lean that lists a variable, with what it lists TIED to the program's text (the seventh form; the later family's looks); each row that meets fmt, with fmt's text TOLD by the authors' own Lean function (tested against real Go, not proved from fmt's source: count such statements apart). THE CARD IS WHAT COUNTS. Prove the row's statement (the work); the ties are given (YtmphidppfclaoaaGreatDoorTie.lean); close each card by the builder's one call (the guide's Derived/Test/ToyasCard.lean, 'card_holds'). Laid BY PROGRAM, IN A SANDBOX (cutbox-door.mjs). By AI agents, Wed Nov 11 2026. No macro, syntax, notation, axiom, sorry.
-/
import Derived.Test.YtmphidppfclaoaaGreatDoorRows
import GoSem.ClaimSeven
namespace Go.Proofs.YtmphidppfclaoaaGreatDoor
namespace Rows

/-- THE TIED CARD OF 'weftwaylaw14.BorrowPlaces'. -/
def borrowPlacesCard : Claim7 := { stood := { row := borrowPlacesRow, standIns := [], harness := (true, "be7ac0ae7ecf45fab19ef577f94bef5275231d03952b407ac822dc5bf78b777f"), looks := true }, kinds := [], alts := [], laidByText := true, laidKinds := [.listed, .data], laidTests := true, laidLooks := .later }
def BorrowPlacesCardSaid : Prop := Claim7.holds Tryz.pinned (.plain (OpenSpec.ofChange borrowPlacesSpec)) borrowPlacesCard

/-- THE TIED CARD OF 'weftwaylaw14.BorrowBegins'. -/
def borrowBeginsCard : Claim7 := { stood := { row := borrowBeginsRow, standIns := [], harness := (true, "be7ac0ae7ecf45fab19ef577f94bef5275231d03952b407ac822dc5bf78b777f"), looks := true }, kinds := [], alts := [], laidByText := true, laidKinds := [.listed, .data], laidTests := true, laidLooks := .later }
def BorrowBeginsCardSaid : Prop := Claim7.holds Tryz.pinned (.plain (OpenSpec.ofChange borrowBeginsSpec)) borrowBeginsCard

/-- THE TIED CARD OF 'weftwaylaw14.BorrowDrops'. -/
def borrowDropsCard : Claim7 := { stood := { row := borrowDropsRow, standIns := [], harness := (true, "be7ac0ae7ecf45fab19ef577f94bef5275231d03952b407ac822dc5bf78b777f"), looks := true }, kinds := [], alts := [], laidByText := true, laidKinds := [.listed, .data], laidTests := true, laidLooks := .later }
def BorrowDropsCardSaid : Prop := Claim7.holds Tryz.pinned (.plain (OpenSpec.ofChange borrowDropsSpec)) borrowDropsCard

/-- THE SECOND FORM's CARD OF 'weftwaylaw14.BorrowPlaces'. -/
def borrowPlacesUptoCard : Claim7 := { stood := { row := borrowPlacesUptoRow, standIns := [], harness := (true, "be7ac0ae7ecf45fab19ef577f94bef5275231d03952b407ac822dc5bf78b777f"), looks := true }, kinds := [], alts := [], laidByText := true, laidKinds := [.listed, .data], laidTests := true, laidLooks := .later }
def BorrowPlacesUptoCardSaid : Prop := Claim7.holds Tryz.pinned (.plain (OpenSpec.upto borrowPlacesSpec)) borrowPlacesUptoCard

/-- THE SECOND FORM's CARD OF 'weftwaylaw14.BorrowBegins'. -/
def borrowBeginsUptoCard : Claim7 := { stood := { row := borrowBeginsUptoRow, standIns := [], harness := (true, "be7ac0ae7ecf45fab19ef577f94bef5275231d03952b407ac822dc5bf78b777f"), looks := true }, kinds := [], alts := [], laidByText := true, laidKinds := [.listed, .data], laidTests := true, laidLooks := .later }
def BorrowBeginsUptoCardSaid : Prop := Claim7.holds Tryz.pinned (.plain (OpenSpec.upto borrowBeginsSpec)) borrowBeginsUptoCard

/-- THE SECOND FORM's CARD OF 'weftwaylaw14.BorrowDrops'. -/
def borrowDropsUptoCard : Claim7 := { stood := { row := borrowDropsUptoRow, standIns := [], harness := (true, "be7ac0ae7ecf45fab19ef577f94bef5275231d03952b407ac822dc5bf78b777f"), looks := true }, kinds := [], alts := [], laidByText := true, laidKinds := [.listed, .data], laidTests := true, laidLooks := .later }
def BorrowDropsUptoCardSaid : Prop := Claim7.holds Tryz.pinned (.plain (OpenSpec.upto borrowDropsSpec)) borrowDropsUptoCard
end Rows
end Go.Proofs.YtmphidppfclaoaaGreatDoor
