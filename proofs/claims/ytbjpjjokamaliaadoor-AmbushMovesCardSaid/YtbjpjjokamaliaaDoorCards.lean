/-
  DERIVED. GIVEN WITH THE SEED: THE CARDS: each row of YtbjpjjokamaliaaDoorRows.lean that lists a variable, with what it lists TIED to the program's text (the seventh form; the later family's looks); each row that meets fmt, with fmt's text TOLD by the authors' own Lean function (tested against real Go, not proved from fmt's source: count such statements apart). THE CARD IS WHAT COUNTS. Prove the row's statement (the work); the ties are given (YtbjpjjokamaliaaDoorTie.lean); close each card by the builder's one call (the guide's Derived/Test/ToyasCard.lean, 'card_holds'). Laid BY PROGRAM, IN A SANDBOX (cutbox-door.mjs). By AI agents, Wed Nov 11 2026. No macro, syntax, notation, axiom, sorry.
-/
import Derived.Test.YtbjpjjokamaliaaDoorRows
import GoSem.ClaimSeven
namespace Go.Proofs.YtbjpjjokamaliaaDoor
namespace Rows

/-- THE TIED CARD OF 'drovewaylaw04.AmbushWins'. -/
def ambushWinsCard : Claim7 := { stood := { row := ambushWinsRow, standIns := [], harness := (true, "f798f73cd1b9357947b36d579769b18aee407fbac699044f449b93c966711b47"), looks := false }, kinds := [], alts := [], laidByText := true, laidKinds := [.data, .data], laidTests := true, laidLooks := .later }
def AmbushWinsCardSaid : Prop := Claim7.holds Tryd.pinned (.plain (OpenSpec.ofChange ambushWinsSpec)) ambushWinsCard

/-- THE TIED CARD OF 'drovewaylaw04.AmbushMoves'. -/
def ambushMovesCard : Claim7 := { stood := { row := ambushMovesRow, standIns := [], harness := (true, "f798f73cd1b9357947b36d579769b18aee407fbac699044f449b93c966711b47"), looks := false }, kinds := [], alts := [], laidByText := true, laidKinds := [.data, .data], laidTests := true, laidLooks := .later }
def AmbushMovesCardSaid : Prop := Claim7.holds Tryd.pinned (.plain (OpenSpec.ofChange ambushMovesSpec)) ambushMovesCard

/-- THE SECOND FORM's CARD OF 'drovewaylaw04.AmbushWins'. -/
def ambushWinsUptoCard : Claim7 := { stood := { row := ambushWinsUptoRow, standIns := [], harness := (true, "f798f73cd1b9357947b36d579769b18aee407fbac699044f449b93c966711b47"), looks := false }, kinds := [], alts := [], laidByText := true, laidKinds := [.data, .data], laidTests := true, laidLooks := .later }
def AmbushWinsUptoCardSaid : Prop := Claim7.holds Tryd.pinned (.plain (OpenSpec.upto ambushWinsSpec)) ambushWinsUptoCard

/-- THE SECOND FORM's CARD OF 'drovewaylaw04.AmbushMoves'. -/
def ambushMovesUptoCard : Claim7 := { stood := { row := ambushMovesUptoRow, standIns := [], harness := (true, "f798f73cd1b9357947b36d579769b18aee407fbac699044f449b93c966711b47"), looks := false }, kinds := [], alts := [], laidByText := true, laidKinds := [.data, .data], laidTests := true, laidLooks := .later }
def AmbushMovesUptoCardSaid : Prop := Claim7.holds Tryd.pinned (.plain (OpenSpec.upto ambushMovesSpec)) ambushMovesUptoCard
end Rows
end Go.Proofs.YtbjpjjokamaliaaDoor
