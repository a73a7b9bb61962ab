/-
  DERIVED. GIVEN WITH THE SEED: THE CARDS: each row of YtdbbcngmnpejnaaDoorRows.lean that lists a variable, with what it lists TIED to the program's text (the seventh form; the later family's looks); each row that meets fmt, with fmt's text TOLD by the authors' own Lean function (tested against real Go, not proved from fmt's source: count such statements apart). THE CARD IS WHAT COUNTS. Prove the row's statement (the work); the ties are given (YtdbbcngmnpejnaaDoorTie.lean); close each card by the builder's one call (the guide's Derived/Test/ToyasCard.lean, 'card_holds'). Laid BY PROGRAM, IN A SANDBOX (cutbox-door.mjs). By AI agents, Wed Nov 11 2026. No macro, syntax, notation, axiom, sorry.
-/
import Derived.Test.YtdbbcngmnpejnaaDoorRows
import GoSem.ClaimSeven
namespace Go.Proofs.YtdbbcngmnpejnaaDoor
namespace Rows

/-- THE TIED CARD OF 'drovewaylaw05.BreedCounts'. -/
def breedCountsCard : Claim7 := { stood := { row := breedCountsRow, standIns := [], harness := (true, "449c50ce385e76ce5fb1e3c7acce1baa715782fc22fdf803fec36f95dc6565be"), looks := true }, kinds := [], alts := [], laidByText := true, laidKinds := [.data, .data], laidTests := true, laidLooks := .later }
def BreedCountsCardSaid : Prop := Claim7.holds Tryd.pinned (.plain (OpenSpec.ofChange breedCountsSpec)) breedCountsCard

/-- THE TIED CARD OF 'drovewaylaw05.BreedBuilds'. -/
def breedBuildsCard : Claim7 := { stood := { row := breedBuildsRow, standIns := [], harness := (true, "449c50ce385e76ce5fb1e3c7acce1baa715782fc22fdf803fec36f95dc6565be"), looks := true }, kinds := [], alts := [], laidByText := true, laidKinds := [.data, .data], laidTests := true, laidLooks := .later }
def BreedBuildsCardSaid : Prop := Claim7.holds Tryd.pinned (.plain (OpenSpec.ofChange breedBuildsSpec)) breedBuildsCard

/-- THE TIED CARD OF 'drovewaylaw05.BreedKeeps'. -/
def breedKeepsCard : Claim7 := { stood := { row := breedKeepsRow, standIns := [], harness := (true, "449c50ce385e76ce5fb1e3c7acce1baa715782fc22fdf803fec36f95dc6565be"), looks := true }, kinds := [], alts := [], laidByText := true, laidKinds := [.data, .data], laidTests := true, laidLooks := .later }
def BreedKeepsCardSaid : Prop := Claim7.holds Tryd.pinned (.plain (OpenSpec.ofChange breedKeepsSpec)) breedKeepsCard

/-- THE TIED CARD OF 'drovewaylaw05.BreedShows'. -/
def breedShowsCard : Claim7 := { stood := { row := breedShowsRow, standIns := [], harness := (true, "449c50ce385e76ce5fb1e3c7acce1baa715782fc22fdf803fec36f95dc6565be"), looks := true }, kinds := [], alts := [], laidByText := true, laidKinds := [.data, .data], laidTests := true, laidLooks := .later }
def BreedShowsCardSaid : Prop := Claim7.holds Tryd.pinned (.plain (OpenSpec.ofChange breedShowsSpec)) breedShowsCard

/-- THE TIED CARD OF 'drovewaylaw05.BreedMore'. -/
def breedMoreCard : Claim7 := { stood := { row := breedMoreRow, standIns := [], harness := (true, "449c50ce385e76ce5fb1e3c7acce1baa715782fc22fdf803fec36f95dc6565be"), looks := true }, kinds := [], alts := [], laidByText := true, laidKinds := [.data, .data], laidTests := true, laidLooks := .later }
def BreedMoreCardSaid : Prop := Claim7.holds Tryd.pinned (.plain (OpenSpec.ofChange breedMoreSpec)) breedMoreCard

/-- THE TIED CARD OF 'drovewaylaw05.BreedAho'. -/
def breedAhoCard : Claim7 := { stood := { row := breedAhoRow, standIns := [], harness := (true, "449c50ce385e76ce5fb1e3c7acce1baa715782fc22fdf803fec36f95dc6565be"), looks := true }, kinds := [], alts := [], laidByText := true, laidKinds := [.data, .data], laidTests := true, laidLooks := .later }
def BreedAhoCardSaid : Prop := Claim7.holds Tryd.pinned (.plain (OpenSpec.ofChange breedAhoSpec)) breedAhoCard

/-- THE TIED CARD OF 'drovewaylaw05.BreedBack'. -/
def breedBackCard : Claim7 := { stood := { row := breedBackRow, standIns := [], harness := (true, "449c50ce385e76ce5fb1e3c7acce1baa715782fc22fdf803fec36f95dc6565be"), looks := true }, kinds := [], alts := [], laidByText := true, laidKinds := [.data, .data], laidTests := true, laidLooks := .later }
def BreedBackCardSaid : Prop := Claim7.holds Tryd.pinned (.plain (OpenSpec.ofChange breedBackSpec)) breedBackCard

/-- THE TIED CARD OF 'drovewaylaw05.BreedCounted'. -/
def breedCountedCard : Claim7 := { stood := { row := breedCountedRow, standIns := [], harness := (true, "449c50ce385e76ce5fb1e3c7acce1baa715782fc22fdf803fec36f95dc6565be"), looks := true }, kinds := [], alts := [], laidByText := true, laidKinds := [.data, .data], laidTests := true, laidLooks := .later }
def BreedCountedCardSaid : Prop := Claim7.holds Tryd.pinned (.plain (OpenSpec.ofChange breedCountedSpec)) breedCountedCard

/-- THE TIED CARD OF 'drovewaylaw05.BreedClosure'. -/
def breedClosureCard : Claim7 := { stood := { row := breedClosureRow, standIns := [], harness := (true, "449c50ce385e76ce5fb1e3c7acce1baa715782fc22fdf803fec36f95dc6565be"), looks := true }, kinds := [], alts := [], laidByText := true, laidKinds := [.data, .data], laidTests := true, laidLooks := .later }
def BreedClosureCardSaid : Prop := Claim7.holds Tryd.pinned (.plain (OpenSpec.ofChange breedClosureSpec)) breedClosureCard

/-- THE TIED CARD OF 'drovewaylaw05.BreedKept'. -/
def breedKeptCard : Claim7 := { stood := { row := breedKeptRow, standIns := [], harness := (true, "449c50ce385e76ce5fb1e3c7acce1baa715782fc22fdf803fec36f95dc6565be"), looks := true }, kinds := [], alts := [], laidByText := true, laidKinds := [.data, .data], laidTests := true, laidLooks := .later }
def BreedKeptCardSaid : Prop := Claim7.holds Tryd.pinned (.plain (OpenSpec.ofChange breedKeptSpec)) breedKeptCard

/-- THE SECOND FORM's CARD OF 'drovewaylaw05.BreedCounts'. -/
def breedCountsUptoCard : Claim7 := { stood := { row := breedCountsUptoRow, standIns := [], harness := (true, "449c50ce385e76ce5fb1e3c7acce1baa715782fc22fdf803fec36f95dc6565be"), looks := true }, kinds := [], alts := [], laidByText := true, laidKinds := [.data, .data], laidTests := true, laidLooks := .later }
def BreedCountsUptoCardSaid : Prop := Claim7.holds Tryd.pinned (.plain (OpenSpec.upto breedCountsSpec)) breedCountsUptoCard

/-- THE SECOND FORM's CARD OF 'drovewaylaw05.BreedBuilds'. -/
def breedBuildsUptoCard : Claim7 := { stood := { row := breedBuildsUptoRow, standIns := [], harness := (true, "449c50ce385e76ce5fb1e3c7acce1baa715782fc22fdf803fec36f95dc6565be"), looks := true }, kinds := [], alts := [], laidByText := true, laidKinds := [.data, .data], laidTests := true, laidLooks := .later }
def BreedBuildsUptoCardSaid : Prop := Claim7.holds Tryd.pinned (.plain (OpenSpec.upto breedBuildsSpec)) breedBuildsUptoCard

/-- THE SECOND FORM's CARD OF 'drovewaylaw05.BreedKeeps'. -/
def breedKeepsUptoCard : Claim7 := { stood := { row := breedKeepsUptoRow, standIns := [], harness := (true, "449c50ce385e76ce5fb1e3c7acce1baa715782fc22fdf803fec36f95dc6565be"), looks := true }, kinds := [], alts := [], laidByText := true, laidKinds := [.data, .data], laidTests := true, laidLooks := .later }
def BreedKeepsUptoCardSaid : Prop := Claim7.holds Tryd.pinned (.plain (OpenSpec.upto breedKeepsSpec)) breedKeepsUptoCard

/-- THE SECOND FORM's CARD OF 'drovewaylaw05.BreedShows'. -/
def breedShowsUptoCard : Claim7 := { stood := { row := breedShowsUptoRow, standIns := [], harness := (true, "449c50ce385e76ce5fb1e3c7acce1baa715782fc22fdf803fec36f95dc6565be"), looks := true }, kinds := [], alts := [], laidByText := true, laidKinds := [.data, .data], laidTests := true, laidLooks := .later }
def BreedShowsUptoCardSaid : Prop := Claim7.holds Tryd.pinned (.plain (OpenSpec.upto breedShowsSpec)) breedShowsUptoCard

/-- THE SECOND FORM's CARD OF 'drovewaylaw05.BreedMore'. -/
def breedMoreUptoCard : Claim7 := { stood := { row := breedMoreUptoRow, standIns := [], harness := (true, "449c50ce385e76ce5fb1e3c7acce1baa715782fc22fdf803fec36f95dc6565be"), looks := true }, kinds := [], alts := [], laidByText := true, laidKinds := [.data, .data], laidTests := true, laidLooks := .later }
def BreedMoreUptoCardSaid : Prop := Claim7.holds Tryd.pinned (.plain (OpenSpec.upto breedMoreSpec)) breedMoreUptoCard

/-- THE SECOND FORM's CARD OF 'drovewaylaw05.BreedAho'. -/
def breedAhoUptoCard : Claim7 := { stood := { row := breedAhoUptoRow, standIns := [], harness := (true, "449c50ce385e76ce5fb1e3c7acce1baa715782fc22fdf803fec36f95dc6565be"), looks := true }, kinds := [], alts := [], laidByText := true, laidKinds := [.data, .data], laidTests := true, laidLooks := .later }
def BreedAhoUptoCardSaid : Prop := Claim7.holds Tryd.pinned (.plain (OpenSpec.upto breedAhoSpec)) breedAhoUptoCard

/-- THE SECOND FORM's CARD OF 'drovewaylaw05.BreedBack'. -/
def breedBackUptoCard : Claim7 := { stood := { row := breedBackUptoRow, standIns := [], harness := (true, "449c50ce385e76ce5fb1e3c7acce1baa715782fc22fdf803fec36f95dc6565be"), looks := true }, kinds := [], alts := [], laidByText := true, laidKinds := [.data, .data], laidTests := true, laidLooks := .later }
def BreedBackUptoCardSaid : Prop := Claim7.holds Tryd.pinned (.plain (OpenSpec.upto breedBackSpec)) breedBackUptoCard

/-- THE SECOND FORM's CARD OF 'drovewaylaw05.BreedCounted'. -/
def breedCountedUptoCard : Claim7 := { stood := { row := breedCountedUptoRow, standIns := [], harness := (true, "449c50ce385e76ce5fb1e3c7acce1baa715782fc22fdf803fec36f95dc6565be"), looks := true }, kinds := [], alts := [], laidByText := true, laidKinds := [.data, .data], laidTests := true, laidLooks := .later }
def BreedCountedUptoCardSaid : Prop := Claim7.holds Tryd.pinned (.plain (OpenSpec.upto breedCountedSpec)) breedCountedUptoCard

/-- THE SECOND FORM's CARD OF 'drovewaylaw05.BreedClosure'. -/
def breedClosureUptoCard : Claim7 := { stood := { row := breedClosureUptoRow, standIns := [], harness := (true, "449c50ce385e76ce5fb1e3c7acce1baa715782fc22fdf803fec36f95dc6565be"), looks := true }, kinds := [], alts := [], laidByText := true, laidKinds := [.data, .data], laidTests := true, laidLooks := .later }
def BreedClosureUptoCardSaid : Prop := Claim7.holds Tryd.pinned (.plain (OpenSpec.upto breedClosureSpec)) breedClosureUptoCard

/-- THE SECOND FORM's CARD OF 'drovewaylaw05.BreedKept'. -/
def breedKeptUptoCard : Claim7 := { stood := { row := breedKeptUptoRow, standIns := [], harness := (true, "449c50ce385e76ce5fb1e3c7acce1baa715782fc22fdf803fec36f95dc6565be"), looks := true }, kinds := [], alts := [], laidByText := true, laidKinds := [.data, .data], laidTests := true, laidLooks := .later }
def BreedKeptUptoCardSaid : Prop := Claim7.holds Tryd.pinned (.plain (OpenSpec.upto breedKeptSpec)) breedKeptUptoCard
end Rows
end Go.Proofs.YtdbbcngmnpejnaaDoor
