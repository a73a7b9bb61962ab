/-
  NARROWER THAN 'FOR EVERY INPUT', by the rows' own cells (each row's printed sentence says how): BreedCounts: laid · BreedBuilds: laid · BreedKeeps: laid · BreedShows: laid · BreedMore: laid · BreedAho: laid · BreedBack: laid · BreedCounted: laid · BreedClosure: laid · BreedKept: laid.
  DERIVED. THE GIVEN ROWS OF THIS SEAT. 10 by the template 'for every input the law returns true; each argument reads behind the call as it read before'; 0 by the template 'total and deterministic' (their statements: YtdbbcngmnpejnaaDoorTotals.lean).
  GIVEN WITH THE SEED: the statements are not yours to turn. If you find one false, say at which input.
  Laid BY PROGRAM, IN A SANDBOX (cutbox-rows.mjs): the forced cells as the released guide's own fill.sh prints them over the translation 09385ac6a452c442… (all of the seat's roots in one cut). By AI agents, Wed Nov 11 2026. No macro, syntax, notation, axiom, sorry.
-/
import Derived.Test.YtdbbcngmnpejnaaDoorChecked
import GoSem.Claim
import GoSem.ClaimJoined
import GoSem.ClaimMapViews
import Derived.JoinedTies
import Derived.KernelRfl
namespace Go.Proofs.YtdbbcngmnpejnaaDoor
/- THE CELL 'sum', in the pinned program and in every row, IS THE sha256 OF THE DUMP (.gsa) THAT YtdbbcngmnpejnaaDoorProg.lean LOADS. Nothing in Lean hashes anything: it is a label: what it is worth is what the hold of that sum in a sandbox is worth. -/
noncomputable def Tryd.pinned : Pinned := { name := "ytdbbcngmnpejnaadoor", sum := "09385ac6a452c44284c530d74d982ec9a6c580664d2678df39428dac4150496a", checked := Tryd.checked }
namespace Rows
def none {H : Type} : Left H := { results := [], args := [] }

/- WHAT THE LISTED PACKAGE-LEVEL VARIABLES READ AS WHEN THE CALL BEGINS. Each datum BY PROGRAM (the guide's laid-datum.mjs) off the statement by which the dump's own 'gosem.cut.vars' lays the variable. In a bare row this is a premise. The card (YtdbbcngmnpejnaaDoorCards.lean) ties it to the program's text. -/
def laid_math_bits_deBruijn32tab {H : Type} : DataW H := .agg [.lit (.int .u8 0), .lit (.int .u8 1), .lit (.int .u8 28), .lit (.int .u8 2), .lit (.int .u8 29), .lit (.int .u8 14), .lit (.int .u8 24), .lit (.int .u8 3), .lit (.int .u8 30), .lit (.int .u8 22), .lit (.int .u8 20), .lit (.int .u8 15), .lit (.int .u8 25), .lit (.int .u8 17), .lit (.int .u8 4), .lit (.int .u8 8), .lit (.int .u8 31), .lit (.int .u8 27), .lit (.int .u8 13), .lit (.int .u8 23), .lit (.int .u8 21), .lit (.int .u8 19), .lit (.int .u8 16), .lit (.int .u8 7), .lit (.int .u8 26), .lit (.int .u8 12), .lit (.int .u8 18), .lit (.int .u8 6), .lit (.int .u8 11), .lit (.int .u8 5), .lit (.int .u8 10), .lit (.int .u8 9)]
def laid_math_bits_deBruijn64tab {H : Type} : DataW H := .agg [.lit (.int .u8 0), .lit (.int .u8 1), .lit (.int .u8 56), .lit (.int .u8 2), .lit (.int .u8 57), .lit (.int .u8 49), .lit (.int .u8 28), .lit (.int .u8 3), .lit (.int .u8 61), .lit (.int .u8 58), .lit (.int .u8 42), .lit (.int .u8 50), .lit (.int .u8 38), .lit (.int .u8 29), .lit (.int .u8 17), .lit (.int .u8 4), .lit (.int .u8 62), .lit (.int .u8 47), .lit (.int .u8 59), .lit (.int .u8 36), .lit (.int .u8 45), .lit (.int .u8 43), .lit (.int .u8 51), .lit (.int .u8 22), .lit (.int .u8 53), .lit (.int .u8 39), .lit (.int .u8 33), .lit (.int .u8 30), .lit (.int .u8 24), .lit (.int .u8 18), .lit (.int .u8 12), .lit (.int .u8 5), .lit (.int .u8 63), .lit (.int .u8 55), .lit (.int .u8 48), .lit (.int .u8 27), .lit (.int .u8 60), .lit (.int .u8 41), .lit (.int .u8 37), .lit (.int .u8 16), .lit (.int .u8 46), .lit (.int .u8 35), .lit (.int .u8 44), .lit (.int .u8 21), .lit (.int .u8 52), .lit (.int .u8 32), .lit (.int .u8 23), .lit (.int .u8 11), .lit (.int .u8 54), .lit (.int .u8 26), .lit (.int .u8 40), .lit (.int .u8 15), .lit (.int .u8 34), .lit (.int .u8 20), .lit (.int .u8 31), .lit (.int .u8 10), .lit (.int .u8 25), .lit (.int .u8 14), .lit (.int .u8 19), .lit (.int .u8 9), .lit (.int .u8 13), .lit (.int .u8 8), .lit (.int .u8 7), .lit (.int .u8 6)]

/-- 'drovewaylaw05.BreedCounts': WHATEVER THE INPUT: true; the input reads as it did. -/
def breedCountsSpec : ChangeSpec := { name := "breedCounts", fn := fun _ => fun
  | [d] => { results := [.lit (.bool true)], args := [d] }
  | _ => none }
def breedCountsRow : OpenClaim := { program := "ytdbbcngmnpejnaadoor", sum := "09385ac6a452c44284c530d74d982ec9a6c580664d2678df39428dac4150496a", func := "droveway/drovewaylaw05.BreedCounts", spec := "breedCounts", unfollowed := true, recurses := true, named := ["math/bits.deBruijn32tab", "math/bits.deBruijn64tab"], apart := false, laid := [("math/bits.deBruijn32tab", laid_math_bits_deBruijn32tab), ("math/bits.deBruijn64tab", laid_math_bits_deBruijn64tab)] }
def BreedCountsSaid : Prop := breedCountsRow.holds Tryd.pinned (OpenSpec.ofChange breedCountsSpec)

/-- ITS FALSE NEIGHBOUR: 'it returns false'. Refute it at one input. -/
def breedCountsWrong : ChangeSpec := { name := "breedCounts", fn := fun _ => fun
  | [d] => { results := [.lit (.bool false)], args := [d] }
  | _ => none }
def BreedCountsWrongFalsely : Prop := breedCountsRow.holds Tryd.pinned (OpenSpec.ofChange breedCountsWrong)

/-- 'drovewaylaw05.BreedBuilds': WHATEVER THE INPUT: true; the input reads as it did. -/
def breedBuildsSpec : ChangeSpec := { name := "breedBuilds", fn := fun _ => fun
  | [d1, d2, d3] => { results := [.lit (.bool true)], args := [d1, d2, d3] }
  | _ => none }
def breedBuildsRow : OpenClaim := { program := "ytdbbcngmnpejnaadoor", sum := "09385ac6a452c44284c530d74d982ec9a6c580664d2678df39428dac4150496a", func := "droveway/drovewaylaw05.BreedBuilds", spec := "breedBuilds", unfollowed := true, recurses := true, named := ["math/bits.deBruijn32tab", "math/bits.deBruijn64tab"], apart := false, laid := [("math/bits.deBruijn32tab", laid_math_bits_deBruijn32tab), ("math/bits.deBruijn64tab", laid_math_bits_deBruijn64tab)] }
def BreedBuildsSaid : Prop := breedBuildsRow.holds Tryd.pinned (OpenSpec.ofChange breedBuildsSpec)

/-- ITS FALSE NEIGHBOUR: 'it returns false'. Refute it at one input. -/
def breedBuildsWrong : ChangeSpec := { name := "breedBuilds", fn := fun _ => fun
  | [d1, d2, d3] => { results := [.lit (.bool false)], args := [d1, d2, d3] }
  | _ => none }
def BreedBuildsWrongFalsely : Prop := breedBuildsRow.holds Tryd.pinned (OpenSpec.ofChange breedBuildsWrong)

/-- 'drovewaylaw05.BreedKeeps': WHATEVER THE INPUT: true; the input reads as it did. -/
def breedKeepsSpec : ChangeSpec := { name := "breedKeeps", fn := fun _ => fun
  | [d1, d2, d3, d4] => { results := [.lit (.bool true)], args := [d1, d2, d3, d4] }
  | _ => none }
def breedKeepsRow : OpenClaim := { program := "ytdbbcngmnpejnaadoor", sum := "09385ac6a452c44284c530d74d982ec9a6c580664d2678df39428dac4150496a", func := "droveway/drovewaylaw05.BreedKeeps", spec := "breedKeeps", unfollowed := true, recurses := true, named := ["math/bits.deBruijn32tab", "math/bits.deBruijn64tab"], apart := false, laid := [("math/bits.deBruijn32tab", laid_math_bits_deBruijn32tab), ("math/bits.deBruijn64tab", laid_math_bits_deBruijn64tab)] }
def BreedKeepsSaid : Prop := breedKeepsRow.holds Tryd.pinned (OpenSpec.ofChange breedKeepsSpec)

/-- ITS FALSE NEIGHBOUR: 'it returns false'. Refute it at one input. -/
def breedKeepsWrong : ChangeSpec := { name := "breedKeeps", fn := fun _ => fun
  | [d1, d2, d3, d4] => { results := [.lit (.bool false)], args := [d1, d2, d3, d4] }
  | _ => none }
def BreedKeepsWrongFalsely : Prop := breedKeepsRow.holds Tryd.pinned (OpenSpec.ofChange breedKeepsWrong)

/-- 'drovewaylaw05.BreedShows': WHATEVER THE INPUT: true; the input reads as it did. -/
def breedShowsSpec : ChangeSpec := { name := "breedShows", fn := fun _ => fun
  | [d1, d2, d3] => { results := [.lit (.bool true)], args := [d1, d2, d3] }
  | _ => none }
def breedShowsRow : OpenClaim := { program := "ytdbbcngmnpejnaadoor", sum := "09385ac6a452c44284c530d74d982ec9a6c580664d2678df39428dac4150496a", func := "droveway/drovewaylaw05.BreedShows", spec := "breedShows", unfollowed := true, recurses := true, named := ["math/bits.deBruijn32tab", "math/bits.deBruijn64tab"], apart := false, laid := [("math/bits.deBruijn32tab", laid_math_bits_deBruijn32tab), ("math/bits.deBruijn64tab", laid_math_bits_deBruijn64tab)] }
def BreedShowsSaid : Prop := breedShowsRow.holds Tryd.pinned (OpenSpec.ofChange breedShowsSpec)

/-- ITS FALSE NEIGHBOUR: 'it returns false'. Refute it at one input. -/
def breedShowsWrong : ChangeSpec := { name := "breedShows", fn := fun _ => fun
  | [d1, d2, d3] => { results := [.lit (.bool false)], args := [d1, d2, d3] }
  | _ => none }
def BreedShowsWrongFalsely : Prop := breedShowsRow.holds Tryd.pinned (OpenSpec.ofChange breedShowsWrong)

/-- 'drovewaylaw05.BreedMore': WHATEVER THE INPUT: true; the input reads as it did. -/
def breedMoreSpec : ChangeSpec := { name := "breedMore", fn := fun _ => fun
  | [d1, d2, d3, d4] => { results := [.lit (.bool true)], args := [d1, d2, d3, d4] }
  | _ => none }
def breedMoreRow : OpenClaim := { program := "ytdbbcngmnpejnaadoor", sum := "09385ac6a452c44284c530d74d982ec9a6c580664d2678df39428dac4150496a", func := "droveway/drovewaylaw05.BreedMore", spec := "breedMore", unfollowed := true, recurses := true, named := ["math/bits.deBruijn32tab", "math/bits.deBruijn64tab"], apart := false, laid := [("math/bits.deBruijn32tab", laid_math_bits_deBruijn32tab), ("math/bits.deBruijn64tab", laid_math_bits_deBruijn64tab)] }
def BreedMoreSaid : Prop := breedMoreRow.holds Tryd.pinned (OpenSpec.ofChange breedMoreSpec)

/-- ITS FALSE NEIGHBOUR: 'it returns false'. Refute it at one input. -/
def breedMoreWrong : ChangeSpec := { name := "breedMore", fn := fun _ => fun
  | [d1, d2, d3, d4] => { results := [.lit (.bool false)], args := [d1, d2, d3, d4] }
  | _ => none }
def BreedMoreWrongFalsely : Prop := breedMoreRow.holds Tryd.pinned (OpenSpec.ofChange breedMoreWrong)

/-- 'drovewaylaw05.BreedAho': WHATEVER THE INPUT: true; the input reads as it did. -/
def breedAhoSpec : ChangeSpec := { name := "breedAho", fn := fun _ => fun
  | [d1, d2, d3] => { results := [.lit (.bool true)], args := [d1, d2, d3] }
  | _ => none }
def breedAhoRow : OpenClaim := { program := "ytdbbcngmnpejnaadoor", sum := "09385ac6a452c44284c530d74d982ec9a6c580664d2678df39428dac4150496a", func := "droveway/drovewaylaw05.BreedAho", spec := "breedAho", unfollowed := true, recurses := true, named := ["math/bits.deBruijn32tab", "math/bits.deBruijn64tab"], apart := false, laid := [("math/bits.deBruijn32tab", laid_math_bits_deBruijn32tab), ("math/bits.deBruijn64tab", laid_math_bits_deBruijn64tab)] }
def BreedAhoSaid : Prop := breedAhoRow.holds Tryd.pinned (OpenSpec.ofChange breedAhoSpec)

/-- ITS FALSE NEIGHBOUR: 'it returns false'. Refute it at one input. -/
def breedAhoWrong : ChangeSpec := { name := "breedAho", fn := fun _ => fun
  | [d1, d2, d3] => { results := [.lit (.bool false)], args := [d1, d2, d3] }
  | _ => none }
def BreedAhoWrongFalsely : Prop := breedAhoRow.holds Tryd.pinned (OpenSpec.ofChange breedAhoWrong)

/-- 'drovewaylaw05.BreedBack': WHATEVER THE INPUT: true; the input reads as it did. -/
def breedBackSpec : ChangeSpec := { name := "breedBack", fn := fun _ => fun
  | [d1, d2, d3] => { results := [.lit (.bool true)], args := [d1, d2, d3] }
  | _ => none }
def breedBackRow : OpenClaim := { program := "ytdbbcngmnpejnaadoor", sum := "09385ac6a452c44284c530d74d982ec9a6c580664d2678df39428dac4150496a", func := "droveway/drovewaylaw05.BreedBack", spec := "breedBack", unfollowed := true, recurses := true, named := ["math/bits.deBruijn32tab", "math/bits.deBruijn64tab"], apart := false, laid := [("math/bits.deBruijn32tab", laid_math_bits_deBruijn32tab), ("math/bits.deBruijn64tab", laid_math_bits_deBruijn64tab)] }
def BreedBackSaid : Prop := breedBackRow.holds Tryd.pinned (OpenSpec.ofChange breedBackSpec)

/-- ITS FALSE NEIGHBOUR: 'it returns false'. Refute it at one input. -/
def breedBackWrong : ChangeSpec := { name := "breedBack", fn := fun _ => fun
  | [d1, d2, d3] => { results := [.lit (.bool false)], args := [d1, d2, d3] }
  | _ => none }
def BreedBackWrongFalsely : Prop := breedBackRow.holds Tryd.pinned (OpenSpec.ofChange breedBackWrong)

/-- 'drovewaylaw05.BreedCounted': WHATEVER THE INPUT: true; the input reads as it did. -/
def breedCountedSpec : ChangeSpec := { name := "breedCounted", fn := fun _ => fun
  | [d] => { results := [.lit (.bool true)], args := [d] }
  | _ => none }
def breedCountedRow : OpenClaim := { program := "ytdbbcngmnpejnaadoor", sum := "09385ac6a452c44284c530d74d982ec9a6c580664d2678df39428dac4150496a", func := "droveway/drovewaylaw05.BreedCounted", spec := "breedCounted", unfollowed := true, recurses := true, named := ["math/bits.deBruijn32tab", "math/bits.deBruijn64tab"], apart := false, laid := [("math/bits.deBruijn32tab", laid_math_bits_deBruijn32tab), ("math/bits.deBruijn64tab", laid_math_bits_deBruijn64tab)] }
def BreedCountedSaid : Prop := breedCountedRow.holds Tryd.pinned (OpenSpec.ofChange breedCountedSpec)

/-- ITS FALSE NEIGHBOUR: 'it returns false'. Refute it at one input. -/
def breedCountedWrong : ChangeSpec := { name := "breedCounted", fn := fun _ => fun
  | [d] => { results := [.lit (.bool false)], args := [d] }
  | _ => none }
def BreedCountedWrongFalsely : Prop := breedCountedRow.holds Tryd.pinned (OpenSpec.ofChange breedCountedWrong)

/-- 'drovewaylaw05.BreedClosure': WHATEVER THE INPUT: true; the input reads as it did. -/
def breedClosureSpec : ChangeSpec := { name := "breedClosure", fn := fun _ => fun
  | [d1, d2, d3] => { results := [.lit (.bool true)], args := [d1, d2, d3] }
  | _ => none }
def breedClosureRow : OpenClaim := { program := "ytdbbcngmnpejnaadoor", sum := "09385ac6a452c44284c530d74d982ec9a6c580664d2678df39428dac4150496a", func := "droveway/drovewaylaw05.BreedClosure", spec := "breedClosure", unfollowed := true, recurses := true, named := ["math/bits.deBruijn32tab", "math/bits.deBruijn64tab"], apart := false, laid := [("math/bits.deBruijn32tab", laid_math_bits_deBruijn32tab), ("math/bits.deBruijn64tab", laid_math_bits_deBruijn64tab)] }
def BreedClosureSaid : Prop := breedClosureRow.holds Tryd.pinned (OpenSpec.ofChange breedClosureSpec)

/-- ITS FALSE NEIGHBOUR: 'it returns false'. Refute it at one input. -/
def breedClosureWrong : ChangeSpec := { name := "breedClosure", fn := fun _ => fun
  | [d1, d2, d3] => { results := [.lit (.bool false)], args := [d1, d2, d3] }
  | _ => none }
def BreedClosureWrongFalsely : Prop := breedClosureRow.holds Tryd.pinned (OpenSpec.ofChange breedClosureWrong)

/-- 'drovewaylaw05.BreedKept': WHATEVER THE INPUT: true; the input reads as it did. -/
def breedKeptSpec : ChangeSpec := { name := "breedKept", fn := fun _ => fun
  | [d1, d2, d3, d4] => { results := [.lit (.bool true)], args := [d1, d2, d3, d4] }
  | _ => none }
def breedKeptRow : OpenClaim := { program := "ytdbbcngmnpejnaadoor", sum := "09385ac6a452c44284c530d74d982ec9a6c580664d2678df39428dac4150496a", func := "droveway/drovewaylaw05.BreedKept", spec := "breedKept", unfollowed := true, recurses := true, named := ["math/bits.deBruijn32tab", "math/bits.deBruijn64tab"], apart := false, laid := [("math/bits.deBruijn32tab", laid_math_bits_deBruijn32tab), ("math/bits.deBruijn64tab", laid_math_bits_deBruijn64tab)] }
def BreedKeptSaid : Prop := breedKeptRow.holds Tryd.pinned (OpenSpec.ofChange breedKeptSpec)

/-- ITS FALSE NEIGHBOUR: 'it returns false'. Refute it at one input. -/
def breedKeptWrong : ChangeSpec := { name := "breedKept", fn := fun _ => fun
  | [d1, d2, d3, d4] => { results := [.lit (.bool false)], args := [d1, d2, d3, d4] }
  | _ => none }
def BreedKeptWrongFalsely : Prop := breedKeptRow.holds Tryd.pinned (OpenSpec.ofChange breedKeptWrong)

/- THE SECOND FORM. 'bulk': how many values and letters a reading holds, each counted each time it is reached (what is shared counts as often as it is met; a slice's spare places count too). A statement '..UptoSaid' is the law's where the arguments, and the package variables that the reading takes, are together of bulk at most 1048576: NARROWER than '..Said'. Prove '..Said' where nothing that the law and all that it calls make is longer than what came in: it says more and counts as full. Else prove '..UptoSaid'. A law counts once. -/
mutual
def uptoBulk {H : Type} : DataW H → Nat
  | .lit (.string bytes) => bytes.length + 1
  | .lit _ => 1
  | .nil => 1
  | .ptr d => uptoBulk d + 1
  | .slice elems spare => uptoBulkAll elems + uptoBulkAll spare + 1
  | .agg parts => uptoBulkAll parts + 1
  | .iface _ d => uptoBulk d + 1
  | .map entries => uptoBulkEntries entries + 1
  | .held _ => 1
def uptoBulkAll {H : Type} : List (DataW H) → Nat
  | [] => 0
  | d :: r => uptoBulk d + uptoBulkAll r
def uptoBulkEntries {H : Type} : List (Lit × DataW H) → Nat
  | [] => 0
  | x :: r => uptoBulkEntry x + uptoBulkEntries r
def uptoBulkEntry {H : Type} : Lit × DataW H → Nat
  | (.string bytes, d) => bytes.length + uptoBulk d + 1
  | (_, d) => uptoBulk d + 1
 end
def uptoSmall : (H : Type) → List (DataW H) → Bool := fun _ ds => decide (uptoBulkAll ds ≤ 1048576)
def OpenSpec.upto (s : _root_.Go.ChangeSpec) : _root_.Go.OpenSpec := { _root_.Go.OpenSpec.ofChange s with cond := some uptoSmall }

/-- 'drovewaylaw05.BreedCounts', WHERE WHAT IT READS IS OF BULK AT MOST 1048576: true; the input reads as it did. -/
def breedCountsUptoRow : OpenClaim := { program := "ytdbbcngmnpejnaadoor", sum := "09385ac6a452c44284c530d74d982ec9a6c580664d2678df39428dac4150496a", func := "droveway/drovewaylaw05.BreedCounts", spec := "breedCounts", unfollowed := true, recurses := true, named := ["math/bits.deBruijn32tab", "math/bits.deBruijn64tab"], apart := false, laid := [("math/bits.deBruijn32tab", laid_math_bits_deBruijn32tab), ("math/bits.deBruijn64tab", laid_math_bits_deBruijn64tab)], narrowed := true }
def BreedCountsUptoSaid : Prop := breedCountsUptoRow.holds Tryd.pinned (OpenSpec.upto breedCountsSpec)

/-- 'drovewaylaw05.BreedBuilds', WHERE WHAT IT READS IS OF BULK AT MOST 1048576: true; the input reads as it did. -/
def breedBuildsUptoRow : OpenClaim := { program := "ytdbbcngmnpejnaadoor", sum := "09385ac6a452c44284c530d74d982ec9a6c580664d2678df39428dac4150496a", func := "droveway/drovewaylaw05.BreedBuilds", spec := "breedBuilds", unfollowed := true, recurses := true, named := ["math/bits.deBruijn32tab", "math/bits.deBruijn64tab"], apart := false, laid := [("math/bits.deBruijn32tab", laid_math_bits_deBruijn32tab), ("math/bits.deBruijn64tab", laid_math_bits_deBruijn64tab)], narrowed := true }
def BreedBuildsUptoSaid : Prop := breedBuildsUptoRow.holds Tryd.pinned (OpenSpec.upto breedBuildsSpec)

/-- 'drovewaylaw05.BreedKeeps', WHERE WHAT IT READS IS OF BULK AT MOST 1048576: true; the input reads as it did. -/
def breedKeepsUptoRow : OpenClaim := { program := "ytdbbcngmnpejnaadoor", sum := "09385ac6a452c44284c530d74d982ec9a6c580664d2678df39428dac4150496a", func := "droveway/drovewaylaw05.BreedKeeps", spec := "breedKeeps", unfollowed := true, recurses := true, named := ["math/bits.deBruijn32tab", "math/bits.deBruijn64tab"], apart := false, laid := [("math/bits.deBruijn32tab", laid_math_bits_deBruijn32tab), ("math/bits.deBruijn64tab", laid_math_bits_deBruijn64tab)], narrowed := true }
def BreedKeepsUptoSaid : Prop := breedKeepsUptoRow.holds Tryd.pinned (OpenSpec.upto breedKeepsSpec)

/-- 'drovewaylaw05.BreedShows', WHERE WHAT IT READS IS OF BULK AT MOST 1048576: true; the input reads as it did. -/
def breedShowsUptoRow : OpenClaim := { program := "ytdbbcngmnpejnaadoor", sum := "09385ac6a452c44284c530d74d982ec9a6c580664d2678df39428dac4150496a", func := "droveway/drovewaylaw05.BreedShows", spec := "breedShows", unfollowed := true, recurses := true, named := ["math/bits.deBruijn32tab", "math/bits.deBruijn64tab"], apart := false, laid := [("math/bits.deBruijn32tab", laid_math_bits_deBruijn32tab), ("math/bits.deBruijn64tab", laid_math_bits_deBruijn64tab)], narrowed := true }
def BreedShowsUptoSaid : Prop := breedShowsUptoRow.holds Tryd.pinned (OpenSpec.upto breedShowsSpec)

/-- 'drovewaylaw05.BreedMore', WHERE WHAT IT READS IS OF BULK AT MOST 1048576: true; the input reads as it did. -/
def breedMoreUptoRow : OpenClaim := { program := "ytdbbcngmnpejnaadoor", sum := "09385ac6a452c44284c530d74d982ec9a6c580664d2678df39428dac4150496a", func := "droveway/drovewaylaw05.BreedMore", spec := "breedMore", unfollowed := true, recurses := true, named := ["math/bits.deBruijn32tab", "math/bits.deBruijn64tab"], apart := false, laid := [("math/bits.deBruijn32tab", laid_math_bits_deBruijn32tab), ("math/bits.deBruijn64tab", laid_math_bits_deBruijn64tab)], narrowed := true }
def BreedMoreUptoSaid : Prop := breedMoreUptoRow.holds Tryd.pinned (OpenSpec.upto breedMoreSpec)

/-- 'drovewaylaw05.BreedAho', WHERE WHAT IT READS IS OF BULK AT MOST 1048576: true; the input reads as it did. -/
def breedAhoUptoRow : OpenClaim := { program := "ytdbbcngmnpejnaadoor", sum := "09385ac6a452c44284c530d74d982ec9a6c580664d2678df39428dac4150496a", func := "droveway/drovewaylaw05.BreedAho", spec := "breedAho", unfollowed := true, recurses := true, named := ["math/bits.deBruijn32tab", "math/bits.deBruijn64tab"], apart := false, laid := [("math/bits.deBruijn32tab", laid_math_bits_deBruijn32tab), ("math/bits.deBruijn64tab", laid_math_bits_deBruijn64tab)], narrowed := true }
def BreedAhoUptoSaid : Prop := breedAhoUptoRow.holds Tryd.pinned (OpenSpec.upto breedAhoSpec)

/-- 'drovewaylaw05.BreedBack', WHERE WHAT IT READS IS OF BULK AT MOST 1048576: true; the input reads as it did. -/
def breedBackUptoRow : OpenClaim := { program := "ytdbbcngmnpejnaadoor", sum := "09385ac6a452c44284c530d74d982ec9a6c580664d2678df39428dac4150496a", func := "droveway/drovewaylaw05.BreedBack", spec := "breedBack", unfollowed := true, recurses := true, named := ["math/bits.deBruijn32tab", "math/bits.deBruijn64tab"], apart := false, laid := [("math/bits.deBruijn32tab", laid_math_bits_deBruijn32tab), ("math/bits.deBruijn64tab", laid_math_bits_deBruijn64tab)], narrowed := true }
def BreedBackUptoSaid : Prop := breedBackUptoRow.holds Tryd.pinned (OpenSpec.upto breedBackSpec)

/-- 'drovewaylaw05.BreedCounted', WHERE WHAT IT READS IS OF BULK AT MOST 1048576: true; the input reads as it did. -/
def breedCountedUptoRow : OpenClaim := { program := "ytdbbcngmnpejnaadoor", sum := "09385ac6a452c44284c530d74d982ec9a6c580664d2678df39428dac4150496a", func := "droveway/drovewaylaw05.BreedCounted", spec := "breedCounted", unfollowed := true, recurses := true, named := ["math/bits.deBruijn32tab", "math/bits.deBruijn64tab"], apart := false, laid := [("math/bits.deBruijn32tab", laid_math_bits_deBruijn32tab), ("math/bits.deBruijn64tab", laid_math_bits_deBruijn64tab)], narrowed := true }
def BreedCountedUptoSaid : Prop := breedCountedUptoRow.holds Tryd.pinned (OpenSpec.upto breedCountedSpec)

/-- 'drovewaylaw05.BreedClosure', WHERE WHAT IT READS IS OF BULK AT MOST 1048576: true; the input reads as it did. -/
def breedClosureUptoRow : OpenClaim := { program := "ytdbbcngmnpejnaadoor", sum := "09385ac6a452c44284c530d74d982ec9a6c580664d2678df39428dac4150496a", func := "droveway/drovewaylaw05.BreedClosure", spec := "breedClosure", unfollowed := true, recurses := true, named := ["math/bits.deBruijn32tab", "math/bits.deBruijn64tab"], apart := false, laid := [("math/bits.deBruijn32tab", laid_math_bits_deBruijn32tab), ("math/bits.deBruijn64tab", laid_math_bits_deBruijn64tab)], narrowed := true }
def BreedClosureUptoSaid : Prop := breedClosureUptoRow.holds Tryd.pinned (OpenSpec.upto breedClosureSpec)

/-- 'drovewaylaw05.BreedKept', WHERE WHAT IT READS IS OF BULK AT MOST 1048576: true; the input reads as it did. -/
def breedKeptUptoRow : OpenClaim := { program := "ytdbbcngmnpejnaadoor", sum := "09385ac6a452c44284c530d74d982ec9a6c580664d2678df39428dac4150496a", func := "droveway/drovewaylaw05.BreedKept", spec := "breedKept", unfollowed := true, recurses := true, named := ["math/bits.deBruijn32tab", "math/bits.deBruijn64tab"], apart := false, laid := [("math/bits.deBruijn32tab", laid_math_bits_deBruijn32tab), ("math/bits.deBruijn64tab", laid_math_bits_deBruijn64tab)], narrowed := true }
def BreedKeptUptoSaid : Prop := breedKeptUptoRow.holds Tryd.pinned (OpenSpec.upto breedKeptSpec)

end Rows
end Go.Proofs.YtdbbcngmnpejnaaDoor
