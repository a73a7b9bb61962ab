/-
  No cell of these rows narrows 'for every input' (looked for: loops, veiled, ifaces, maps, wideKeys, modest, calm, conditions, laid).
  DERIVED. THE GIVEN ROWS OF THIS SEAT. 8 by the template 'for every input the law returns true; each argument reads behind the call as it read before'; 0 by the template 'total and deterministic' (their statements: YtbjpjjokamaliaaTotals.lean).
  GIVEN WITH THE SEED: the statements are not yours to turn. If you find one false, say at which input.
  Laid BY PROGRAM, IN A SANDBOX (cutbox-rows.mjs): the forced cells as the released guide's own fill.sh prints them over the translation 7971102079c7fe27… (all of the seat's roots in one cut). By AI agents, Wed Nov 11 2026. No macro, syntax, notation, axiom, sorry.
-/
import Derived.Test.YtbjpjjokamaliaaChecked
import GoSem.Claim
import GoSem.ClaimJoined
import GoSem.ClaimMapViews
import Derived.JoinedTies
import Derived.KernelRfl
namespace Go.Proofs.Ytbjpjjokamaliaa
/- THE CELL 'sum', in the pinned program and in every row, IS THE sha256 OF THE DUMP (.gsa) THAT YtbjpjjokamaliaaProg.lean LOADS. Nothing in Lean hashes anything: it is a label: what it is worth is what the hold of that sum in a sandbox is worth. -/
noncomputable def Try.pinned : Pinned := { name := "ytbjpjjokamaliaa", sum := "7971102079c7fe273953212ab393829817d08bcb36f82563ae964ae97130b5e7", checked := Try.checked }
namespace Rows
def none {H : Type} : Left H := { results := [], args := [] }

/-- 'drovewaylaw04.AmbushMore': WHATEVER THE INPUT: true; the input reads as it did. -/
def ambushMoreSpec : ChangeSpec := { name := "ambushMore", fn := fun _ => fun
  | [d1, d2, d3, d4, d5] => { results := [.lit (.bool true)], args := [d1, d2, d3, d4, d5] }
  | _ => none }
def ambushMoreRow : OpenClaim := { program := "ytbjpjjokamaliaa", sum := "7971102079c7fe273953212ab393829817d08bcb36f82563ae964ae97130b5e7", func := "droveway/drovewaylaw04.AmbushMore", spec := "ambushMore", unfollowed := true, recurses := true, plainKeys := false, apart := false }
def AmbushMoreSaid : Prop := ambushMoreRow.holds Try.pinned (OpenSpec.ofChange ambushMoreSpec)

/-- ITS FALSE NEIGHBOUR: 'it returns false'. Refute it at one input. -/
def ambushMoreWrong : ChangeSpec := { name := "ambushMore", fn := fun _ => fun
  | [d1, d2, d3, d4, d5] => { results := [.lit (.bool false)], args := [d1, d2, d3, d4, d5] }
  | _ => none }
def AmbushMoreWrongFalsely : Prop := ambushMoreRow.holds Try.pinned (OpenSpec.ofChange ambushMoreWrong)

/-- 'drovewaylaw04.AmbushBegins': WHATEVER THE INPUT: true; the input reads as it did. -/
def ambushBeginsSpec : ChangeSpec := { name := "ambushBegins", fn := fun _ => fun
  | [d1, d2, d3] => { results := [.lit (.bool true)], args := [d1, d2, d3] }
  | _ => none }
def ambushBeginsRow : OpenClaim := { program := "ytbjpjjokamaliaa", sum := "7971102079c7fe273953212ab393829817d08bcb36f82563ae964ae97130b5e7", func := "droveway/drovewaylaw04.AmbushBegins", spec := "ambushBegins", unfollowed := true, recurses := true, plainKeys := false, apart := false }
def AmbushBeginsSaid : Prop := ambushBeginsRow.holds Try.pinned (OpenSpec.ofChange ambushBeginsSpec)

/-- ITS FALSE NEIGHBOUR: 'it returns false'. Refute it at one input. -/
def ambushBeginsWrong : ChangeSpec := { name := "ambushBegins", fn := fun _ => fun
  | [d1, d2, d3] => { results := [.lit (.bool false)], args := [d1, d2, d3] }
  | _ => none }
def AmbushBeginsWrongFalsely : Prop := ambushBeginsRow.holds Try.pinned (OpenSpec.ofChange ambushBeginsWrong)

/-- 'drovewaylaw04.AmbushDangers': WHATEVER THE INPUT: true; the input reads as it did. -/
def ambushDangersSpec : ChangeSpec := { name := "ambushDangers", fn := fun _ => fun
  | [d1, d2, d3] => { results := [.lit (.bool true)], args := [d1, d2, d3] }
  | _ => none }
def ambushDangersRow : OpenClaim := { program := "ytbjpjjokamaliaa", sum := "7971102079c7fe273953212ab393829817d08bcb36f82563ae964ae97130b5e7", func := "droveway/drovewaylaw04.AmbushDangers", spec := "ambushDangers", unfollowed := true, recurses := true, plainKeys := false, apart := false }
def AmbushDangersSaid : Prop := ambushDangersRow.holds Try.pinned (OpenSpec.ofChange ambushDangersSpec)

/-- ITS FALSE NEIGHBOUR: 'it returns false'. Refute it at one input. -/
def ambushDangersWrong : ChangeSpec := { name := "ambushDangers", fn := fun _ => fun
  | [d1, d2, d3] => { results := [.lit (.bool false)], args := [d1, d2, d3] }
  | _ => none }
def AmbushDangersWrongFalsely : Prop := ambushDangersRow.holds Try.pinned (OpenSpec.ofChange ambushDangersWrong)

/-- 'drovewaylaw04.AmbushSelfridge': WHATEVER THE INPUT: true; the input reads as it did. -/
def ambushSelfridgeSpec : ChangeSpec := { name := "ambushSelfridge", fn := fun _ => fun
  | [d1, d2, d3, d4, d5] => { results := [.lit (.bool true)], args := [d1, d2, d3, d4, d5] }
  | _ => none }
def ambushSelfridgeRow : OpenClaim := { program := "ytbjpjjokamaliaa", sum := "7971102079c7fe273953212ab393829817d08bcb36f82563ae964ae97130b5e7", func := "droveway/drovewaylaw04.AmbushSelfridge", spec := "ambushSelfridge", unfollowed := true, recurses := true, plainKeys := false, apart := false }
def AmbushSelfridgeSaid : Prop := ambushSelfridgeRow.holds Try.pinned (OpenSpec.ofChange ambushSelfridgeSpec)

/-- ITS FALSE NEIGHBOUR: 'it returns false'. Refute it at one input. -/
def ambushSelfridgeWrong : ChangeSpec := { name := "ambushSelfridge", fn := fun _ => fun
  | [d1, d2, d3, d4, d5] => { results := [.lit (.bool false)], args := [d1, d2, d3, d4, d5] }
  | _ => none }
def AmbushSelfridgeWrongFalsely : Prop := ambushSelfridgeRow.holds Try.pinned (OpenSpec.ofChange ambushSelfridgeWrong)

/-- 'drovewaylaw04.AmbushPairs': WHATEVER THE INPUT: true; the input reads as it did. -/
def ambushPairsSpec : ChangeSpec := { name := "ambushPairs", fn := fun _ => fun
  | [d1, d2, d3, d4] => { results := [.lit (.bool true)], args := [d1, d2, d3, d4] }
  | _ => none }
def ambushPairsRow : OpenClaim := { program := "ytbjpjjokamaliaa", sum := "7971102079c7fe273953212ab393829817d08bcb36f82563ae964ae97130b5e7", func := "droveway/drovewaylaw04.AmbushPairs", spec := "ambushPairs", unfollowed := true, recurses := true, plainKeys := false, apart := false }
def AmbushPairsSaid : Prop := ambushPairsRow.holds Try.pinned (OpenSpec.ofChange ambushPairsSpec)

/-- ITS FALSE NEIGHBOUR: 'it returns false'. Refute it at one input. -/
def ambushPairsWrong : ChangeSpec := { name := "ambushPairs", fn := fun _ => fun
  | [d1, d2, d3, d4] => { results := [.lit (.bool false)], args := [d1, d2, d3, d4] }
  | _ => none }
def AmbushPairsWrongFalsely : Prop := ambushPairsRow.holds Try.pinned (OpenSpec.ofChange ambushPairsWrong)

/-- 'drovewaylaw04.AmbushPaired': WHATEVER THE INPUT: true; the input reads as it did. -/
def ambushPairedSpec : ChangeSpec := { name := "ambushPaired", fn := fun _ => fun
  | [d1, d2, d3, d4] => { results := [.lit (.bool true)], args := [d1, d2, d3, d4] }
  | _ => none }
def ambushPairedRow : OpenClaim := { program := "ytbjpjjokamaliaa", sum := "7971102079c7fe273953212ab393829817d08bcb36f82563ae964ae97130b5e7", func := "droveway/drovewaylaw04.AmbushPaired", spec := "ambushPaired", unfollowed := true, recurses := true, plainKeys := false, apart := false }
def AmbushPairedSaid : Prop := ambushPairedRow.holds Try.pinned (OpenSpec.ofChange ambushPairedSpec)

/-- ITS FALSE NEIGHBOUR: 'it returns false'. Refute it at one input. -/
def ambushPairedWrong : ChangeSpec := { name := "ambushPaired", fn := fun _ => fun
  | [d1, d2, d3, d4] => { results := [.lit (.bool false)], args := [d1, d2, d3, d4] }
  | _ => none }
def AmbushPairedWrongFalsely : Prop := ambushPairedRow.holds Try.pinned (OpenSpec.ofChange ambushPairedWrong)

/-- 'drovewaylaw04.AmbushLines': WHATEVER THE INPUT: true; the input reads as it did. -/
def ambushLinesSpec : ChangeSpec := { name := "ambushLines", fn := fun _ => fun
  | [d1, d2, d3, d4, d5] => { results := [.lit (.bool true)], args := [d1, d2, d3, d4, d5] }
  | _ => none }
def ambushLinesRow : OpenClaim := { program := "ytbjpjjokamaliaa", sum := "7971102079c7fe273953212ab393829817d08bcb36f82563ae964ae97130b5e7", func := "droveway/drovewaylaw04.AmbushLines", spec := "ambushLines", unfollowed := true, recurses := true, plainKeys := false, apart := false }
def AmbushLinesSaid : Prop := ambushLinesRow.holds Try.pinned (OpenSpec.ofChange ambushLinesSpec)

/-- ITS FALSE NEIGHBOUR: 'it returns false'. Refute it at one input. -/
def ambushLinesWrong : ChangeSpec := { name := "ambushLines", fn := fun _ => fun
  | [d1, d2, d3, d4, d5] => { results := [.lit (.bool false)], args := [d1, d2, d3, d4, d5] }
  | _ => none }
def AmbushLinesWrongFalsely : Prop := ambushLinesRow.holds Try.pinned (OpenSpec.ofChange ambushLinesWrong)

/-- 'drovewaylaw04.AmbushGuards': WHATEVER THE INPUT: true; the input reads as it did. -/
def ambushGuardsSpec : ChangeSpec := { name := "ambushGuards", fn := fun _ => fun
  | [d1, d2] => { results := [.lit (.bool true)], args := [d1, d2] }
  | _ => none }
def ambushGuardsRow : OpenClaim := { program := "ytbjpjjokamaliaa", sum := "7971102079c7fe273953212ab393829817d08bcb36f82563ae964ae97130b5e7", func := "droveway/drovewaylaw04.AmbushGuards", spec := "ambushGuards", unfollowed := true, recurses := true, plainKeys := false, apart := false }
def AmbushGuardsSaid : Prop := ambushGuardsRow.holds Try.pinned (OpenSpec.ofChange ambushGuardsSpec)

/-- ITS FALSE NEIGHBOUR: 'it returns false'. Refute it at one input. -/
def ambushGuardsWrong : ChangeSpec := { name := "ambushGuards", fn := fun _ => fun
  | [d1, d2] => { results := [.lit (.bool false)], args := [d1, d2] }
  | _ => none }
def AmbushGuardsWrongFalsely : Prop := ambushGuardsRow.holds Try.pinned (OpenSpec.ofChange ambushGuardsWrong)

/- THE SECOND FORM. 'bulk': how many values and letters a reading holds, each counted each time it is reached (what is shared counts as often as it is met; a slice's spare places count too). A statement '..UptoSaid' is the law's where the arguments, and the package variables that the reading takes, are together of bulk at most 1048576: NARROWER than '..Said'. Prove '..Said' where nothing that the law and all that it calls make is longer than what came in: it says more and counts as full. Else prove '..UptoSaid'. A law counts once. -/
mutual
def uptoBulk {H : Type} : DataW H → Nat
  | .lit (.string bytes) => bytes.length + 1
  | .lit _ => 1
  | .nil => 1
  | .ptr d => uptoBulk d + 1
  | .slice elems spare => uptoBulkAll elems + uptoBulkAll spare + 1
  | .agg parts => uptoBulkAll parts + 1
  | .iface _ d => uptoBulk d + 1
  | .map entries => uptoBulkEntries entries + 1
  | .held _ => 1
def uptoBulkAll {H : Type} : List (DataW H) → Nat
  | [] => 0
  | d :: r => uptoBulk d + uptoBulkAll r
def uptoBulkEntries {H : Type} : List (Lit × DataW H) → Nat
  | [] => 0
  | x :: r => uptoBulkEntry x + uptoBulkEntries r
def uptoBulkEntry {H : Type} : Lit × DataW H → Nat
  | (.string bytes, d) => bytes.length + uptoBulk d + 1
  | (_, d) => uptoBulk d + 1
 end
def uptoSmall : (H : Type) → List (DataW H) → Bool := fun _ ds => decide (uptoBulkAll ds ≤ 1048576)
def OpenSpec.upto (s : _root_.Go.ChangeSpec) : _root_.Go.OpenSpec := { _root_.Go.OpenSpec.ofChange s with cond := some uptoSmall }

/-- 'drovewaylaw04.AmbushMore', WHERE WHAT IT READS IS OF BULK AT MOST 1048576: true; the input reads as it did. -/
def ambushMoreUptoRow : OpenClaim := { program := "ytbjpjjokamaliaa", sum := "7971102079c7fe273953212ab393829817d08bcb36f82563ae964ae97130b5e7", func := "droveway/drovewaylaw04.AmbushMore", spec := "ambushMore", unfollowed := true, recurses := true, plainKeys := false, apart := false, narrowed := true }
def AmbushMoreUptoSaid : Prop := ambushMoreUptoRow.holds Try.pinned (OpenSpec.upto ambushMoreSpec)

/-- 'drovewaylaw04.AmbushBegins', WHERE WHAT IT READS IS OF BULK AT MOST 1048576: true; the input reads as it did. -/
def ambushBeginsUptoRow : OpenClaim := { program := "ytbjpjjokamaliaa", sum := "7971102079c7fe273953212ab393829817d08bcb36f82563ae964ae97130b5e7", func := "droveway/drovewaylaw04.AmbushBegins", spec := "ambushBegins", unfollowed := true, recurses := true, plainKeys := false, apart := false, narrowed := true }
def AmbushBeginsUptoSaid : Prop := ambushBeginsUptoRow.holds Try.pinned (OpenSpec.upto ambushBeginsSpec)

/-- 'drovewaylaw04.AmbushDangers', WHERE WHAT IT READS IS OF BULK AT MOST 1048576: true; the input reads as it did. -/
def ambushDangersUptoRow : OpenClaim := { program := "ytbjpjjokamaliaa", sum := "7971102079c7fe273953212ab393829817d08bcb36f82563ae964ae97130b5e7", func := "droveway/drovewaylaw04.AmbushDangers", spec := "ambushDangers", unfollowed := true, recurses := true, plainKeys := false, apart := false, narrowed := true }
def AmbushDangersUptoSaid : Prop := ambushDangersUptoRow.holds Try.pinned (OpenSpec.upto ambushDangersSpec)

/-- 'drovewaylaw04.AmbushSelfridge', WHERE WHAT IT READS IS OF BULK AT MOST 1048576: true; the input reads as it did. -/
def ambushSelfridgeUptoRow : OpenClaim := { program := "ytbjpjjokamaliaa", sum := "7971102079c7fe273953212ab393829817d08bcb36f82563ae964ae97130b5e7", func := "droveway/drovewaylaw04.AmbushSelfridge", spec := "ambushSelfridge", unfollowed := true, recurses := true, plainKeys := false, apart := false, narrowed := true }
def AmbushSelfridgeUptoSaid : Prop := ambushSelfridgeUptoRow.holds Try.pinned (OpenSpec.upto ambushSelfridgeSpec)

/-- 'drovewaylaw04.AmbushPairs', WHERE WHAT IT READS IS OF BULK AT MOST 1048576: true; the input reads as it did. -/
def ambushPairsUptoRow : OpenClaim := { program := "ytbjpjjokamaliaa", sum := "7971102079c7fe273953212ab393829817d08bcb36f82563ae964ae97130b5e7", func := "droveway/drovewaylaw04.AmbushPairs", spec := "ambushPairs", unfollowed := true, recurses := true, plainKeys := false, apart := false, narrowed := true }
def AmbushPairsUptoSaid : Prop := ambushPairsUptoRow.holds Try.pinned (OpenSpec.upto ambushPairsSpec)

/-- 'drovewaylaw04.AmbushPaired', WHERE WHAT IT READS IS OF BULK AT MOST 1048576: true; the input reads as it did. -/
def ambushPairedUptoRow : OpenClaim := { program := "ytbjpjjokamaliaa", sum := "7971102079c7fe273953212ab393829817d08bcb36f82563ae964ae97130b5e7", func := "droveway/drovewaylaw04.AmbushPaired", spec := "ambushPaired", unfollowed := true, recurses := true, plainKeys := false, apart := false, narrowed := true }
def AmbushPairedUptoSaid : Prop := ambushPairedUptoRow.holds Try.pinned (OpenSpec.upto ambushPairedSpec)

/-- 'drovewaylaw04.AmbushLines', WHERE WHAT IT READS IS OF BULK AT MOST 1048576: true; the input reads as it did. -/
def ambushLinesUptoRow : OpenClaim := { program := "ytbjpjjokamaliaa", sum := "7971102079c7fe273953212ab393829817d08bcb36f82563ae964ae97130b5e7", func := "droveway/drovewaylaw04.AmbushLines", spec := "ambushLines", unfollowed := true, recurses := true, plainKeys := false, apart := false, narrowed := true }
def AmbushLinesUptoSaid : Prop := ambushLinesUptoRow.holds Try.pinned (OpenSpec.upto ambushLinesSpec)

/-- 'drovewaylaw04.AmbushGuards', WHERE WHAT IT READS IS OF BULK AT MOST 1048576: true; the input reads as it did. -/
def ambushGuardsUptoRow : OpenClaim := { program := "ytbjpjjokamaliaa", sum := "7971102079c7fe273953212ab393829817d08bcb36f82563ae964ae97130b5e7", func := "droveway/drovewaylaw04.AmbushGuards", spec := "ambushGuards", unfollowed := true, recurses := true, plainKeys := false, apart := false, narrowed := true }
def AmbushGuardsUptoSaid : Prop := ambushGuardsUptoRow.holds Try.pinned (OpenSpec.upto ambushGuardsSpec)

end Rows
end Go.Proofs.Ytbjpjjokamaliaa
