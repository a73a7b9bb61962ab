/-
  No cell of these rows narrows 'for every input' (looked for: loops, veiled, ifaces, maps, wideKeys, modest, calm, conditions, laid).
  DERIVED. THE GIVEN ROWS OF THIS SEAT. 13 by the template 'for every input the law returns true; each argument reads behind the call as it read before'; 0 by the template 'total and deterministic' (their statements: YtaegldcifhgnmaaTotals.lean).
  GIVEN WITH THE SEED: the statements are not yours to turn. If you find one false, say at which input.
  Laid BY PROGRAM, IN A SANDBOX (cutbox-rows.mjs): the forced cells as the released guide's own fill.sh prints them over the translation 83150025deafe130… (all of the seat's roots in one cut). By AI agents, Wed Nov 11 2026. No macro, syntax, notation, axiom, sorry.
-/
import Derived.Test.YtaegldcifhgnmaaChecked
import GoSem.Claim
import GoSem.ClaimJoined
import GoSem.ClaimMapViews
import Derived.JoinedTies
import Derived.KernelRfl
namespace Go.Proofs.Ytaegldcifhgnmaa
/- THE CELL 'sum', in the pinned program and in every row, IS THE sha256 OF THE DUMP (.gsa) THAT YtaegldcifhgnmaaProg.lean LOADS. Nothing in Lean hashes anything: it is a label: what it is worth is what the hold of that sum in a sandbox is worth. -/
noncomputable def Try.pinned : Pinned := { name := "ytaegldcifhgnmaa", sum := "83150025deafe1305ccbfe3628ea63bca8c7728b3d4a403eacd0af59fa7c771d", checked := Try.checked }
namespace Rows
def none {H : Type} : Left H := { results := [], args := [] }

/-- 'drovewaylaw09.FeudsSides': WHATEVER THE INPUT: true; the input reads as it did. -/
def feudsSidesSpec : ChangeSpec := { name := "feudsSides", fn := fun _ => fun
  | [d1, d2] => { results := [.lit (.bool true)], args := [d1, d2] }
  | _ => none }
def feudsSidesRow : OpenClaim := { program := "ytaegldcifhgnmaa", sum := "83150025deafe1305ccbfe3628ea63bca8c7728b3d4a403eacd0af59fa7c771d", func := "droveway/drovewaylaw09.FeudsSides", spec := "feudsSides", unfollowed := true, recurses := true, plainKeys := false, apart := false }
def FeudsSidesSaid : Prop := feudsSidesRow.holds Try.pinned (OpenSpec.ofChange feudsSidesSpec)

/-- ITS FALSE NEIGHBOUR: 'it returns false'. Refute it at one input. -/
def feudsSidesWrong : ChangeSpec := { name := "feudsSides", fn := fun _ => fun
  | [d1, d2] => { results := [.lit (.bool false)], args := [d1, d2] }
  | _ => none }
def FeudsSidesWrongFalsely : Prop := feudsSidesRow.holds Try.pinned (OpenSpec.ofChange feudsSidesWrong)

/-- 'drovewaylaw09.FeudsFewer': WHATEVER THE INPUT: true; the input reads as it did. -/
def feudsFewerSpec : ChangeSpec := { name := "feudsFewer", fn := fun _ => fun
  | [d1, d2, d3] => { results := [.lit (.bool true)], args := [d1, d2, d3] }
  | _ => none }
def feudsFewerRow : OpenClaim := { program := "ytaegldcifhgnmaa", sum := "83150025deafe1305ccbfe3628ea63bca8c7728b3d4a403eacd0af59fa7c771d", func := "droveway/drovewaylaw09.FeudsFewer", spec := "feudsFewer", unfollowed := true, recurses := true, plainKeys := false, apart := false }
def FeudsFewerSaid : Prop := feudsFewerRow.holds Try.pinned (OpenSpec.ofChange feudsFewerSpec)

/-- ITS FALSE NEIGHBOUR: 'it returns false'. Refute it at one input. -/
def feudsFewerWrong : ChangeSpec := { name := "feudsFewer", fn := fun _ => fun
  | [d1, d2, d3] => { results := [.lit (.bool false)], args := [d1, d2, d3] }
  | _ => none }
def FeudsFewerWrongFalsely : Prop := feudsFewerRow.holds Try.pinned (OpenSpec.ofChange feudsFewerWrong)

/-- 'drovewaylaw09.FeudsGroups': WHATEVER THE INPUT: true; the input reads as it did. -/
def feudsGroupsSpec : ChangeSpec := { name := "feudsGroups", fn := fun _ => fun
  | [d1, d2] => { results := [.lit (.bool true)], args := [d1, d2] }
  | _ => none }
def feudsGroupsRow : OpenClaim := { program := "ytaegldcifhgnmaa", sum := "83150025deafe1305ccbfe3628ea63bca8c7728b3d4a403eacd0af59fa7c771d", func := "droveway/drovewaylaw09.FeudsGroups", spec := "feudsGroups", unfollowed := true, recurses := true, plainKeys := false, apart := false }
def FeudsGroupsSaid : Prop := feudsGroupsRow.holds Try.pinned (OpenSpec.ofChange feudsGroupsSpec)

/-- ITS FALSE NEIGHBOUR: 'it returns false'. Refute it at one input. -/
def feudsGroupsWrong : ChangeSpec := { name := "feudsGroups", fn := fun _ => fun
  | [d1, d2] => { results := [.lit (.bool false)], args := [d1, d2] }
  | _ => none }
def FeudsGroupsWrongFalsely : Prop := feudsGroupsRow.holds Try.pinned (OpenSpec.ofChange feudsGroupsWrong)

/-- 'drovewaylaw09.FeudsClans': WHATEVER THE INPUT: true; the input reads as it did. -/
def feudsClansSpec : ChangeSpec := { name := "feudsClans", fn := fun _ => fun
  | [d1, d2] => { results := [.lit (.bool true)], args := [d1, d2] }
  | _ => none }
def feudsClansRow : OpenClaim := { program := "ytaegldcifhgnmaa", sum := "83150025deafe1305ccbfe3628ea63bca8c7728b3d4a403eacd0af59fa7c771d", func := "droveway/drovewaylaw09.FeudsClans", spec := "feudsClans", unfollowed := true, recurses := true, plainKeys := false, apart := false }
def FeudsClansSaid : Prop := feudsClansRow.holds Try.pinned (OpenSpec.ofChange feudsClansSpec)

/-- ITS FALSE NEIGHBOUR: 'it returns false'. Refute it at one input. -/
def feudsClansWrong : ChangeSpec := { name := "feudsClans", fn := fun _ => fun
  | [d1, d2] => { results := [.lit (.bool false)], args := [d1, d2] }
  | _ => none }
def FeudsClansWrongFalsely : Prop := feudsClansRow.holds Try.pinned (OpenSpec.ofChange feudsClansWrong)

/-- 'drovewaylaw09.FeudsSame': WHATEVER THE INPUT: true; the input reads as it did. -/
def feudsSameSpec : ChangeSpec := { name := "feudsSame", fn := fun _ => fun
  | [d1, d2, d3] => { results := [.lit (.bool true)], args := [d1, d2, d3] }
  | _ => none }
def feudsSameRow : OpenClaim := { program := "ytaegldcifhgnmaa", sum := "83150025deafe1305ccbfe3628ea63bca8c7728b3d4a403eacd0af59fa7c771d", func := "droveway/drovewaylaw09.FeudsSame", spec := "feudsSame", unfollowed := true, recurses := true, plainKeys := false, apart := false }
def FeudsSameSaid : Prop := feudsSameRow.holds Try.pinned (OpenSpec.ofChange feudsSameSpec)

/-- ITS FALSE NEIGHBOUR: 'it returns false'. Refute it at one input. -/
def feudsSameWrong : ChangeSpec := { name := "feudsSame", fn := fun _ => fun
  | [d1, d2, d3] => { results := [.lit (.bool false)], args := [d1, d2, d3] }
  | _ => none }
def FeudsSameWrongFalsely : Prop := feudsSameRow.holds Try.pinned (OpenSpec.ofChange feudsSameWrong)

/-- 'drovewaylaw09.FeudsSwitches': WHATEVER THE INPUT: true; the input reads as it did. -/
def feudsSwitchesSpec : ChangeSpec := { name := "feudsSwitches", fn := fun _ => fun
  | [d1, d2, d3] => { results := [.lit (.bool true)], args := [d1, d2, d3] }
  | _ => none }
def feudsSwitchesRow : OpenClaim := { program := "ytaegldcifhgnmaa", sum := "83150025deafe1305ccbfe3628ea63bca8c7728b3d4a403eacd0af59fa7c771d", func := "droveway/drovewaylaw09.FeudsSwitches", spec := "feudsSwitches", unfollowed := true, recurses := true, plainKeys := false, apart := false }
def FeudsSwitchesSaid : Prop := feudsSwitchesRow.holds Try.pinned (OpenSpec.ofChange feudsSwitchesSpec)

/-- ITS FALSE NEIGHBOUR: 'it returns false'. Refute it at one input. -/
def feudsSwitchesWrong : ChangeSpec := { name := "feudsSwitches", fn := fun _ => fun
  | [d1, d2, d3] => { results := [.lit (.bool false)], args := [d1, d2, d3] }
  | _ => none }
def FeudsSwitchesWrongFalsely : Prop := feudsSwitchesRow.holds Try.pinned (OpenSpec.ofChange feudsSwitchesWrong)

/-- 'drovewaylaw09.FeudsRings': WHATEVER THE INPUT: true; the input reads as it did. -/
def feudsRingsSpec : ChangeSpec := { name := "feudsRings", fn := fun _ => fun
  | [d1, d2, d3] => { results := [.lit (.bool true)], args := [d1, d2, d3] }
  | _ => none }
def feudsRingsRow : OpenClaim := { program := "ytaegldcifhgnmaa", sum := "83150025deafe1305ccbfe3628ea63bca8c7728b3d4a403eacd0af59fa7c771d", func := "droveway/drovewaylaw09.FeudsRings", spec := "feudsRings", unfollowed := true, recurses := true, plainKeys := false, apart := false }
def FeudsRingsSaid : Prop := feudsRingsRow.holds Try.pinned (OpenSpec.ofChange feudsRingsSpec)

/-- ITS FALSE NEIGHBOUR: 'it returns false'. Refute it at one input. -/
def feudsRingsWrong : ChangeSpec := { name := "feudsRings", fn := fun _ => fun
  | [d1, d2, d3] => { results := [.lit (.bool false)], args := [d1, d2, d3] }
  | _ => none }
def FeudsRingsWrongFalsely : Prop := feudsRingsRow.holds Try.pinned (OpenSpec.ofChange feudsRingsWrong)

/-- 'drovewaylaw09.FeudsDavis': WHATEVER THE INPUT: true; the input reads as it did. -/
def feudsDavisSpec : ChangeSpec := { name := "feudsDavis", fn := fun _ => fun
  | [d1, d2, d3] => { results := [.lit (.bool true)], args := [d1, d2, d3] }
  | _ => none }
def feudsDavisRow : OpenClaim := { program := "ytaegldcifhgnmaa", sum := "83150025deafe1305ccbfe3628ea63bca8c7728b3d4a403eacd0af59fa7c771d", func := "droveway/drovewaylaw09.FeudsDavis", spec := "feudsDavis", unfollowed := true, recurses := true, plainKeys := false, apart := false }
def FeudsDavisSaid : Prop := feudsDavisRow.holds Try.pinned (OpenSpec.ofChange feudsDavisSpec)

/-- ITS FALSE NEIGHBOUR: 'it returns false'. Refute it at one input. -/
def feudsDavisWrong : ChangeSpec := { name := "feudsDavis", fn := fun _ => fun
  | [d1, d2, d3] => { results := [.lit (.bool false)], args := [d1, d2, d3] }
  | _ => none }
def FeudsDavisWrongFalsely : Prop := feudsDavisRow.holds Try.pinned (OpenSpec.ofChange feudsDavisWrong)

/-- 'drovewaylaw09.FeudsClasses': WHATEVER THE INPUT: true; the input reads as it did. -/
def feudsClassesSpec : ChangeSpec := { name := "feudsClasses", fn := fun _ => fun
  | [d1, d2] => { results := [.lit (.bool true)], args := [d1, d2] }
  | _ => none }
def feudsClassesRow : OpenClaim := { program := "ytaegldcifhgnmaa", sum := "83150025deafe1305ccbfe3628ea63bca8c7728b3d4a403eacd0af59fa7c771d", func := "droveway/drovewaylaw09.FeudsClasses", spec := "feudsClasses", unfollowed := true, recurses := true, plainKeys := false, apart := false }
def FeudsClassesSaid : Prop := feudsClassesRow.holds Try.pinned (OpenSpec.ofChange feudsClassesSpec)

/-- ITS FALSE NEIGHBOUR: 'it returns false'. Refute it at one input. -/
def feudsClassesWrong : ChangeSpec := { name := "feudsClasses", fn := fun _ => fun
  | [d1, d2] => { results := [.lit (.bool false)], args := [d1, d2] }
  | _ => none }
def FeudsClassesWrongFalsely : Prop := feudsClassesRow.holds Try.pinned (OpenSpec.ofChange feudsClassesWrong)

/-- 'drovewaylaw09.FeudsHarary': WHATEVER THE INPUT: true; the input reads as it did. -/
def feudsHararySpec : ChangeSpec := { name := "feudsHarary", fn := fun _ => fun
  | [d1, d2, d3] => { results := [.lit (.bool true)], args := [d1, d2, d3] }
  | _ => none }
def feudsHararyRow : OpenClaim := { program := "ytaegldcifhgnmaa", sum := "83150025deafe1305ccbfe3628ea63bca8c7728b3d4a403eacd0af59fa7c771d", func := "droveway/drovewaylaw09.FeudsHarary", spec := "feudsHarary", unfollowed := true, recurses := true, plainKeys := false, apart := false }
def FeudsHararySaid : Prop := feudsHararyRow.holds Try.pinned (OpenSpec.ofChange feudsHararySpec)

/-- ITS FALSE NEIGHBOUR: 'it returns false'. Refute it at one input. -/
def feudsHararyWrong : ChangeSpec := { name := "feudsHarary", fn := fun _ => fun
  | [d1, d2, d3] => { results := [.lit (.bool false)], args := [d1, d2, d3] }
  | _ => none }
def FeudsHararyWrongFalsely : Prop := feudsHararyRow.holds Try.pinned (OpenSpec.ofChange feudsHararyWrong)

/-- 'drovewaylaw09.FeudsSwitching': WHATEVER THE INPUT: true; the input reads as it did. -/
def feudsSwitchingSpec : ChangeSpec := { name := "feudsSwitching", fn := fun _ => fun
  | [d1, d2, d3, d4] => { results := [.lit (.bool true)], args := [d1, d2, d3, d4] }
  | _ => none }
def feudsSwitchingRow : OpenClaim := { program := "ytaegldcifhgnmaa", sum := "83150025deafe1305ccbfe3628ea63bca8c7728b3d4a403eacd0af59fa7c771d", func := "droveway/drovewaylaw09.FeudsSwitching", spec := "feudsSwitching", unfollowed := true, recurses := true, plainKeys := false, apart := false }
def FeudsSwitchingSaid : Prop := feudsSwitchingRow.holds Try.pinned (OpenSpec.ofChange feudsSwitchingSpec)

/-- ITS FALSE NEIGHBOUR: 'it returns false'. Refute it at one input. -/
def feudsSwitchingWrong : ChangeSpec := { name := "feudsSwitching", fn := fun _ => fun
  | [d1, d2, d3, d4] => { results := [.lit (.bool false)], args := [d1, d2, d3, d4] }
  | _ => none }
def FeudsSwitchingWrongFalsely : Prop := feudsSwitchingRow.holds Try.pinned (OpenSpec.ofChange feudsSwitchingWrong)

/-- 'drovewaylaw09.FeudsApart': WHATEVER THE INPUT: true; the input reads as it did. -/
def feudsApartSpec : ChangeSpec := { name := "feudsApart", fn := fun _ => fun
  | [d1, d2] => { results := [.lit (.bool true)], args := [d1, d2] }
  | _ => none }
def feudsApartRow : OpenClaim := { program := "ytaegldcifhgnmaa", sum := "83150025deafe1305ccbfe3628ea63bca8c7728b3d4a403eacd0af59fa7c771d", func := "droveway/drovewaylaw09.FeudsApart", spec := "feudsApart", unfollowed := true, recurses := true, plainKeys := false, apart := false }
def FeudsApartSaid : Prop := feudsApartRow.holds Try.pinned (OpenSpec.ofChange feudsApartSpec)

/-- ITS FALSE NEIGHBOUR: 'it returns false'. Refute it at one input. -/
def feudsApartWrong : ChangeSpec := { name := "feudsApart", fn := fun _ => fun
  | [d1, d2] => { results := [.lit (.bool false)], args := [d1, d2] }
  | _ => none }
def FeudsApartWrongFalsely : Prop := feudsApartRow.holds Try.pinned (OpenSpec.ofChange feudsApartWrong)

/-- 'drovewaylaw09.FeudsFewest': WHATEVER THE INPUT: true; the input reads as it did. -/
def feudsFewestSpec : ChangeSpec := { name := "feudsFewest", fn := fun _ => fun
  | [d1, d2, d3] => { results := [.lit (.bool true)], args := [d1, d2, d3] }
  | _ => none }
def feudsFewestRow : OpenClaim := { program := "ytaegldcifhgnmaa", sum := "83150025deafe1305ccbfe3628ea63bca8c7728b3d4a403eacd0af59fa7c771d", func := "droveway/drovewaylaw09.FeudsFewest", spec := "feudsFewest", unfollowed := true, recurses := true, plainKeys := false, apart := false }
def FeudsFewestSaid : Prop := feudsFewestRow.holds Try.pinned (OpenSpec.ofChange feudsFewestSpec)

/-- ITS FALSE NEIGHBOUR: 'it returns false'. Refute it at one input. -/
def feudsFewestWrong : ChangeSpec := { name := "feudsFewest", fn := fun _ => fun
  | [d1, d2, d3] => { results := [.lit (.bool false)], args := [d1, d2, d3] }
  | _ => none }
def FeudsFewestWrongFalsely : Prop := feudsFewestRow.holds Try.pinned (OpenSpec.ofChange feudsFewestWrong)

/- THE SECOND FORM. 'bulk': how many values and letters a reading holds, each counted each time it is reached (what is shared counts as often as it is met; a slice's spare places count too). A statement '..UptoSaid' is the law's where the arguments, and the package variables that the reading takes, are together of bulk at most 1048576: NARROWER than '..Said'. Prove '..Said' where nothing that the law and all that it calls make is longer than what came in: it says more and counts as full. Else prove '..UptoSaid'. A law counts once. -/
mutual
def uptoBulk {H : Type} : DataW H → Nat
  | .lit (.string bytes) => bytes.length + 1
  | .lit _ => 1
  | .nil => 1
  | .ptr d => uptoBulk d + 1
  | .slice elems spare => uptoBulkAll elems + uptoBulkAll spare + 1
  | .agg parts => uptoBulkAll parts + 1
  | .iface _ d => uptoBulk d + 1
  | .map entries => uptoBulkEntries entries + 1
  | .held _ => 1
def uptoBulkAll {H : Type} : List (DataW H) → Nat
  | [] => 0
  | d :: r => uptoBulk d + uptoBulkAll r
def uptoBulkEntries {H : Type} : List (Lit × DataW H) → Nat
  | [] => 0
  | x :: r => uptoBulkEntry x + uptoBulkEntries r
def uptoBulkEntry {H : Type} : Lit × DataW H → Nat
  | (.string bytes, d) => bytes.length + uptoBulk d + 1
  | (_, d) => uptoBulk d + 1
 end
def uptoSmall : (H : Type) → List (DataW H) → Bool := fun _ ds => decide (uptoBulkAll ds ≤ 1048576)
def OpenSpec.upto (s : _root_.Go.ChangeSpec) : _root_.Go.OpenSpec := { _root_.Go.OpenSpec.ofChange s with cond := some uptoSmall }

/-- 'drovewaylaw09.FeudsSides', WHERE WHAT IT READS IS OF BULK AT MOST 1048576: true; the input reads as it did. -/
def feudsSidesUptoRow : OpenClaim := { program := "ytaegldcifhgnmaa", sum := "83150025deafe1305ccbfe3628ea63bca8c7728b3d4a403eacd0af59fa7c771d", func := "droveway/drovewaylaw09.FeudsSides", spec := "feudsSides", unfollowed := true, recurses := true, plainKeys := false, apart := false, narrowed := true }
def FeudsSidesUptoSaid : Prop := feudsSidesUptoRow.holds Try.pinned (OpenSpec.upto feudsSidesSpec)

/-- 'drovewaylaw09.FeudsFewer', WHERE WHAT IT READS IS OF BULK AT MOST 1048576: true; the input reads as it did. -/
def feudsFewerUptoRow : OpenClaim := { program := "ytaegldcifhgnmaa", sum := "83150025deafe1305ccbfe3628ea63bca8c7728b3d4a403eacd0af59fa7c771d", func := "droveway/drovewaylaw09.FeudsFewer", spec := "feudsFewer", unfollowed := true, recurses := true, plainKeys := false, apart := false, narrowed := true }
def FeudsFewerUptoSaid : Prop := feudsFewerUptoRow.holds Try.pinned (OpenSpec.upto feudsFewerSpec)

/-- 'drovewaylaw09.FeudsGroups', WHERE WHAT IT READS IS OF BULK AT MOST 1048576: true; the input reads as it did. -/
def feudsGroupsUptoRow : OpenClaim := { program := "ytaegldcifhgnmaa", sum := "83150025deafe1305ccbfe3628ea63bca8c7728b3d4a403eacd0af59fa7c771d", func := "droveway/drovewaylaw09.FeudsGroups", spec := "feudsGroups", unfollowed := true, recurses := true, plainKeys := false, apart := false, narrowed := true }
def FeudsGroupsUptoSaid : Prop := feudsGroupsUptoRow.holds Try.pinned (OpenSpec.upto feudsGroupsSpec)

/-- 'drovewaylaw09.FeudsClans', WHERE WHAT IT READS IS OF BULK AT MOST 1048576: true; the input reads as it did. -/
def feudsClansUptoRow : OpenClaim := { program := "ytaegldcifhgnmaa", sum := "83150025deafe1305ccbfe3628ea63bca8c7728b3d4a403eacd0af59fa7c771d", func := "droveway/drovewaylaw09.FeudsClans", spec := "feudsClans", unfollowed := true, recurses := true, plainKeys := false, apart := false, narrowed := true }
def FeudsClansUptoSaid : Prop := feudsClansUptoRow.holds Try.pinned (OpenSpec.upto feudsClansSpec)

/-- 'drovewaylaw09.FeudsSame', WHERE WHAT IT READS IS OF BULK AT MOST 1048576: true; the input reads as it did. -/
def feudsSameUptoRow : OpenClaim := { program := "ytaegldcifhgnmaa", sum := "83150025deafe1305ccbfe3628ea63bca8c7728b3d4a403eacd0af59fa7c771d", func := "droveway/drovewaylaw09.FeudsSame", spec := "feudsSame", unfollowed := true, recurses := true, plainKeys := false, apart := false, narrowed := true }
def FeudsSameUptoSaid : Prop := feudsSameUptoRow.holds Try.pinned (OpenSpec.upto feudsSameSpec)

/-- 'drovewaylaw09.FeudsSwitches', WHERE WHAT IT READS IS OF BULK AT MOST 1048576: true; the input reads as it did. -/
def feudsSwitchesUptoRow : OpenClaim := { program := "ytaegldcifhgnmaa", sum := "83150025deafe1305ccbfe3628ea63bca8c7728b3d4a403eacd0af59fa7c771d", func := "droveway/drovewaylaw09.FeudsSwitches", spec := "feudsSwitches", unfollowed := true, recurses := true, plainKeys := false, apart := false, narrowed := true }
def FeudsSwitchesUptoSaid : Prop := feudsSwitchesUptoRow.holds Try.pinned (OpenSpec.upto feudsSwitchesSpec)

/-- 'drovewaylaw09.FeudsRings', WHERE WHAT IT READS IS OF BULK AT MOST 1048576: true; the input reads as it did. -/
def feudsRingsUptoRow : OpenClaim := { program := "ytaegldcifhgnmaa", sum := "83150025deafe1305ccbfe3628ea63bca8c7728b3d4a403eacd0af59fa7c771d", func := "droveway/drovewaylaw09.FeudsRings", spec := "feudsRings", unfollowed := true, recurses := true, plainKeys := false, apart := false, narrowed := true }
def FeudsRingsUptoSaid : Prop := feudsRingsUptoRow.holds Try.pinned (OpenSpec.upto feudsRingsSpec)

/-- 'drovewaylaw09.FeudsDavis', WHERE WHAT IT READS IS OF BULK AT MOST 1048576: true; the input reads as it did. -/
def feudsDavisUptoRow : OpenClaim := { program := "ytaegldcifhgnmaa", sum := "83150025deafe1305ccbfe3628ea63bca8c7728b3d4a403eacd0af59fa7c771d", func := "droveway/drovewaylaw09.FeudsDavis", spec := "feudsDavis", unfollowed := true, recurses := true, plainKeys := false, apart := false, narrowed := true }
def FeudsDavisUptoSaid : Prop := feudsDavisUptoRow.holds Try.pinned (OpenSpec.upto feudsDavisSpec)

/-- 'drovewaylaw09.FeudsClasses', WHERE WHAT IT READS IS OF BULK AT MOST 1048576: true; the input reads as it did. -/
def feudsClassesUptoRow : OpenClaim := { program := "ytaegldcifhgnmaa", sum := "83150025deafe1305ccbfe3628ea63bca8c7728b3d4a403eacd0af59fa7c771d", func := "droveway/drovewaylaw09.FeudsClasses", spec := "feudsClasses", unfollowed := true, recurses := true, plainKeys := false, apart := false, narrowed := true }
def FeudsClassesUptoSaid : Prop := feudsClassesUptoRow.holds Try.pinned (OpenSpec.upto feudsClassesSpec)

/-- 'drovewaylaw09.FeudsHarary', WHERE WHAT IT READS IS OF BULK AT MOST 1048576: true; the input reads as it did. -/
def feudsHararyUptoRow : OpenClaim := { program := "ytaegldcifhgnmaa", sum := "83150025deafe1305ccbfe3628ea63bca8c7728b3d4a403eacd0af59fa7c771d", func := "droveway/drovewaylaw09.FeudsHarary", spec := "feudsHarary", unfollowed := true, recurses := true, plainKeys := false, apart := false, narrowed := true }
def FeudsHararyUptoSaid : Prop := feudsHararyUptoRow.holds Try.pinned (OpenSpec.upto feudsHararySpec)

/-- 'drovewaylaw09.FeudsSwitching', WHERE WHAT IT READS IS OF BULK AT MOST 1048576: true; the input reads as it did. -/
def feudsSwitchingUptoRow : OpenClaim := { program := "ytaegldcifhgnmaa", sum := "83150025deafe1305ccbfe3628ea63bca8c7728b3d4a403eacd0af59fa7c771d", func := "droveway/drovewaylaw09.FeudsSwitching", spec := "feudsSwitching", unfollowed := true, recurses := true, plainKeys := false, apart := false, narrowed := true }
def FeudsSwitchingUptoSaid : Prop := feudsSwitchingUptoRow.holds Try.pinned (OpenSpec.upto feudsSwitchingSpec)

/-- 'drovewaylaw09.FeudsApart', WHERE WHAT IT READS IS OF BULK AT MOST 1048576: true; the input reads as it did. -/
def feudsApartUptoRow : OpenClaim := { program := "ytaegldcifhgnmaa", sum := "83150025deafe1305ccbfe3628ea63bca8c7728b3d4a403eacd0af59fa7c771d", func := "droveway/drovewaylaw09.FeudsApart", spec := "feudsApart", unfollowed := true, recurses := true, plainKeys := false, apart := false, narrowed := true }
def FeudsApartUptoSaid : Prop := feudsApartUptoRow.holds Try.pinned (OpenSpec.upto feudsApartSpec)

/-- 'drovewaylaw09.FeudsFewest', WHERE WHAT IT READS IS OF BULK AT MOST 1048576: true; the input reads as it did. -/
def feudsFewestUptoRow : OpenClaim := { program := "ytaegldcifhgnmaa", sum := "83150025deafe1305ccbfe3628ea63bca8c7728b3d4a403eacd0af59fa7c771d", func := "droveway/drovewaylaw09.FeudsFewest", spec := "feudsFewest", unfollowed := true, recurses := true, plainKeys := false, apart := false, narrowed := true }
def FeudsFewestUptoSaid : Prop := feudsFewestUptoRow.holds Try.pinned (OpenSpec.upto feudsFewestSpec)

end Rows
end Go.Proofs.Ytaegldcifhgnmaa
