/- How many beasts a set has: math/bits.OnesCount, as the kit's print writes it. -/
import Derived.Test.YtdbbcngmnpejnaaDoorZKe2
import Derived.Test.YtdbbcngmnpejnaaDoorProg
import Derived.Below
import Derived.Deep.Draws
import Derived.Deep.AppendLies
import Derived.Maps.AppendAt
import Derived.OwnWalk
import Derived.Laws.BytesArg
import Derived.Laws.MakeOwn
import Derived.Laws.OwnMore
import Derived.Deep.OwnRows
import Derived.Tactics
import Derived.Lib.ConvBytes
import Derived.Laws.Slices
import Derived.WalkKit
import Derived.KernelRfl
import Derived.RowKit3
import Derived.Deep.LoopGhost
import Derived.Deep.QuietTactic
import Derived.BigQuiet
import Derived.WideLaws
import Derived.Deep.DeepCutAuto
import Derived.Deep.CutBlock
import Derived.Deep.RegionHeld3
import Derived.Laws.Rows
import Derived.Lib.AppendStr
import Derived.ArgAppend
import Derived.Laws.IdiomCopy
import Derived.OrdersHeld
import Derived.Laws.BitsLemmas
import Derived.RowKit
import Derived.Test.YtdbbcngmnpejnaaDoorWWords
import Derived.Test.YtdbbcngmnpejnaaDoorWLast
import Derived.Test.YtdbbcngmnpejnaaDoorWTab
import Derived.Test.YtdbbcngmnpejnaaDoorWRepsOne
import Derived.Test.YtdbbcngmnpejnaaDoorWGuard
import Derived.Lib.SliceRun
/- How many beasts a set has: math/bits.OnesCount, as the kit's print writes it. -/
namespace Go.Proofs.YtdbbcngmnpejnaaDoor.B
open Go.Proofs.YtdbbcngmnpejnaaDoor.A
open Go.RowKit Go.Proofs.YtdbbcngmnpejnaaDoorW.PrintWords Go.Proofs.YtdbbcngmnpejnaaDoorW.PrintLast Go.Proofs.YtdbbcngmnpejnaaDoorW.PrintMore
section
attribute [local go_sem] max2_int min2_int max_two min_two max_three min_three max_four min_four   -- for this text's walks alone
set_option linter.unusedVariables false
set_option linter.unusedSimpArgs false
/-! ### bits_OnesCount64: function 73 -/
def bits_OnesCount64.f (a0 : Int) : Option (Int) := some (Go.bits .and .i64 (wrap64 (IntKind.u64.wrap ((IntKind.u64.wrap ((IntKind.u64.wrap ((Go.bits .and .u64 (IntKind.u64.wrap (((IntKind.u64.wrap ((Go.bits .and .u64 ((IntKind.u64.wrap ((Go.bits .and .u64 (a0 / 2) 6148914691236517205) + (Go.bits .and .u64 a0 6148914691236517205))) / 4) 3689348814741910323) + (Go.bits .and .u64 (IntKind.u64.wrap ((Go.bits .and .u64 (a0 / 2) 6148914691236517205) + (Go.bits .and .u64 a0 6148914691236517205))) 3689348814741910323))) / 16) + (IntKind.u64.wrap ((Go.bits .and .u64 ((IntKind.u64.wrap ((Go.bits .and .u64 (a0 / 2) 6148914691236517205) + (Go.bits .and .u64 a0 6148914691236517205))) / 4) 3689348814741910323) + (Go.bits .and .u64 (IntKind.u64.wrap ((Go.bits .and .u64 (a0 / 2) 6148914691236517205) + (Go.bits .and .u64 a0 6148914691236517205))) 3689348814741910323))))) 1085102592571150095) + ((Go.bits .and .u64 (IntKind.u64.wrap (((IntKind.u64.wrap ((Go.bits .and .u64 ((IntKind.u64.wrap ((Go.bits .and .u64 (a0 / 2) 6148914691236517205) + (Go.bits .and .u64 a0 6148914691236517205))) / 4) 3689348814741910323) + (Go.bits .and .u64 (IntKind.u64.wrap ((Go.bits .and .u64 (a0 / 2) 6148914691236517205) + (Go.bits .and .u64 a0 6148914691236517205))) 3689348814741910323))) / 16) + (IntKind.u64.wrap ((Go.bits .and .u64 ((IntKind.u64.wrap ((Go.bits .and .u64 (a0 / 2) 6148914691236517205) + (Go.bits .and .u64 a0 6148914691236517205))) / 4) 3689348814741910323) + (Go.bits .and .u64 (IntKind.u64.wrap ((Go.bits .and .u64 (a0 / 2) 6148914691236517205) + (Go.bits .and .u64 a0 6148914691236517205))) 3689348814741910323))))) 1085102592571150095) / 256))) + ((IntKind.u64.wrap ((Go.bits .and .u64 (IntKind.u64.wrap (((IntKind.u64.wrap ((Go.bits .and .u64 ((IntKind.u64.wrap ((Go.bits .and .u64 (a0 / 2) 6148914691236517205) + (Go.bits .and .u64 a0 6148914691236517205))) / 4) 3689348814741910323) + (Go.bits .and .u64 (IntKind.u64.wrap ((Go.bits .and .u64 (a0 / 2) 6148914691236517205) + (Go.bits .and .u64 a0 6148914691236517205))) 3689348814741910323))) / 16) + (IntKind.u64.wrap ((Go.bits .and .u64 ((IntKind.u64.wrap ((Go.bits .and .u64 (a0 / 2) 6148914691236517205) + (Go.bits .and .u64 a0 6148914691236517205))) / 4) 3689348814741910323) + (Go.bits .and .u64 (IntKind.u64.wrap ((Go.bits .and .u64 (a0 / 2) 6148914691236517205) + (Go.bits .and .u64 a0 6148914691236517205))) 3689348814741910323))))) 1085102592571150095) + ((Go.bits .and .u64 (IntKind.u64.wrap (((IntKind.u64.wrap ((Go.bits .and .u64 ((IntKind.u64.wrap ((Go.bits .and .u64 (a0 / 2) 6148914691236517205) + (Go.bits .and .u64 a0 6148914691236517205))) / 4) 3689348814741910323) + (Go.bits .and .u64 (IntKind.u64.wrap ((Go.bits .and .u64 (a0 / 2) 6148914691236517205) + (Go.bits .and .u64 a0 6148914691236517205))) 3689348814741910323))) / 16) + (IntKind.u64.wrap ((Go.bits .and .u64 ((IntKind.u64.wrap ((Go.bits .and .u64 (a0 / 2) 6148914691236517205) + (Go.bits .and .u64 a0 6148914691236517205))) / 4) 3689348814741910323) + (Go.bits .and .u64 (IntKind.u64.wrap ((Go.bits .and .u64 (a0 / 2) 6148914691236517205) + (Go.bits .and .u64 a0 6148914691236517205))) 3689348814741910323))))) 1085102592571150095) / 256))) / 65536))) + ((IntKind.u64.wrap ((IntKind.u64.wrap ((Go.bits .and .u64 (IntKind.u64.wrap (((IntKind.u64.wrap ((Go.bits .and .u64 ((IntKind.u64.wrap ((Go.bits .and .u64 (a0 / 2) 6148914691236517205) + (Go.bits .and .u64 a0 6148914691236517205))) / 4) 3689348814741910323) + (Go.bits .and .u64 (IntKind.u64.wrap ((Go.bits .and .u64 (a0 / 2) 6148914691236517205) + (Go.bits .and .u64 a0 6148914691236517205))) 3689348814741910323))) / 16) + (IntKind.u64.wrap ((Go.bits .and .u64 ((IntKind.u64.wrap ((Go.bits .and .u64 (a0 / 2) 6148914691236517205) + (Go.bits .and .u64 a0 6148914691236517205))) / 4) 3689348814741910323) + (Go.bits .and .u64 (IntKind.u64.wrap ((Go.bits .and .u64 (a0 / 2) 6148914691236517205) + (Go.bits .and .u64 a0 6148914691236517205))) 3689348814741910323))))) 1085102592571150095) + ((Go.bits .and .u64 (IntKind.u64.wrap (((IntKind.u64.wrap ((Go.bits .and .u64 ((IntKind.u64.wrap ((Go.bits .and .u64 (a0 / 2) 6148914691236517205) + (Go.bits .and .u64 a0 6148914691236517205))) / 4) 3689348814741910323) + (Go.bits .and .u64 (IntKind.u64.wrap ((Go.bits .and .u64 (a0 / 2) 6148914691236517205) + (Go.bits .and .u64 a0 6148914691236517205))) 3689348814741910323))) / 16) + (IntKind.u64.wrap ((Go.bits .and .u64 ((IntKind.u64.wrap ((Go.bits .and .u64 (a0 / 2) 6148914691236517205) + (Go.bits .and .u64 a0 6148914691236517205))) / 4) 3689348814741910323) + (Go.bits .and .u64 (IntKind.u64.wrap ((Go.bits .and .u64 (a0 / 2) 6148914691236517205) + (Go.bits .and .u64 a0 6148914691236517205))) 3689348814741910323))))) 1085102592571150095) / 256))) + ((IntKind.u64.wrap ((Go.bits .and .u64 (IntKind.u64.wrap (((IntKind.u64.wrap ((Go.bits .and .u64 ((IntKind.u64.wrap ((Go.bits .and .u64 (a0 / 2) 6148914691236517205) + (Go.bits .and .u64 a0 6148914691236517205))) / 4) 3689348814741910323) + (Go.bits .and .u64 (IntKind.u64.wrap ((Go.bits .and .u64 (a0 / 2) 6148914691236517205) + (Go.bits .and .u64 a0 6148914691236517205))) 3689348814741910323))) / 16) + (IntKind.u64.wrap ((Go.bits .and .u64 ((IntKind.u64.wrap ((Go.bits .and .u64 (a0 / 2) 6148914691236517205) + (Go.bits .and .u64 a0 6148914691236517205))) / 4) 3689348814741910323) + (Go.bits .and .u64 (IntKind.u64.wrap ((Go.bits .and .u64 (a0 / 2) 6148914691236517205) + (Go.bits .and .u64 a0 6148914691236517205))) 3689348814741910323))))) 1085102592571150095) + ((Go.bits .and .u64 (IntKind.u64.wrap (((IntKind.u64.wrap ((Go.bits .and .u64 ((IntKind.u64.wrap ((Go.bits .and .u64 (a0 / 2) 6148914691236517205) + (Go.bits .and .u64 a0 6148914691236517205))) / 4) 3689348814741910323) + (Go.bits .and .u64 (IntKind.u64.wrap ((Go.bits .and .u64 (a0 / 2) 6148914691236517205) + (Go.bits .and .u64 a0 6148914691236517205))) 3689348814741910323))) / 16) + (IntKind.u64.wrap ((Go.bits .and .u64 ((IntKind.u64.wrap ((Go.bits .and .u64 (a0 / 2) 6148914691236517205) + (Go.bits .and .u64 a0 6148914691236517205))) / 4) 3689348814741910323) + (Go.bits .and .u64 (IntKind.u64.wrap ((Go.bits .and .u64 (a0 / 2) 6148914691236517205) + (Go.bits .and .u64 a0 6148914691236517205))) 3689348814741910323))))) 1085102592571150095) / 256))) / 65536))) / 4294967296)))) 127)
set_option maxHeartbeats 8000000 in
set_option maxRecDepth 100000 in
theorem bits_OnesCount64.calls (a0 : Int) (r : Int) (w : World) (h : bits_OnesCount64.f a0 = some r) :
    Calls Tryd.prog 73 #[.int .u64 a0] w fun e w' => e = .returned (.int .i64 r) ∧ Drawn0 w w' := by
  have H : (some (Go.bits .and .i64 (wrap64 (IntKind.u64.wrap ((IntKind.u64.wrap ((IntKind.u64.wrap ((Go.bits .and .u64 (IntKind.u64.wrap (((IntKind.u64.wrap ((Go.bits .and .u64 ((IntKind.u64.wrap ((Go.bits .and .u64 (a0 / 2) 6148914691236517205) + (Go.bits .and .u64 a0 6148914691236517205))) / 4) 3689348814741910323) + (Go.bits .and .u64 (IntKind.u64.wrap ((Go.bits .and .u64 (a0 / 2) 6148914691236517205) + (Go.bits .and .u64 a0 6148914691236517205))) 3689348814741910323))) / 16) + (IntKind.u64.wrap ((Go.bits .and .u64 ((IntKind.u64.wrap ((Go.bits .and .u64 (a0 / 2) 6148914691236517205) + (Go.bits .and .u64 a0 6148914691236517205))) / 4) 3689348814741910323) + (Go.bits .and .u64 (IntKind.u64.wrap ((Go.bits .and .u64 (a0 / 2) 6148914691236517205) + (Go.bits .and .u64 a0 6148914691236517205))) 3689348814741910323))))) 1085102592571150095) + ((Go.bits .and .u64 (IntKind.u64.wrap (((IntKind.u64.wrap ((Go.bits .and .u64 ((IntKind.u64.wrap ((Go.bits .and .u64 (a0 / 2) 6148914691236517205) + (Go.bits .and .u64 a0 6148914691236517205))) / 4) 3689348814741910323) + (Go.bits .and .u64 (IntKind.u64.wrap ((Go.bits .and .u64 (a0 / 2) 6148914691236517205) + (Go.bits .and .u64 a0 6148914691236517205))) 3689348814741910323))) / 16) + (IntKind.u64.wrap ((Go.bits .and .u64 ((IntKind.u64.wrap ((Go.bits .and .u64 (a0 / 2) 6148914691236517205) + (Go.bits .and .u64 a0 6148914691236517205))) / 4) 3689348814741910323) + (Go.bits .and .u64 (IntKind.u64.wrap ((Go.bits .and .u64 (a0 / 2) 6148914691236517205) + (Go.bits .and .u64 a0 6148914691236517205))) 3689348814741910323))))) 1085102592571150095) / 256))) + ((IntKind.u64.wrap ((Go.bits .and .u64 (IntKind.u64.wrap (((IntKind.u64.wrap ((Go.bits .and .u64 ((IntKind.u64.wrap ((Go.bits .and .u64 (a0 / 2) 6148914691236517205) + (Go.bits .and .u64 a0 6148914691236517205))) / 4) 3689348814741910323) + (Go.bits .and .u64 (IntKind.u64.wrap ((Go.bits .and .u64 (a0 / 2) 6148914691236517205) + (Go.bits .and .u64 a0 6148914691236517205))) 3689348814741910323))) / 16) + (IntKind.u64.wrap ((Go.bits .and .u64 ((IntKind.u64.wrap ((Go.bits .and .u64 (a0 / 2) 6148914691236517205) + (Go.bits .and .u64 a0 6148914691236517205))) / 4) 3689348814741910323) + (Go.bits .and .u64 (IntKind.u64.wrap ((Go.bits .and .u64 (a0 / 2) 6148914691236517205) + (Go.bits .and .u64 a0 6148914691236517205))) 3689348814741910323))))) 1085102592571150095) + ((Go.bits .and .u64 (IntKind.u64.wrap (((IntKind.u64.wrap ((Go.bits .and .u64 ((IntKind.u64.wrap ((Go.bits .and .u64 (a0 / 2) 6148914691236517205) + (Go.bits .and .u64 a0 6148914691236517205))) / 4) 3689348814741910323) + (Go.bits .and .u64 (IntKind.u64.wrap ((Go.bits .and .u64 (a0 / 2) 6148914691236517205) + (Go.bits .and .u64 a0 6148914691236517205))) 3689348814741910323))) / 16) + (IntKind.u64.wrap ((Go.bits .and .u64 ((IntKind.u64.wrap ((Go.bits .and .u64 (a0 / 2) 6148914691236517205) + (Go.bits .and .u64 a0 6148914691236517205))) / 4) 3689348814741910323) + (Go.bits .and .u64 (IntKind.u64.wrap ((Go.bits .and .u64 (a0 / 2) 6148914691236517205) + (Go.bits .and .u64 a0 6148914691236517205))) 3689348814741910323))))) 1085102592571150095) / 256))) / 65536))) + ((IntKind.u64.wrap ((IntKind.u64.wrap ((Go.bits .and .u64 (IntKind.u64.wrap (((IntKind.u64.wrap ((Go.bits .and .u64 ((IntKind.u64.wrap ((Go.bits .and .u64 (a0 / 2) 6148914691236517205) + (Go.bits .and .u64 a0 6148914691236517205))) / 4) 3689348814741910323) + (Go.bits .and .u64 (IntKind.u64.wrap ((Go.bits .and .u64 (a0 / 2) 6148914691236517205) + (Go.bits .and .u64 a0 6148914691236517205))) 3689348814741910323))) / 16) + (IntKind.u64.wrap ((Go.bits .and .u64 ((IntKind.u64.wrap ((Go.bits .and .u64 (a0 / 2) 6148914691236517205) + (Go.bits .and .u64 a0 6148914691236517205))) / 4) 3689348814741910323) + (Go.bits .and .u64 (IntKind.u64.wrap ((Go.bits .and .u64 (a0 / 2) 6148914691236517205) + (Go.bits .and .u64 a0 6148914691236517205))) 3689348814741910323))))) 1085102592571150095) + ((Go.bits .and .u64 (IntKind.u64.wrap (((IntKind.u64.wrap ((Go.bits .and .u64 ((IntKind.u64.wrap ((Go.bits .and .u64 (a0 / 2) 6148914691236517205) + (Go.bits .and .u64 a0 6148914691236517205))) / 4) 3689348814741910323) + (Go.bits .and .u64 (IntKind.u64.wrap ((Go.bits .and .u64 (a0 / 2) 6148914691236517205) + (Go.bits .and .u64 a0 6148914691236517205))) 3689348814741910323))) / 16) + (IntKind.u64.wrap ((Go.bits .and .u64 ((IntKind.u64.wrap ((Go.bits .and .u64 (a0 / 2) 6148914691236517205) + (Go.bits .and .u64 a0 6148914691236517205))) / 4) 3689348814741910323) + (Go.bits .and .u64 (IntKind.u64.wrap ((Go.bits .and .u64 (a0 / 2) 6148914691236517205) + (Go.bits .and .u64 a0 6148914691236517205))) 3689348814741910323))))) 1085102592571150095) / 256))) + ((IntKind.u64.wrap ((Go.bits .and .u64 (IntKind.u64.wrap (((IntKind.u64.wrap ((Go.bits .and .u64 ((IntKind.u64.wrap ((Go.bits .and .u64 (a0 / 2) 6148914691236517205) + (Go.bits .and .u64 a0 6148914691236517205))) / 4) 3689348814741910323) + (Go.bits .and .u64 (IntKind.u64.wrap ((Go.bits .and .u64 (a0 / 2) 6148914691236517205) + (Go.bits .and .u64 a0 6148914691236517205))) 3689348814741910323))) / 16) + (IntKind.u64.wrap ((Go.bits .and .u64 ((IntKind.u64.wrap ((Go.bits .and .u64 (a0 / 2) 6148914691236517205) + (Go.bits .and .u64 a0 6148914691236517205))) / 4) 3689348814741910323) + (Go.bits .and .u64 (IntKind.u64.wrap ((Go.bits .and .u64 (a0 / 2) 6148914691236517205) + (Go.bits .and .u64 a0 6148914691236517205))) 3689348814741910323))))) 1085102592571150095) + ((Go.bits .and .u64 (IntKind.u64.wrap (((IntKind.u64.wrap ((Go.bits .and .u64 ((IntKind.u64.wrap ((Go.bits .and .u64 (a0 / 2) 6148914691236517205) + (Go.bits .and .u64 a0 6148914691236517205))) / 4) 3689348814741910323) + (Go.bits .and .u64 (IntKind.u64.wrap ((Go.bits .and .u64 (a0 / 2) 6148914691236517205) + (Go.bits .and .u64 a0 6148914691236517205))) 3689348814741910323))) / 16) + (IntKind.u64.wrap ((Go.bits .and .u64 ((IntKind.u64.wrap ((Go.bits .and .u64 (a0 / 2) 6148914691236517205) + (Go.bits .and .u64 a0 6148914691236517205))) / 4) 3689348814741910323) + (Go.bits .and .u64 (IntKind.u64.wrap ((Go.bits .and .u64 (a0 / 2) 6148914691236517205) + (Go.bits .and .u64 a0 6148914691236517205))) 3689348814741910323))))) 1085102592571150095) / 256))) / 65536))) / 4294967296)))) 127)) = some r := h
  clear h
  obtain rfl := Option.some.inj H
  go_enter Tryd.func73, Tryd.ntmps73
  go_wp2
  go_ret
  exact ⟨by first | rfl | (simp; done) | (simp [*]; done), by repeat (first | exact Drawn0.refl _ | apply Drawn0.step)⟩

/-! ### bits_OnesCount: function 47 -/
def bits_OnesCount.f (a0 : Int) : Option (Int) := (bits_OnesCount64.f a0).bind fun t257 => (some t257)
set_option maxHeartbeats 8000000 in
set_option maxRecDepth 100000 in
theorem bits_OnesCount.calls (a0 : Int) (r : Int) (w : World) (h : bits_OnesCount.f a0 = some r) :
    Calls Tryd.prog 47 #[.int .u64 a0] w fun e w' => e = .returned (.int .i64 r) ∧ Drawn0 w w' := by
  have H : ((bits_OnesCount64.f a0).bind fun t257 => (some t257)) = some r := h
  clear h
  replace H := Option.bind_eq_some_iff.mp H
  obtain ⟨t257, A20, H⟩ := H
  replace H : (some t257) = some r := H
  have A2 := Aside0.mk A20
  clear A20
  obtain rfl := Option.some.inj H
  go_enter Tryd.func47, Tryd.ntmps47
  go_wp2_with (first | ((with_reducible refine gate_callee (f := 73) rfl ?_); refine goesL_ (some 7) rfl rfl Tryd.func73 (by kernel_rfl) rfl #[.int .u64 a0] rfl (by (try simp only [List.map_toArray, List.map_cons, List.map_nil]); first | done | rfl | (simp only [List.length_drop, List.length_take]; rfl)) ?_; (with_reducible refine (bits_OnesCount64.calls a0 t257 _ A2.out).mono ?_); rintro e w' ⟨rfl, ⟨nd, rfl⟩⟩; refine ⟨_, rfl, ?_⟩))
  go_ret
  exact ⟨by first | rfl | (simp; done) | (simp [*]; done), by repeat (first | exact Drawn0.refl _ | apply Drawn0.step)⟩


theorem ones_table : (List.range 256).all (fun x => bits_OnesCount64.f (x : Int) == some (pcN x 8 : Int)) = true := by decide +kernel
theorem ones_calls (x : Nat) (hx : x < 256) (w : World) : Calls Tryd.prog 47 #[.int .u64 x] w fun e w' => e = .returned (.int .i64 (pcN x 8)) ∧ Below w.heap.size w w' := by
  have h := List.all_eq_true.1 ones_table x (List.mem_range.2 hx)
  have h := eq_of_beq h
  exact (bits_OnesCount.calls x (pcN x 8) w (by unfold bits_OnesCount.f; rw [h]; rfl)).mono fun _ _ ⟨p, q⟩ => ⟨p, q.below⟩
end
end Go.Proofs.YtdbbcngmnpejnaaDoor.B

/- breed.Build, Knot, Joined. -/
namespace Go.Proofs.YtdbbcngmnpejnaaDoor.B
open Go.Proofs.YtdbbcngmnpejnaaDoor.A
open Go.RowKit Go.Proofs.YtdbbcngmnpejnaaDoorW.PrintWords Go.Proofs.YtdbbcngmnpejnaaDoorW.PrintMore
theorem pow_256 {m : Nat} (h : m ≤ 8) : 2 ^ m ≤ 256 := Nat.pow_le_pow_right (n := 2) (by decide) h
theorem wrap_pow {m : Nat} (h : m ≤ 8) : IntKind.i64.wrap (2 ^ m) = ((2 ^ m : Nat) : Int) := by
  rw [two_cast]
  have := pow_256 h
  generalize 2 ^ m = N at *
  exact wrap64_nat _ (by omega) (by omega)
theorem wrap64_pow {m : Nat} (h : m ≤ 8) : wrap64 (2 ^ m) = ((2 ^ m : Nat) : Int) := by
  rw [two_cast]
  have := pow_256 h
  generalize 2 ^ m = N at *
  unfold wrap64
  omega
theorem errne {E : Int} (h : E ≠ 0) : (E == 0) = false ∧ (E != 0) = true := ⟨by rw [beq_eq_false_iff_ne]; exact h, by rw [bne_iff_ne]; exact h⟩
def buildE (n : Int) (l : List S44) : ByteArray × Int := if askE n l = 0 then (match buildF l 9 (2 ^ n.toNat - 1) with | some t => (strB t.text, 0) | none => (⟨#[]⟩, 10)) else (⟨#[]⟩, askE n l)

set_option maxRecDepth 100000 in
set_option maxHeartbeats 1600000 in
theorem Build_calls (n : Int) (A : Option Addr) (c : Nat) (l : List S44) (W : World) (hr : Kd.C k44 W A l.length l) (hc : l.length ≤ c) (hT : TabAt W) :
    Calls Tryd.prog 17 #[.int .i64 n, .slice A l.length c] W fun e w' => e = .returned (.tuple #[.string (buildE n l).1, .int .i64 (buildE n l).2]) ∧ Below W.heap.size W w' := by
  have HA := Aside0.mk (asked_calls n A c l W hr hc)
  have HR := Aside0.mk hr
  have HT := Aside0.mk hT
  obtain ⟨Z, hZ⟩ : ∃ Z, buildE n l = Z := ⟨_, rfl⟩
  rw [hZ]
  unfold buildE at hZ
  by_cases h0 : askE n l = 0
  · rw [if_pos h0] at hZ
    rw [h0] at HA
    obtain ⟨hn, hl, hok⟩ := askE_zero h0
    obtain ⟨m, rfl⟩ : ∃ m : Nat, n = m := ⟨n.toNat, by omega⟩
    rw [Int.toNat_natCast] at hZ
    have hm8 : m ≤ 8 := by omega
    have h8 : ∀ t ∈ l, Tri8 t := fun t ht => okTri_8 (by omega) (hok t ht)
    have hp := pow_256 hm8
    have hp2 : 2 ≤ 2 ^ m := by
      obtain ⟨m', rfl⟩ : ∃ m', m = m' + 1 := ⟨m - 1, by omega⟩
      have := Nat.two_pow_pos m'
      rw [Nat.pow_succ]; omega
    have HB : Aside0 (∀ w1, Below W.heap.size W w1 → Calls Tryd.prog 44 #[.slice A l.length c, .int .i64 ((2 ^ m - 1 : Nat) : Int)] w1 (TreePost (buildF l 9 (2 ^ m - 1)) w1)) := ⟨fun w1 hb => build_calls A c l h8 (by omega) 9 (2 ^ m - 1) w1 (by omega) (by omega) (by have := pcN_le (2 ^ m - 1) 8; omega) (Kd.C_below HR.out hb) (HT.out.next hb)⟩
    have hw1 := wrap_pow hm8
    have hw2 := wrap64_pow hm8
    have hs : ((2 ^ m - 1 : Nat) : Int) = ((2 ^ m : Nat) : Int) - 1 := by omega
    rw [hs] at HB
    have hZG : ∀ t, buildF l 9 (2 ^ m - 1) = some t → t.Good := fun t h => (build_good h8 9 _ t (by omega) (by omega) h).1
    have hpb : 2 ≤ ((2 ^ m : Nat) : Int) ∧ ((2 ^ m : Nat) : Int) ≤ 256 := by omega
    generalize ((2 ^ m : Nat) : Int) = P at HB hw1 hw2 hpb
    obtain ⟨len, hlen⟩ : ∃ len, l.length = len := ⟨_, rfl⟩
    rw [hlen] at HA HB ⊢
    have HL := Aside0.mk hlen
    clear hr hc hT hn hl hok h8 hlen hs
    cases hb : buildF l 9 (2 ^ m - 1) with
    | none =>
      rw [hb] at hZ HB
      subst hZ
      have HB2 : Aside0 (∀ w1, Below W.heap.size W w1 → Calls Tryd.prog 44 #[.slice A len c, .int .i64 (P - 1)] w1 fun e w' => e = .returned .nilIface ∧ Below w1.heap.size w1 w') := ⟨fun w1 h => (HB.out w1 h).mono (by
        rintro e w' ⟨⟨_, rfl⟩ | ⟨t, v, h, _⟩, hb⟩
        · exact ⟨rfl, hb⟩
        · cases h)⟩
      clear HB hb hp hp2
      go_enter Tryd.func17, Tryd.ntmps17
      go_wp2_with (first
        | (go_at_call 43; go_must (refine HA.out.mono ?_; rintro e w1 ⟨rfl, hb1⟩; have HB1 := Aside0.mk hb1; clear hb1))
        | (go_at_call 44; go_must (refine (HB2.out _ HB1.out).mono ?_; rintro e w2 ⟨rfl, hb2⟩; have HB3 := Aside0.mk (below_then HB1.out HB1.out.size hb2); clear hb2)))
      go_ret2
      exact ⟨rfl, HB3.out⟩
    | some t =>
      rw [hb] at hZ HB
      subst hZ
      have HG := Aside0.mk (hZG t hb)
      have HB2 : Aside0 (∀ w1, Below W.heap.size W w1 → Calls Tryd.prog 44 #[.slice A len c, .int .i64 (P - 1)] w1 fun e w' => ∃ v, e = .returned v ∧ TrV w' (fun b => w1.heap.size ≤ b) v t ∧ Below w1.heap.size w1 w') := ⟨fun w1 h => (HB.out w1 h).mono (by
        rintro e w' ⟨⟨h, _⟩ | ⟨t', v, h, rfl, ht⟩, hb⟩
        · cases h
        · cases h; exact ⟨v, rfl, ht, hb⟩)⟩
      clear HB hb hp hp2 hZG
      show Calls _ _ _ _ fun e w' => e = .returned (.tuple #[.string (strB t.text), .int .i64 0]) ∧ Below W.heap.size W w'
      go_enter Tryd.func17, Tryd.ntmps17
      go_wp2_with (first
        | (go_at_call 43; go_must (refine HA.out.mono ?_; rintro e w1 ⟨rfl, hb1⟩; have HB1 := Aside0.mk hb1; clear hb1))
        | (go_at_call 44; go_must (refine (HB2.out _ HB1.out).mono ?_; rintro e w2 ⟨v2, rfl, htv, hb2⟩; have HB3 := Aside0.mk (below_then HB1.out HB1.out.size hb2); obtain ⟨T, u, K, rfl, hmt, hen, hcall⟩ := text_calls t HG.out _ v2 w2 htv; have HC := Aside0.mk (hcall w2 (Below.refl _ _) (HT.out.next HB3.out)); clear htv hb2 hcall))
        | (go_at_fn K; go_must (refine HC.out.mono ?_; rintro e w3 ⟨rfl, hb3⟩; have HB4 := Aside0.mk (below_then HB3.out HB3.out.size hb3); clear hb3)))
      go_ret2
      exact ⟨rfl, HB4.out⟩
  · rw [if_neg h0] at hZ
    subst hZ
    obtain ⟨e1, e2⟩ := errne h0
    generalize askE n l = E at *
    clear hr hc hT h0
    go_enter Tryd.func17, Tryd.ntmps17
    go_wp2_with (go_at_call 43; go_must (refine HA.out.mono ?_; rintro e w1 ⟨rfl, hb1⟩; have HB1 := Aside0.mk hb1; clear hb1))
    go_ret2
    exact ⟨rfl, HB1.out⟩

/-! ### Knot -/
def knotB (l : List S44) (s : Nat) : Bool := decide (2 < pcN s 8) && decide ((partsF l s).length = 1)
/-- The first set from s on (d of them) that hangs together. -/
def knotF (l : List S44) : Nat → Nat → Option Nat
  | 0, _ => none
  | d + 1, s => if knotB l s = true then some s else knotF l d (s + 1)
def knotE (n : Int) (l : List S44) : Int × Int := if askE n l = 0 then (match knotF l (2 ^ n.toNat) 0 with | some s => ((s : Int), 0) | none => (0, 10)) else (0, askE n l)
theorem joinedF_len (l : List S44) (s : Nat) : (joinedF l s).length = (partsF l s).length := by
  unfold joinedF partsF
  rw [List.length_mergeSort, List.length_map]

set_option maxRecDepth 100000 in
set_option maxHeartbeats 3200000 in
theorem Knot_calls (n : Int) (A : Option Addr) (c : Nat) (l : List S44) (W : World) (hr : Kd.C k44 W A l.length l) (hc : l.length ≤ c) :
    Calls Tryd.prog 19 #[.int .i64 n, .slice A l.length c] W fun e w' => e = .returned (.tuple #[.int .i64 (knotE n l).1, .int .i64 (knotE n l).2]) ∧ Below W.heap.size W w' := by
  have HA := Aside0.mk (asked_calls n A c l W hr hc)
  have HR := Aside0.mk hr
  obtain ⟨Z, hZ⟩ : ∃ Z, knotE n l = Z := ⟨_, rfl⟩
  rw [hZ]
  unfold knotE at hZ
  by_cases h0 : askE n l = 0
  · rw [if_pos h0] at hZ
    rw [h0] at HA
    obtain ⟨hn, hl, hok⟩ := askE_zero h0
    obtain ⟨m, rfl⟩ : ∃ m : Nat, n = m := ⟨n.toNat, by omega⟩
    rw [Int.toNat_natCast] at hZ
    have hm8 : m ≤ 8 := by omega
    have h8 : ∀ t ∈ l, Tri8 t := fun t ht => okTri_8 (by omega) (hok t ht)
    have hp := pow_256 hm8
    have HJ : Aside0 (∀ (s : Nat) w1, s < 256 → Below W.heap.size W w1 → Calls Tryd.prog 48 #[.slice A l.length c, .int .i64 (s : Int)] w1 fun e w' => ∃ v, e = .returned v ∧ Kd.R (Kd.int .i64) 3 w' w1.heap.size (fun _ => True) v (joinedF l s) ∧ Below w1.heap.size w1 w') := ⟨fun s w1 hs hb => joined_calls A c l s hs h8 (by omega) w1 (Kd.C_below HR.out hb)⟩
    have hw1 := wrap_pow hm8
    have hw2 := wrap64_pow hm8
    generalize 2 ^ m = N at hp hw1 hw2 hZ
    obtain ⟨len, hlen⟩ : ∃ len, l.length = len := ⟨_, rfl⟩
    rw [hlen] at HA HJ ⊢
    clear hr hc hn hl hok h8 hlen
    have HZ := Aside0.mk hZ
    clear hZ
    go_enter Tryd.func19, Tryd.ntmps19
    go_upto_region 5 with (go_at_call 43; go_must (refine HA.out.mono ?_; rintro e w1 ⟨rfl, hb1⟩; have HB1 := Aside0.mk hb1; clear hb1))
    go_loopg [7, 16] N (fun gg _ v16 wr => ∃ k : Nat, k ≤ N ∧ N - k ≤ gg ∧ v16 = .int .i64 (k : Int) ∧ Aside0 ((match knotF l (N - k) k with | some s => ((s : Int), (0 : Int)) | none => (0, 10)) = Z) ∧ Aside0 (Below W.heap.size W wr))
    case atStart => exact ⟨0, Nat.zero_le _, by omega, rfl, HZ, HB1⟩
    case round =>
      clear HZ HB1
      obtain ⟨k, hk, hgg, rfl, HZ, HB⟩ := hrel
      by_cases hkn : k < N
      · have hkz : (k : Int) < (N : Int) := by omega
        have hk8 : k < 256 := by omega
        have hwk : IntKind.u64.wrap (k : Int) = (k : Int) := by rw [IntKind.wrap_u64]; omega
        have HK : Aside0 (knotF l (N - k) k = if knotB l k = true then some k else knotF l (N - (k + 1)) (k + 1)) := ⟨by rw [show N - k = (N - (k + 1)) + 1 by omega, knotF]⟩
        have HO : Aside0 (Calls Tryd.prog 47 #[.int .u64 (k : Int)] wr fun e w' => e = .returned (.int .i64 (pcN k 8)) ∧ Below wr.heap.size wr w') := ⟨ones_calls k hk8 wr⟩
        have hpk := pcN_le k 8
        have HKB : Aside0 (knotB l k = (decide (2 < pcN k 8) && decide ((partsF l k).length = 1))) := ⟨rfl⟩
        generalize pcN k 8 = pk at HO hpk HKB
        by_cases h2 : 2 < pk
        · have h2z : (2 : Int) < (pk : Int) := by omega
          have HJL := Aside0.mk (joinedF_len l k)
          by_cases h3 : (partsF l k).length = 1
          · have HZ2 : Aside0 (((k : Int), (0 : Int)) = Z) := ⟨by have := HZ.out; rwa [HK.out, HKB.out, decide_eq_true h2, decide_eq_true h3, Bool.and_true, if_pos rfl] at this⟩
            have hj1 : (joinedF l k).length = 1 := by rw [HJL.out, h3]
            clear h2 h3 HKB HK HZ HJL
            go_upto_region 8 with (first
              | (go_at_call 47; go_must (refine HO.out.mono ?_; rintro e w3 ⟨rfl, hb3⟩; have HB3 := Aside0.mk (below_then HB.out HB.out.size hb3); clear hb3))
              | (go_at_call 48; go_must (refine (HJ.out k _ hk8 HB3.out).mono ?_; rintro e w4 ⟨v4, rfl, hR4, hb4⟩; obtain ⟨A4, c4, rfl, _, _⟩ := Kd.R_reads hR4; have HB4 := Aside0.mk (below_then HB3.out HB3.out.size hb4); clear hR4 hb4)))
            go_wp2
            go_ret2
            exact ⟨by rw [← HZ2.out]; rfl, HB4.out⟩
          · have HZ2 : Aside0 ((match knotF l (N - (k + 1)) (k + 1) with | some s => ((s : Int), (0 : Int)) | none => (0, 10)) = Z) := ⟨by have := HZ.out; rwa [HK.out, HKB.out, decide_eq_false h3, Bool.and_false, if_neg Bool.false_ne_true] at this⟩
            have hj1 : (((joinedF l k).length : Int) == 1) = false := by rw [HJL.out, beq_eq_false_iff_ne]; omega
            clear h2 h3 HKB HK HZ HJL
            generalize hjl : (joinedF l k).length = jl at hj1
            go_wp2_with (first
              | (go_at_call 47; go_must (refine HO.out.mono ?_; rintro e w3 ⟨rfl, hb3⟩; have HB3 := Aside0.mk (below_then HB.out HB.out.size hb3); clear hb3))
              | (go_at_call 48; go_must (refine (HJ.out k _ hk8 HB3.out).mono ?_; rintro e w4 ⟨v4, rfl, hR4, hb4⟩; obtain ⟨A4, c4, rfl, _, _⟩ := Kd.R_reads hR4; rw [hjl]; have HB4 := Aside0.mk (below_then HB3.out HB3.out.size hb4); clear hR4 hb4)))
            go_roundg (N - (k + 1))
            case measure => omega
            case rel => exact ⟨k + 1, by omega, by omega, by go_num, HZ2, HB4⟩
        · have h2z : ¬ (2 : Int) < (pk : Int) := by omega
          have HZ2 : Aside0 ((match knotF l (N - (k + 1)) (k + 1) with | some s => ((s : Int), (0 : Int)) | none => (0, 10)) = Z) := ⟨by have := HZ.out; rwa [HK.out, HKB.out, decide_eq_false h2, Bool.false_and, if_neg Bool.false_ne_true] at this⟩
          clear h2 HKB HK HZ
          go_wp2_with (go_at_call 47; go_must (refine HO.out.mono ?_; rintro e w3 ⟨rfl, hb3⟩; have HB3 := Aside0.mk (below_then HB.out HB.out.size hb3); clear hb3))
          go_roundg (N - (k + 1))
          case measure => omega
          case rel => exact ⟨k + 1, by omega, by omega, by go_num, HZ2, HB3⟩
      · have hkz : ¬ (k : Int) < (N : Int) := by omega
        have HZ2 : Aside0 (((0 : Int), (10 : Int)) = Z) := ⟨by have := HZ.out; rwa [show N - k = 0 by omega, knotF] at this⟩
        go_wp2
        go_ret2
        exact ⟨by rw [← HZ2.out]; rfl, HB.out⟩
  · rw [if_neg h0] at hZ
    subst hZ
    obtain ⟨e1, e2⟩ := errne h0
    generalize askE n l = E at *
    clear hr hc h0
    go_enter Tryd.func19, Tryd.ntmps19
    go_wp2_with (go_at_call 43; go_must (refine HA.out.mono ?_; rintro e w1 ⟨rfl, hb1⟩; have HB1 := Aside0.mk hb1; clear hb1))
    go_ret2
    exact ⟨rfl, HB1.out⟩
end Go.Proofs.YtdbbcngmnpejnaaDoor.B

/- The reader's tree, walked. (Unfinished: the loop has a sorry.) -/
namespace Go.Proofs.YtdbbcngmnpejnaaDoor.B
open Go.Proofs.YtdbbcngmnpejnaaDoor.A
open Go.RowKit Go.Proofs.YtdbbcngmnpejnaaDoorW.PrintWords Go.Proofs.YtdbbcngmnpejnaaDoorW.PrintMore
/-- What the reader hands back: a tree, and what is left; or it tells that all was not well. -/
def RdPost (Z : Option (BT × List UInt8)) (g : Nat) (W : World) (e : Ending) (w' : World) : Prop :=
  ((∃ t L' v, Z = some (t, L') ∧ e = .returned v ∧ TrV w' (fun b => W.heap.size ≤ b) v t ∧ RdAt w' g L' true) ∨
   (Z = none ∧ ∃ v, e = .returned v ∧ (v = .nilIface ∨ ∃ t, TrV w' (fun b => W.heap.size ≤ b) v t ∧ Small t) ∧ ∃ L', RdAt w' g L' false)) ∧ W.grownBy w' (some g)
def RdC (f : Nat) : Prop := ∀ (L : List UInt8) (g : Nat) (W : World), 2 * L.length + 1 ≤ f → RdAt W g L true → TabAt W → g ≠ 1 → Calls Tryd.prog 77 #[.pointer (some ⟨g, 0, none⟩)] W (RdPost (readP f L) g W)
theorem RdAt.cells {W : World} {g : Nat} {L : List UInt8} {b : Bool} (h : RdAt W g L b) : W.cell? ⟨g, 0, none⟩ = some (.string (strB L)) ∧ W.cell? ⟨g, 1, none⟩ = some (.bool b) ∧ W.frozen? ⟨g, 0, none⟩ = false ∧ W.frozen? ⟨g, 1, none⟩ = false := cells2 h
theorem RdAt.lt {W : World} {g : Nat} {L : List UInt8} {b : Bool} (h : RdAt W g L b) : g < W.heap.size := blk_lt h
/-- The reader's flag, put anew. -/
theorem RdAt.put {W : World} {g : Nat} {L : List UInt8} {b : Bool} (h : RdAt W g L b) (b' : Bool) : RdAt (W.setCell ⟨g, 1, none⟩ (.bool b')) g L b' ∧ W.grownBy (W.setCell ⟨g, 1, none⟩ (.bool b')) (some g) :=
  ⟨blk_set h 1 (.bool b'), ⟨rfl, rfl, rfl, by simp [World.setCell], fun k hk hne => Below.heap_setCell W ⟨g, 1, none⟩ _ k (fun e => hne (by rw [e]))⟩⟩

/-- Two steps that turn the reader's block alone. -/
theorem grown_row {W w6 w7 : World} {g : Nat} {row : Option Nat} (h : W.grownBy w6 (some g)) (k : w6.grownBy w7 row) (hrow : ∀ j, row = some j → W.heap.size ≤ j) : W.grownBy w7 (some g) :=
  ⟨k.os.trans h.os, k.tape.trans h.tape, k.output.trans h.output, Nat.le_trans h.size k.size, fun j hj hne => (k.block j (Nat.lt_of_lt_of_le hj h.size) (fun e => by have := hrow j e.symm; omega)).trans (h.block j hj hne)⟩
theorem grown_two {W w1 w2 : World} {g : Nat} (h : W.grownBy w1 (some g)) (k : w1.grownBy w2 (some g)) : W.grownBy w2 (some g) :=
  ⟨k.os.trans h.os, k.tape.trans h.tape, k.output.trans h.output, Nat.le_trans h.size k.size, fun j hj hne => (k.block j (Nat.lt_of_lt_of_le hj h.size) hne).trans (h.block j hj hne)⟩
set_option maxRecDepth 100000 in
set_option maxHeartbeats 1600000 in
/-- A beast. -/
theorem rd_leaf (g : Nat) (c : UInt8) (L : List UInt8) (W : World) (h : RdAt W g (c :: L) true) (i : Nat) (hi : i < 8) (hc : c.toNat = 48 + i) : Calls Tryd.prog 77 #[.pointer (some ⟨g, 0, none⟩)] W (RdPost (some (.leaf i, L)) g W) := by
  have HT := Aside0.mk (take_calls g (c :: L) true W h)
  have hq : takeC (c :: L) = 48 + (i : Int) := by
    show ((c.toNat : Nat) : Int) = _
    omega
  rw [hq, show (true && !(c :: L).isEmpty) = true by simp, List.tail_cons] at HT
  have HI := Aside0.mk hi
  have h1 : (48 : Int) ≤ 48 + (i : Int) := by omega
  have h2 : 48 + (i : Int) ≤ 55 := by omega
  have hw := wrap_two hi
  have hw2 := wrap64_two hi
  have hsub : IntKind.u8.wrap (48 + (i : Int) - 48) = (i : Int) := by rw [IntKind.wrap_u8]; omega
  clear h hq hc
  go_enter Tryd.func77, Tryd.ntmps77
  go_wp2_with (go_at_call 84; go_must (refine HT.out.mono ?_; rintro e w1 ⟨rfl, hr1, hg1⟩; have HR1 := Aside0.mk hr1; have HG1 := Aside0.mk hg1; clear hr1 hg1))
  go_ret
  refine ⟨Or.inl ⟨_, _, _, rfl, rfl, trv_leaf.mpr ?_, HR1.out⟩, HG1.out⟩
  rw [← two_cast]
  rfl
/-- The loop's state: all is well, and some trees have been read; or not. -/
def LoopSt (f : Nat) (Z : Option (BT × List UInt8)) (g : Nat) (W wr : World) (vo : Value) (all : Nat) (left : Nat) : Prop :=
  (∃ (f' : Nat) (L : List UInt8) (xs : List TT), f' ≤ f ∧ 2 * L.length + 2 ≤ f' ∧ L.length + 1 ≤ left ∧ RdAt wr g L true ∧ kT.R 69 wr W.heap.size (fun b => b ≠ g) vo xs ∧ (∀ x ∈ xs, TOk wr (fun b => W.heap.size ≤ b ∧ some b ≠ vo.ownBlock ∧ b ≠ g) x) ∧ ReadL (xs.map (·.2)) all ∧ loopP f' (xs.map (·.2)) all L = Z) ∨
  (Z = none ∧ ∃ L, RdAt wr g L false)
set_option maxRecDepth 100000 in
set_option maxHeartbeats 1600000 in
/-- Nothing is left, or no tree begins there. -/
theorem rd_no (g : Nat) (L : List UInt8) (W : World) (h : RdAt W g L true) (b : Bool) (hb : (true && !L.isEmpty) = b) (q : Int) (hq : takeC L = q) (hd : q < 48 ∨ 55 < q) (h40 : b = true → q ≠ 40) : Calls Tryd.prog 77 #[.pointer (some ⟨g, 0, none⟩)] W (RdPost none g W) := by
  have HT := Aside0.mk (take_calls g L true W h)
  rw [hb, hq] at HT
  generalize L.tail = L2 at HT
  clear h hb hq
  have h48 : (48 ≤ q ∧ ¬ q ≤ 55) ∨ ¬ 48 ≤ q := by omega
  have hq40 : b = true → (q == 40) = false := fun h => by rw [beq_eq_false_iff_ne]; exact h40 h
  clear hd h40
  rcases h48 with ⟨h1, h2⟩ | h1 <;> cases b
  all_goals
    try have hz := hq40 rfl
    clear hq40
    go_enter Tryd.func77, Tryd.ntmps77
    go_upto_region 6 with (go_at_call 84; go_must (refine HT.out.mono ?_; rintro e w1 ⟨rfl, hr1, hg1⟩; have HR1 := Aside0.mk hr1; have HG1 := Aside0.mk hg1; clear hr1 hg1))
    obtain ⟨c0, c1, f0, f1⟩ := HR1.out.cells
    have HP := Aside0.mk (HR1.out.put false)
    go_upto_region 7 with fail
    clear c0 c1 f0 f1
    generalize w1.setCell ⟨g, 1, none⟩ (.bool false) = w2 at HP ⊢
    have HG2 := Aside0.mk (grown_two HG1.out HP.out.2)
    have HR2 := Aside0.mk HP.out.1
    go_loopg [4, 5, 6] 0 (fun gg _ _ _ wr => Aside0 (RdAt wr g L2 false) ∧ Aside0 (W.grownBy wr (some g)))
    case atStart => exact ⟨HR2, HG2⟩
    case round =>
      obtain ⟨HR3, HG3⟩ := hrel
      obtain ⟨d0, d1, _, _⟩ := HR3.out.cells
      go_wp2
      go_ret
      exact ⟨Or.inr ⟨rfl, _, rfl, Or.inl rfl, L2, HR3.out⟩, HG3.out⟩
set_option maxRecDepth 100000 in
set_option maxHeartbeats 3200000 in
/-- A family, from its bracket on. -/
theorem rd_fam (f : Nat) (IH : ∀ f', f' < f → RdC f') (g : Nat) (L : List UInt8) (W : World) (c : UInt8) (hc : c.toNat = 40) (h : RdAt W g (c :: L) true) (hT : TabAt W) (hg1 : g ≠ 1) (hf : 2 * L.length + 2 ≤ f) : Calls Tryd.prog 77 #[.pointer (some ⟨g, 0, none⟩)] W (RdPost (loopP f [] 0 L) g W) := by
  have HTK := Aside0.mk (take_calls g (c :: L) true W h)
  have hq : takeC (c :: L) = 40 := by
    show ((c.toNat : Nat) : Int) = _
    omega
  rw [hq, show (true && !(c :: L).isEmpty) = true by simp, List.tail_cons] at HTK
  have HT := Aside0.mk hT
  have HIH := Aside0.mk IH
  obtain ⟨Z, hZ⟩ : ∃ Z, loopP f [] 0 L = Z := ⟨_, rfl⟩
  rw [hZ]
  have HZ := Aside0.mk hZ
  have HF := Aside0.mk hf
  clear h hq hZ IH hT hc hf
  go_enter Tryd.func77, Tryd.ntmps77
  go_upto_region 6 with (go_at_call 84; go_must (refine HTK.out.mono ?_; rintro e w1 ⟨rfl, hr1, hg1⟩; have HR1 := Aside0.mk hr1; have HG1 := Aside0.mk hg1; clear hr1 hg1))
  obtain ⟨c0, c1, f0, f1⟩ := HR1.out.cells
  have HP := Aside0.mk (HR1.out.put true)
  go_upto_region 7 with fail
  clear c0 c1 f0 f1
  generalize w1.setCell ⟨g, 1, none⟩ (.bool true) = w2 at HP ⊢
  have HG2 := Aside0.mk (grown_two HG1.out HP.out.2)
  have HR2 := Aside0.mk HP.out.1
  clear HG1 HR1 HP
  go_loopg [4, 5, 6] (f + 1) (fun gg v4 v5 _ wr => ∃ (vo : Value) (all left : Nat), vo = v4 ∧ v5 = .int .i64 (all : Int) ∧ all < 256 ∧ left + 1 ≤ gg ∧ Aside0 (LoopSt f Z g W wr vo all left) ∧ Aside0 (W.grownBy wr (some g)))
  case atStart => exact ⟨_, 0, f, rfl, rfl, by decide, Nat.le_refl _, ⟨Or.inl ⟨f, L, [], Nat.le_refl _, HF.out, by have := HF.out; omega, HR2.out, Kd.R_nil _ _ _ _ _, fun x hx => (by cases hx), read_nil, HZ.out⟩⟩, HG2⟩
  case round =>
    clear HG2 HR2
    obtain ⟨vo, all, left, hvo, rfl, hall, hgg, HLS, HG⟩ := hrel
    subst hvo
    rcases HLS.out with ⟨f', L1, xs, hf1, hf2, hl1, hR, hV, hOK, hRD, hZ1⟩ | ⟨hZ1, L1, hR⟩
    · clear HLS
      obtain ⟨f2, rfl⟩ : ∃ f2, f' = f2 + 1 := ⟨f' - 1, by omega⟩
      have HR := Aside0.mk hR
      have HV := Aside0.mk hV
      have HOK := Aside0.mk hOK
      have HRD := Aside0.mk hRD
      have HXB : Aside0 (xs.length ≤ 8) := ⟨by
        have h := asc_len (m := 8) ((xs.map (·.2)).map fun k => low k.set) 0 (by rw [List.pairwise_map]; exact hRD.2.1.imp fun h => h.2) (fun y hy => by
          obtain ⟨k, hk, rfl⟩ := List.mem_map.mp hy
          exact ⟨Nat.zero_le _, low_lt (good_ne (hRD.1 k hk)) (good_256 (hRD.1 k hk))⟩) (by decide)
        rwa [List.length_map, List.length_map] at h⟩
      have HW8 : Aside0 (W.heap.size ≤ wr.heap.size) := ⟨HG.out.size⟩
      have HTR : Aside0 (TabAt wr) := ⟨fun j hj => by
        have h1 := HT.out j hj
        have hl := World.block_lt_of_cell? W _ h1
        exact (World.cell?_of_block (HG.out.block 1 hl (fun e => hg1 (by cases e; rfl)))).trans h1⟩
      have HC := Aside0.mk (HIH.out f2 (by omega) L1 g wr (by omega) hR HTR.out hg1)
      rw [loopP] at hZ1
      obtain ⟨d0, d1, d2, d3⟩ := hR.cells
      clear hR hV hOK hRD
      cases hp : readP f2 L1 with
      | none =>
        rw [hp] at hZ1 HC
        have HZ1 : Aside0 (none = Z) := ⟨hZ1⟩
        have HC2 : Aside0 (Calls Tryd.prog 77 #[.pointer (some ⟨g, 0, none⟩)] wr fun e w' => ∃ v, e = .returned v ∧ (v = .nilIface ∨ ∃ t, TrV w' (fun b => wr.heap.size ≤ b) v t ∧ Small t) ∧ (∃ L', RdAt w' g L' false) ∧ wr.grownBy w' (some g)) := ⟨HC.out.mono (by
          rintro e w' ⟨⟨_, _, _, h, _⟩ | ⟨_, v, rfl, h1, h2⟩, h3⟩
          · cases h
          · exact ⟨v, rfl, h1, h2, h3⟩)⟩
        clear hZ1 hp HC
        go_upto_region 9 with (go_at_call 77; go_must (refine HC2.out.mono ?_; rintro e w5 ⟨v5, rfl, hv5, ⟨L5, hr5⟩, hg5⟩; have HR5 := Aside0.mk hr5; have HG5 := Aside0.mk hg5; clear hr5 hg5))
        clear d0 d1 d2 d3
        obtain ⟨e0, e1, e2, e3⟩ := HR5.out.cells
        rcases hv5 with rfl | ⟨t, ht5, hs5⟩
        · go_wp2
          go_ret
          exact ⟨Or.inr ⟨HZ1.out.symm, _, rfl, Or.inl rfl, L5, HR5.out⟩, grown_two HG.out HG5.out⟩
        · obtain ⟨T, u, rfl, hm⟩ := ht5.ask
          obtain ⟨x, hx2, hxe⟩ := ht5.tok
          have HX2 := Aside0.mk hx2
          have HXE := Aside0.mk hxe
          have HT5 := Aside0.mk ht5
          have HS5 := Aside0.mk hs5
          have hor := low_or hall hs5.2
          have HV5 := Aside0.mk (Kd.R_grown HV.out HG5.out fun k hk e => hk (by cases e; rfl))
          obtain ⟨xl, hxl⟩ : ∃ xl, xs.length = xl := ⟨_, rfl⟩
          have HXL := Aside0.mk hxl
          obtain ⟨A6, c6, hv6, _, _⟩ := Kd.R_reads HV.out
          rw [hxl] at hv6
          subst hv6
          have HP := Aside0.mk (HR5.out.put false)
          have HV6 := Aside0.mk (Kd.R_far HV5.out (p := ⟨g, 1, none⟩) (fun k hk => hk) (.bool false))
          clear ht5 hx2 hxe hxl hs5
          generalize hst : ((t.set : Nat) : Int) = ts at hm hor
          go_upto_region 11 with fail
          clear e0 e1 e2 e3
          generalize w5.setCell ⟨g, 1, none⟩ (.bool false) = w6 at HP HV6 ⊢
          have HLE : Aside0 (W.heap.size ≤ w6.heap.size) := ⟨Nat.le_trans HW8.out (Nat.le_trans HG5.out.size HP.out.2.size)⟩
          have HRO : Aside0 (∀ k, (Value.slice A6 xl c6).ownBlock = some k → k ≠ g) := ⟨HV.out.1⟩
          go_upto_region 13 with (first | (go_at_call 134; go_must (refine (set_beasts _ _).mono ?_; rintro e w9 ⟨rfl, rfl⟩)) | (at_builtin; go_must (refine Kd.R_append kT (w0 := w6) W.heap.size rfl (.tmp 74) (.tmp 76) 79 69 .nilIface 16 rfl Tryd.underlying79 info69 rfl (by decide) (by decide) (.slice A6 xl c6) xs x [.iface T u] (fun b => b ≠ g) (fun _ => False) rfl rfl (by rw [← HXE.out]; rfl) (fun _ hk => hk.elim) (fun k hk => by have := HP.out.1.lt; omega) HV6.out (Below.refl _ _) HLE.out (by have := HXB.out; omega) ?_; intro v7 w7 ho _ hg7 hat7; have HO7 := Aside0.mk ho; have HG7 := Aside0.mk hg7; have HAT7 := Aside0.mk hat7; clear ho hg7 hat7)))
          have HR7 : Aside0 (RdAt w7 g L5 false) := ⟨YtdbbcngmnpejnaaDoorW.PrintWords.blk_grown HP.out.1 HG7.out (fun e => HRO.out g e.symm rfl)⟩
          have HTK7 := Aside0.mk (take_calls g L5 false w7 HR7.out)
          obtain ⟨q, hq⟩ : ∃ q, takeC L5 = q := ⟨_, rfl⟩
          rw [hq, Bool.false_and] at HTK7
          generalize L5.tail = L6 at HTK7
          clear hq
          have HG67 : Aside0 (wr.grownBy w6 (some g)) := ⟨grown_two HG5.out HP.out.2⟩
          by_cases h41 : q = 41
          · have hz : (q == 41) = true := by rw [beq_iff_eq]; exact h41
            clear h41
            obtain ⟨g7, cap7, hv7, _⟩ := Kd.R_form HO7.out (by simp)
            rw [show (xs ++ [x]).length = xl + 1 by rw [List.length_append, List.length_singleton, HXL.out]] at hv7
            subst hv7
            go_upto_region 16 with (go_at_call 84; go_must (refine HTK7.out.mono ?_; rintro e w8 ⟨rfl, hr8, hg8⟩; have HR8 := Aside0.mk hr8; have HG8 := Aside0.mk hg8; clear hr8 hg8))
            obtain ⟨k0, k1, k2, k3⟩ := HR8.out.cells
            have HP8 := Aside0.mk (HR8.out.put false)
            have HV9 := Aside0.mk (Kd.R_far (Kd.R_grown HO7.out HG8.out fun k hk e => hk (by cases e; rfl)) (p := ⟨g, 1, none⟩) (fun k hk => hk) (.bool false))
            go_upto_region 17 with fail
            clear k0 k1 k2 k3
            generalize w8.setCell ⟨g, 1, none⟩ (.bool false) = w9 at HP8 HV9 ⊢
            have hgb : W.heap.size ≤ g7 := Kd.R_base HV9.out g7 rfl
            have hg7g : g7 ≠ g := HV9.out.1 g7 rfl
            have hg71 : g7 ≠ 1 := by
              have h1 := World.block_lt_of_cell? W _ (HT.out 0 (by decide))
              have h2 : (1 : Nat) < W.heap.size := h1
              omega
            have H69 : ∀ k, k < w6.heap.size → some k ≠ (Value.slice A6 xl c6).ownBlock → k ≠ g → w9.heap[k]? = w6.heap[k]? := fun k hk h1 h2 => by
              have e1 := HG7.out.block k hk h1
              have e2 := HG8.out.block k (Nat.lt_of_lt_of_le hk HG7.out.size) (fun e => h2 (by cases e; rfl))
              have e3 := HP8.out.2.block k (Nat.lt_of_lt_of_le hk (Nat.le_trans HG7.out.size HG8.out.size)) (fun e => h2 (by cases e; rfl))
              exact e3.trans (e2.trans e1)
            have H69s : w6.heap.size ≤ w9.heap.size := Nat.le_trans HG7.out.size (Nat.le_trans HG8.out.size HP8.out.2.size)
            have hne7 : ∀ k, k < w6.heap.size → some k ≠ (Value.slice A6 xl c6).ownBlock → k ≠ g7 := fun k hk hn e => by
              rcases HAT7.out with h | ⟨b', h, hb'⟩
              · exact hn (by rw [← h, e]; rfl)
              · have h3 : some g7 = some b' := h
                cases h3; omega
            have H56 : ∀ k, k < w5.heap.size → k ≠ g → w6.heap[k]? = w5.heap[k]? := fun k hk h2 => HP.out.2.block k hk (fun e => h2 (by cases e; rfl))
            have HOK9 : Aside0 (∀ y ∈ xs ++ [x], TOk w9 (fun b => W.heap.size ≤ b ∧ b ≠ g7) y) := ⟨fun y hy => by
              rcases List.mem_append.mp hy with hy | hy
              · refine (HOK.out y hy).move (Nat.le_trans HG67.out.size H69s) (fun b hb hl => ?_) fun b hb hl => ⟨hb.1, hne7 b (Nat.lt_of_lt_of_le hl HG67.out.size) hb.2.1⟩
                exact (H69 b (Nat.lt_of_lt_of_le hl HG67.out.size) hb.2.1 hb.2.2).trans (HG67.out.block b hl fun e => hb.2.2 (by cases e; rfl))
              · rw [List.mem_singleton.mp hy]
                have hx5 : TOk w5 (fun b => wr.heap.size ≤ b) x := ⟨by rw [HXE.out, HX2.out]; exact HT5.out, by rw [HX2.out]; exact HS5.out⟩
                have hap : ∀ b, wr.heap.size ≤ b → some b ≠ (Value.slice A6 xl c6).ownBlock := fun b hb e => by
                  obtain ⟨cs, h⟩ := Kd.R_typed HV.out b e.symm
                  have := YtdbbcngmnpejnaaDoorW.PrintWords.blk_lt h
                  omega
                have hbg : ∀ b, wr.heap.size ≤ b → b ≠ g := fun b hb e => by have := HR.out.lt; omega
                refine hx5.move (Nat.le_trans HP.out.2.size H69s) (fun b hb hl => ?_) fun b hb hl => ⟨Nat.le_trans HW8.out hb, hne7 b (Nat.lt_of_lt_of_le hl HP.out.2.size) (hap b hb)⟩
                exact (H69 b (Nat.lt_of_lt_of_le hl HP.out.2.size) (hap b hb) (hbg b hb)).trans (H56 b hl (hbg b hb))⟩
            have HG9 := Aside0.mk (grown_two (grown_two (grown_row (grown_two HG.out HG67.out) HG7.out fun j hj => Kd.R_base HV6.out j hj) HG8.out) HP8.out.2)
            have HT9 : Aside0 (TabAt w9) := ⟨fun j hj => by
              have h1 := HT.out j hj
              have hl := World.block_lt_of_cell? W _ h1
              exact (World.cell?_of_block (HG9.out.block 1 hl (fun e => hg1 (by cases e; rfl)))).trans h1⟩
            have HVT := Aside0.mk (Kd.R_mono HV9.out (ok' := fun _ => True) fun _ _ => trivial)
            clear H69 H56 hne7 H69s
            rcases Nat.eq_zero_or_pos xl with hx0 | hx0
            · have hxe : xs = [] := List.length_eq_zero_iff.mp (by rw [HXL.out]; exact hx0)
              have hR := HVT.out
              rw [hxe, hx0, List.nil_append] at hR
              have HOF := Aside0.mk (of_one hR)
              have HXO := Aside0.mk (HOK9.out x (by rw [hxe]; simp))
              subst hx0
              clear hxe hR
              go_wp2_with (go_at_call 70; go_must (refine HOF.out.mono ?_; rintro e wa ⟨rfl, rfl⟩))
              go_ret
              exact ⟨Or.inr ⟨HZ1.out.symm, encT x, rfl, Or.inr ⟨x.2, (HXO.out.move (Nat.le_refl _) (fun _ _ _ => rfl) fun b hb _ => hb.1).1, HXO.out.2⟩, L6, HP8.out.1⟩, HG9.out⟩
            · have hlen : (xs ++ [x]).length = xl + 1 := by rw [List.length_append, List.length_singleton, HXL.out]
              have HOF := Aside0.mk (of_many HVT.out hlen.symm (fun y hy => (HOK9.out y hy).move (Nat.le_refl _) (fun _ _ _ => rfl) fun b hb _ => hb.2) HT9.out hg71 (by have := HXB.out; have := HXL.out; omega) (by omega))
              have HLEN := Aside0.mk hlen
              clear hx0 hlen
              go_wp2_with (go_at_call 70; go_must (refine HOF.out.mono ?_; rintro e wa ⟨ys, rfl, hp, hs, hR, hg⟩; have HPY := Aside0.mk hp; have HRY := Aside0.mk hR; have HGY := Aside0.mk hg; clear hp hs hR hg))
              go_ret
              have hsm : Small (.node (ys.map (·.2))) := by
                refine ⟨?_, ?_⟩
                · obtain ⟨i, hi⟩ := ne_bit (HOK9.out x (by simp)).2.1
                  rw [set_node]
                  exact bit_ne (i := i) (sets_bit.mpr ⟨x.2, List.mem_map.mpr ⟨x, HPY.out.mem_iff.mpr (by simp), rfl⟩, hi⟩)
                · rw [set_node]
                  exact sets_lt fun t ht => by
                    obtain ⟨z, hz, rfl⟩ := List.mem_map.mp ht
                    exact (HOK9.out z (HPY.out.mem_iff.mp hz)).2
              exact ⟨Or.inr ⟨HZ1.out.symm, .iface 111 (.agg #[.int .i64 ((BT.sets (ys.map (·.2)) : Nat) : Int), .slice (some ⟨g7, 0, none⟩) (xl + 1) cap7]), rfl, Or.inr ⟨.node (ys.map (·.2)), family_of hgb HRY.out (by rw [HPY.out.length_eq]; exact HLEN.out.symm) HGY.out HOK9.out HPY.out, hsm⟩, L6, YtdbbcngmnpejnaaDoorW.PrintWords.blk_grown HP8.out.1 HGY.out (fun e => hg7g (by cases e; rfl))⟩, grown_row HG9.out HGY.out fun j hj => by cases hj; exact hgb⟩
          · have hz : (q == 41) = false := by rw [beq_eq_false_iff_ne]; exact h41
            by_cases h44 : q = 44
            · have hz2 : (q == 44) = true := by rw [beq_iff_eq]; exact h44
              clear h41 h44
              go_wp2_with (go_at_call 84; go_must (refine HTK7.out.mono ?_; rintro e w8 ⟨rfl, hr8, hg8⟩; have HR8 := Aside0.mk hr8; have HG8 := Aside0.mk hg8; clear hr8 hg8))
              go_roundg 1
              case measure => omega
              case rel => exact ⟨_, all ||| t.set, 0, rfl, rfl, or_256 hall HS5.out.2, Nat.le_refl _, ⟨Or.inr ⟨HZ1.out.symm, L6, HR8.out⟩⟩, ⟨grown_two (grown_row (grown_two HG.out HG67.out) HG7.out fun j hj => Kd.R_base HV6.out j hj) HG8.out⟩⟩
            · have hz2 : (q == 44) = false := by rw [beq_eq_false_iff_ne]; exact h44
              clear h41 h44
              go_upto_region 14 with (go_at_call 84; go_must (refine HTK7.out.mono ?_; rintro e w8 ⟨rfl, hr8, hg8⟩; have HR8 := Aside0.mk hr8; have HG8 := Aside0.mk hg8; clear hr8 hg8))
              obtain ⟨k0, k1, k2, k3⟩ := HR8.out.cells
              have HP8 := Aside0.mk (HR8.out.put false)
              go_wp2
              clear k0 k1 k2 k3
              generalize w8.setCell ⟨g, 1, none⟩ (.bool false) = w9 at HP8 ⊢
              go_roundg 1
              case measure => omega
              case rel => exact ⟨_, all ||| t.set, 0, rfl, rfl, or_256 hall HS5.out.2, Nat.le_refl _, ⟨Or.inr ⟨HZ1.out.symm, L6, HP8.out.1⟩⟩, ⟨grown_two (grown_two (grown_row (grown_two HG.out HG67.out) HG7.out fun j hj => Kd.R_base HV6.out j hj) HG8.out) HP8.out.2⟩⟩
      | some tq =>
        obtain ⟨t, L5⟩ := tq
        rw [hp] at hZ1 HC
        obtain ⟨hgt, hl5⟩ := (read_goods f2).1 _ _ _ hp
        have HGT := Aside0.mk hgt
        have HL5 := Aside0.mk hl5
        have hs5 : Small t := hgt.small
        have HC2 : Aside0 (Calls Tryd.prog 77 #[.pointer (some ⟨g, 0, none⟩)] wr fun e w' => ∃ v, e = .returned v ∧ TrV w' (fun b => wr.heap.size ≤ b) v t ∧ RdAt w' g L5 true ∧ wr.grownBy w' (some g)) := ⟨HC.out.mono (by
          rintro e w' ⟨⟨t', L', v, h, rfl, h1, h2⟩ | ⟨h, _⟩, h3⟩
          · cases h; exact ⟨v, rfl, h1, h2, h3⟩
          · cases h)⟩
        clear hp HC hgt hl5
        dsimp only at hZ1
        have HZ0 := Aside0.mk hZ1
        clear hZ1
        go_upto_region 9 with (go_at_call 77; go_must (refine HC2.out.mono ?_; rintro e w5 ⟨v5, rfl, ht5, hr5, hg5⟩; have HR5 := Aside0.mk hr5; have HG5 := Aside0.mk hg5; clear hr5 hg5))
        clear d0 d1 d2 d3
        obtain ⟨e0, e1, e2, e3⟩ := HR5.out.cells
        obtain ⟨T, u, rfl, hm⟩ := ht5.ask
        obtain ⟨x, hx2, hxe⟩ := ht5.tok
        have HX2 := Aside0.mk hx2
        have HXE := Aside0.mk hxe
        have HT5 := Aside0.mk ht5
        have HS5 := Aside0.mk hs5
        have hor := low_or hall hs5.2
        have hand := and_cast hs5.2 hall
        have HV5 := Aside0.mk (Kd.R_grown HV.out HG5.out fun k hk e => hk (by cases e; rfl))
        obtain ⟨xl, hxl⟩ : ∃ xl, xs.length = xl := ⟨_, rfl⟩
        have HXL := Aside0.mk hxl
        obtain ⟨A6, c6, hv6, _, _⟩ := Kd.R_reads HV.out
        rw [hxl] at hv6
        subst hv6
        clear ht5 hx2 hxe hxl hs5
        have HMAP : Aside0 ((xs ++ [x]).map (·.2) = xs.map (·.2) ++ [t]) := ⟨by rw [List.map_append, List.map_cons, List.map_nil, HX2.out]⟩
        have HT5A : Aside0 (TabAt w5) := ⟨fun j hj => by
          have h1 := HTR.out j hj
          have hl := World.block_lt_of_cell? wr _ h1
          exact (World.cell?_of_block (HG5.out.block 1 hl (fun e => hg1 (by cases e; rfl)))).trans h1⟩
        by_cases ha : t.set &&& all = 0
        · rcases Nat.eq_zero_or_pos xl with hx0 | hx0
          · have hxe : xs = [] := List.length_eq_zero_iff.mp (by rw [HXL.out]; exact hx0)
            have HNX : Aside0 (nextOk (xs.map (·.2)) all t = true) := ⟨by unfold nextOk; rw [decide_eq_true ha, hxe]; rfl⟩
            have HP := Aside0.mk (HR5.out.put true)
            have HV6 := Aside0.mk (Kd.R_far HV5.out (p := ⟨g, 1, none⟩) (fun k hk => hk) (.bool true))
            have haz : (((t.set &&& all : Nat) : Int) == 0) = true := by rw [beq_iff_eq]; omega
            clear ha hxe
            have HX0 := Aside0.mk hx0
            have hxz : ((xl : Int) == 0) = true := by rw [beq_iff_eq]; omega
            clear hx0
            generalize ((t.set &&& all : Nat) : Int) = an at hand haz
            generalize hst : ((t.set : Nat) : Int) = ts at hm hor hand
            go_upto_region 11 with (go_at_call 134; go_must (refine (set_beasts _ _).mono ?_; rintro e w9 ⟨rfl, rfl⟩))
            clear haz hand hxz
            have hx0 := HX0.out
            subst hx0
            clear e0 e1 e2 e3
            generalize w5.setCell ⟨g, 1, none⟩ (.bool true) = w6 at HP HV6 ⊢
            have HLE : Aside0 (W.heap.size ≤ w6.heap.size) := ⟨Nat.le_trans HW8.out (Nat.le_trans HG5.out.size HP.out.2.size)⟩
            have HRO : Aside0 (∀ k, (Value.slice A6 0 c6).ownBlock = some k → k ≠ g) := ⟨HV.out.1⟩
            go_upto_region 13 with (first | (go_at_call 134; go_must (refine (set_beasts _ _).mono ?_; rintro e w9 ⟨rfl, rfl⟩)) | (at_builtin; go_must (refine Kd.R_append kT (w0 := w6) W.heap.size rfl (.tmp 74) (.tmp 76) 79 69 .nilIface 16 rfl Tryd.underlying79 info69 rfl (by decide) (by decide) (.slice A6 0 c6) xs x [.iface T u] (fun b => b ≠ g) (fun _ => False) rfl rfl (by rw [← HXE.out]; rfl) (fun _ hk => hk.elim) (fun k hk => by have := HP.out.1.lt; omega) HV6.out (Below.refl _ _) HLE.out (by have := HXB.out; omega) ?_; intro v7 w7 ho _ hg7 hat7; have HO7 := Aside0.mk ho; have HG7 := Aside0.mk hg7; have HAT7 := Aside0.mk hat7; clear ho hg7 hat7)))
            have HR7 : Aside0 (RdAt w7 g L5 true) := ⟨YtdbbcngmnpejnaaDoorW.PrintWords.blk_grown HP.out.1 HG7.out (fun e => HRO.out g e.symm rfl)⟩
            have HTK7 := Aside0.mk (take_calls g L5 true w7 HR7.out)
            have HG67 : Aside0 (wr.grownBy w6 (some g)) := ⟨grown_two HG5.out HP.out.2⟩
            cases L5 with
            | nil =>
              have HZ1 : Aside0 (none = Z) := ⟨by have h := HZ0.out; rw [if_pos HNX.out] at h; exact h⟩
              obtain ⟨q, hq⟩ : ∃ q, takeC [] = q := ⟨_, rfl⟩
              rw [hq, show (true && !([] : List UInt8).isEmpty) = false from rfl, List.tail_nil] at HTK7
              have hz : (q == 41) = false := by rw [← hq]; rfl
              have hz2 : (q == 44) = false := by rw [← hq]; rfl
              clear hq
              go_upto_region 14 with (go_at_call 84; go_must (refine HTK7.out.mono ?_; rintro e w8 ⟨rfl, hr8, hg8⟩; have HR8 := Aside0.mk hr8; have HG8 := Aside0.mk hg8; clear hr8 hg8))
              obtain ⟨k0, k1, k2, k3⟩ := HR8.out.cells
              have HP8 := Aside0.mk (HR8.out.put false)
              go_wp2
              clear k0 k1 k2 k3
              generalize w8.setCell ⟨g, 1, none⟩ (.bool false) = w9 at HP8 ⊢
              go_roundg 1
              case measure => omega
              case rel => exact ⟨_, all ||| t.set, 0, rfl, rfl, or_256 hall HS5.out.2, Nat.le_refl _, ⟨Or.inr ⟨HZ1.out.symm, [], HP8.out.1⟩⟩, ⟨grown_two (grown_two (grown_row (grown_two HG.out HG67.out) HG7.out fun j hj => Kd.R_base HV6.out j hj) HG8.out) HP8.out.2⟩⟩
            | cons c L6 =>
              rw [show (true && !(c :: L6).isEmpty) = true from rfl, List.tail_cons] at HTK7
              have hlL6 : L6.length + 1 < L1.length := by have := HL5.out; rwa [List.length_cons] at this
              have HLL := Aside0.mk hlL6
              clear hlL6
              by_cases h41 : c.toNat = 41
              · have HZ1 : Aside0 (none = Z) := ⟨by have h := HZ0.out; rw [if_pos HNX.out] at h; dsimp only at h; rw [if_pos h41, if_neg (by rw [List.length_append, List.length_map, HXL.out]; simp)] at h; exact h⟩
                obtain ⟨q, hq⟩ : ∃ q, takeC (c :: L6) = q := ⟨_, rfl⟩
                rw [hq] at HTK7
                have hz : (q == 41) = true := by rw [← hq, beq_iff_eq]; show ((c.toNat : Nat) : Int) = 41; omega
                clear h41 hq
                obtain ⟨g7, cap7, hv7, _⟩ := Kd.R_form HO7.out (by simp)
                rw [show (xs ++ [x]).length = 0 + 1 by rw [List.length_append, List.length_singleton, HXL.out]] at hv7
                subst hv7
                go_upto_region 16 with (go_at_call 84; go_must (refine HTK7.out.mono ?_; rintro e w8 ⟨rfl, hr8, hg8⟩; have HR8 := Aside0.mk hr8; have HG8 := Aside0.mk hg8; clear hr8 hg8))
                obtain ⟨k0, k1, k2, k3⟩ := HR8.out.cells
                have HP8 := Aside0.mk (HR8.out.put false)
                have HV9 := Aside0.mk (Kd.R_far (Kd.R_grown HO7.out HG8.out fun k hk e => hk (by cases e; rfl)) (p := ⟨g, 1, none⟩) (fun k hk => hk) (.bool false))
                go_upto_region 17 with fail
                clear k0 k1 k2 k3
                generalize w8.setCell ⟨g, 1, none⟩ (.bool false) = w9 at HP8 HV9 ⊢
                have hgb : W.heap.size ≤ g7 := Kd.R_base HV9.out g7 rfl
                have hg7g : g7 ≠ g := HV9.out.1 g7 rfl
                have hg71 : g7 ≠ 1 := by
                  have h1 := World.block_lt_of_cell? W _ (HT.out 0 (by decide))
                  have h2 : (1 : Nat) < W.heap.size := h1
                  omega
                have H69 : ∀ k, k < w6.heap.size → some k ≠ (Value.slice A6 0 c6).ownBlock → k ≠ g → w9.heap[k]? = w6.heap[k]? := fun k hk h1 h2 => by
                  have e1 := HG7.out.block k hk h1
                  have e2 := HG8.out.block k (Nat.lt_of_lt_of_le hk HG7.out.size) (fun e => h2 (by cases e; rfl))
                  have e3 := HP8.out.2.block k (Nat.lt_of_lt_of_le hk (Nat.le_trans HG7.out.size HG8.out.size)) (fun e => h2 (by cases e; rfl))
                  exact e3.trans (e2.trans e1)
                have H69s : w6.heap.size ≤ w9.heap.size := Nat.le_trans HG7.out.size (Nat.le_trans HG8.out.size HP8.out.2.size)
                have hne7 : ∀ k, k < w6.heap.size → some k ≠ (Value.slice A6 0 c6).ownBlock → k ≠ g7 := fun k hk hn e => by
                  rcases HAT7.out with h | ⟨b', h, hb'⟩
                  · exact hn (by rw [← h, e]; rfl)
                  · have h3 : some g7 = some b' := h
                    cases h3; omega
                have H56 : ∀ k, k < w5.heap.size → k ≠ g → w6.heap[k]? = w5.heap[k]? := fun k hk h2 => HP.out.2.block k hk (fun e => h2 (by cases e; rfl))
                have HOK9 : Aside0 (∀ y ∈ xs ++ [x], TOk w9 (fun b => W.heap.size ≤ b ∧ b ≠ g7) y) := ⟨fun y hy => by
                  rcases List.mem_append.mp hy with hy | hy
                  · refine (HOK.out y hy).move (Nat.le_trans HG67.out.size H69s) (fun b hb hl => ?_) fun b hb hl => ⟨hb.1, hne7 b (Nat.lt_of_lt_of_le hl HG67.out.size) hb.2.1⟩
                    exact (H69 b (Nat.lt_of_lt_of_le hl HG67.out.size) hb.2.1 hb.2.2).trans (HG67.out.block b hl fun e => hb.2.2 (by cases e; rfl))
                  · rw [List.mem_singleton.mp hy]
                    have hx5 : TOk w5 (fun b => wr.heap.size ≤ b) x := ⟨by rw [HXE.out, HX2.out]; exact HT5.out, by rw [HX2.out]; exact HS5.out⟩
                    have hap : ∀ b, wr.heap.size ≤ b → some b ≠ (Value.slice A6 0 c6).ownBlock := fun b hb e => by
                      obtain ⟨cs, h⟩ := Kd.R_typed HV.out b e.symm
                      have := YtdbbcngmnpejnaaDoorW.PrintWords.blk_lt h
                      omega
                    have hbg : ∀ b, wr.heap.size ≤ b → b ≠ g := fun b hb e => by have := HR.out.lt; omega
                    refine hx5.move (Nat.le_trans HP.out.2.size H69s) (fun b hb hl => ?_) fun b hb hl => ⟨Nat.le_trans HW8.out hb, hne7 b (Nat.lt_of_lt_of_le hl HP.out.2.size) (hap b hb)⟩
                    exact (H69 b (Nat.lt_of_lt_of_le hl HP.out.2.size) (hap b hb) (hbg b hb)).trans (H56 b hl (hbg b hb))⟩
                have HG9 := Aside0.mk (grown_two (grown_two (grown_row (grown_two HG.out HG67.out) HG7.out fun j hj => Kd.R_base HV6.out j hj) HG8.out) HP8.out.2)
                have HT9 : Aside0 (TabAt w9) := ⟨fun j hj => by
                  have h1 := HT.out j hj
                  have hl := World.block_lt_of_cell? W _ h1
                  exact (World.cell?_of_block (HG9.out.block 1 hl (fun e => hg1 (by cases e; rfl)))).trans h1⟩
                have HVT := Aside0.mk (Kd.R_mono HV9.out (ok' := fun _ => True) fun _ _ => trivial)
                clear H69 H56 hne7 H69s
                have hxe : xs = [] := List.length_eq_zero_iff.mp (HXL.out)
                have hR := HVT.out
                rw [hxe, List.nil_append] at hR
                have HOF := Aside0.mk (of_one hR)
                have HXO := Aside0.mk (HOK9.out x (by rw [hxe]; simp))
                clear hxe hR
                go_wp2_with (go_at_call 70; go_must (refine HOF.out.mono ?_; rintro e wa ⟨rfl, rfl⟩))
                go_ret
                exact ⟨Or.inr ⟨HZ1.out.symm, encT x, rfl, Or.inr ⟨x.2, (HXO.out.move (Nat.le_refl _) (fun _ _ _ => rfl) fun b hb _ => hb.1).1, HXO.out.2⟩, L6, HP8.out.1⟩, HG9.out⟩
              · by_cases h44 : c.toNat = 44
                · have HZ1 : Aside0 (loopP f2 (xs.map (·.2) ++ [t]) (all ||| t.set) L6 = Z) := ⟨by have h := HZ0.out; rw [if_pos HNX.out] at h; dsimp only at h; rw [if_neg h41, if_pos h44] at h; exact h⟩
                  obtain ⟨q, hq⟩ : ∃ q, takeC (c :: L6) = q := ⟨_, rfl⟩
                  rw [hq] at HTK7
                  have hz : (q == 41) = false := by rw [← hq, beq_eq_false_iff_ne]; show ((c.toNat : Nat) : Int) ≠ 41; omega
                  have hz2 : (q == 44) = true := by rw [← hq, beq_iff_eq]; show ((c.toNat : Nat) : Int) = 44; omega
                  clear h41 h44 hq
                  go_wp2_with (go_at_call 84; go_must (refine HTK7.out.mono ?_; rintro e w8 ⟨rfl, hr8, hg8⟩; have HR8 := Aside0.mk hr8; have HG8 := Aside0.mk hg8; clear hr8 hg8))
                  have H68 : ∀ k, k < w6.heap.size → some k ≠ (Value.slice A6 0 c6).ownBlock → k ≠ g → w8.heap[k]? = w6.heap[k]? := fun k hk h1 h2 => by
                    have e1 := HG7.out.block k hk h1
                    have e2 := HG8.out.block k (Nat.lt_of_lt_of_le hk HG7.out.size) (fun e => h2 (by cases e; rfl))
                    exact e2.trans e1
                  have H68s : w6.heap.size ≤ w8.heap.size := Nat.le_trans HG7.out.size HG8.out.size
                  have H56 : ∀ k, k < w5.heap.size → k ≠ g → w6.heap[k]? = w5.heap[k]? := fun k hk h2 => HP.out.2.block k hk (fun e => h2 (by cases e; rfl))
                  have hne7 : ∀ k, k < w6.heap.size → some k ≠ (Value.slice A6 0 c6).ownBlock → some k ≠ v7.ownBlock := fun k hk hn e => by
                    rcases HAT7.out with h | ⟨b', h, hb'⟩
                    · exact hn (by rw [← h, e])
                    · rw [h] at e; cases e; omega
                  have HOK8 : Aside0 (∀ y ∈ xs ++ [x], TOk w8 (fun b => W.heap.size ≤ b ∧ some b ≠ v7.ownBlock ∧ b ≠ g) y) := ⟨fun y hy => by
                    rcases List.mem_append.mp hy with hy | hy
                    · refine (HOK.out y hy).move (Nat.le_trans HG67.out.size H68s) (fun b hb hl => ?_) fun b hb hl => ⟨hb.1, hne7 b (Nat.lt_of_lt_of_le hl HG67.out.size) hb.2.1, hb.2.2⟩
                      exact (H68 b (Nat.lt_of_lt_of_le hl HG67.out.size) hb.2.1 hb.2.2).trans (HG67.out.block b hl fun e => hb.2.2 (by cases e; rfl))
                    · rw [List.mem_singleton.mp hy]
                      have hx5 : TOk w5 (fun b => wr.heap.size ≤ b) x := ⟨by rw [HXE.out, HX2.out]; exact HT5.out, by rw [HX2.out]; exact HS5.out⟩
                      have hap : ∀ b, wr.heap.size ≤ b → some b ≠ (Value.slice A6 0 c6).ownBlock := fun b hb e => by
                        obtain ⟨cs, h⟩ := Kd.R_typed HV.out b e.symm
                        have := YtdbbcngmnpejnaaDoorW.PrintWords.blk_lt h
                        omega
                      have hbg : ∀ b, wr.heap.size ≤ b → b ≠ g := fun b hb e => by have := HR.out.lt; omega
                      refine hx5.move (Nat.le_trans HP.out.2.size H68s) (fun b hb hl => ?_) fun b hb hl => ⟨Nat.le_trans HW8.out hb, hne7 b (Nat.lt_of_lt_of_le hl HP.out.2.size) (hap b hb), hbg b hb⟩
                      exact (H68 b (Nat.lt_of_lt_of_le hl HP.out.2.size) (hap b hb) (hbg b hb)).trans (H56 b hl (hbg b hb))⟩
                  have HRD8 : Aside0 (ReadL ((xs ++ [x]).map (·.2)) (all ||| t.set)) := ⟨by rw [HMAP.out]; exact read_next HRD.out HGT.out HNX.out⟩
                  have HZ8 : Aside0 (loopP f2 ((xs ++ [x]).map (·.2)) (all ||| t.set) L6 = Z) := ⟨by rw [HMAP.out]; exact HZ1.out⟩
                  have HR78 := Aside0.mk (Kd.R_grown HO7.out HG8.out fun k hk e => hk (by cases e; rfl))
                  have HGW : Aside0 (W.grownBy w8 (some g)) := ⟨grown_two (grown_row (grown_two HG.out HG67.out) HG7.out fun j hj => Kd.R_base HV6.out j hj) HG8.out⟩
                  clear H68 H56 hne7 H68s
                  have HNUM : Aside0 (f2 ≤ f ∧ 2 * L6.length + 2 ≤ f2 ∧ L6.length + 1 ≤ left - 1 ∧ left - 1 + 1 ≤ left) := ⟨by have := HLL.out; omega⟩
                  go_roundg left
                  case measure => omega
                  case rel => exact ⟨_, all ||| t.set, left - 1, rfl, rfl, or_256 hall HS5.out.2, HNUM.out.2.2.2, ⟨Or.inl ⟨f2, L6, xs ++ [x], HNUM.out.1, HNUM.out.2.1, HNUM.out.2.2.1, HR8.out, HR78.out, HOK8.out, HRD8.out, HZ8.out⟩⟩, HGW⟩
                · have HZ1 : Aside0 (none = Z) := ⟨by have h := HZ0.out; rw [if_pos HNX.out] at h; dsimp only at h; rw [if_neg h41, if_neg h44] at h; exact h⟩
                  obtain ⟨q, hq⟩ : ∃ q, takeC (c :: L6) = q := ⟨_, rfl⟩
                  rw [hq] at HTK7
                  have hz : (q == 41) = false := by rw [← hq, beq_eq_false_iff_ne]; show ((c.toNat : Nat) : Int) ≠ 41; omega
                  have hz2 : (q == 44) = false := by rw [← hq, beq_eq_false_iff_ne]; show ((c.toNat : Nat) : Int) ≠ 44; omega
                  clear h41 h44 hq
                  go_upto_region 14 with (go_at_call 84; go_must (refine HTK7.out.mono ?_; rintro e w8 ⟨rfl, hr8, hg8⟩; have HR8 := Aside0.mk hr8; have HG8 := Aside0.mk hg8; clear hr8 hg8))
                  obtain ⟨k0, k1, k2, k3⟩ := HR8.out.cells
                  have HP8 := Aside0.mk (HR8.out.put false)
                  go_wp2
                  clear k0 k1 k2 k3
                  generalize w8.setCell ⟨g, 1, none⟩ (.bool false) = w9 at HP8 ⊢
                  go_roundg 1
                  case measure => omega
                  case rel => exact ⟨_, all ||| t.set, 0, rfl, rfl, or_256 hall HS5.out.2, Nat.le_refl _, ⟨Or.inr ⟨HZ1.out.symm, L6, HP8.out.1⟩⟩, ⟨grown_two (grown_two (grown_row (grown_two HG.out HG67.out) HG7.out fun j hj => Kd.R_base HV6.out j hj) HG8.out) HP8.out.2⟩⟩
          · obtain ⟨k, hk⟩ : ∃ k, xl = k + 1 := ⟨xl - 1, by omega⟩
            have hkx : k < xl := by omega
            have hk1 : (xl : Int) - 1 = (k : Int) := by omega
            have hx8 : xl ≤ 8 := by have := HXB.out; have := HXL.out; omega
            have hky : k < xs.length := by rw [HXL.out]; exact hkx
            have hxz : ((xl : Int) == 0) = false := by rw [beq_eq_false_iff_ne]; omega
            have haz : (((t.set &&& all : Nat) : Int) == 0) = true := by rw [beq_iff_eq]; omega
            obtain ⟨g6, cap6, hv6, _⟩ := Kd.R_form HV5.out (by have := HXL.out; omega)
            rw [HXL.out] at hv6
            cases hv6
            have hC := (Kd.R_reads' HV5.out).2.2
            obtain ⟨ad, had, hc0⟩ := ReadsOf.at_ (Kd.reads_of_C (d := default) hC) (k : Int) (by omega) (by rw [HXL.out]; omega)
            cases had
            rw [Int.toNat_natCast, show rdOf default xs (k : Int) = xs.getD k default by simp [rdOf], YtdbbcngmnpejnaaDoorW.PrintWords.add_plain] at hc0
            have hmy : xs.getD k default ∈ xs := getD_mem default hky
            have hlast : ((xs.map (·.2)).getLast?.getD default) = (xs.getD k default).2 := by
              rw [List.getLast?_eq_getElem?, List.length_map, HXL.out, show xl - 1 = k by omega, List.getElem?_map, List.getD_eq_getElem?_getD, List.getElem?_eq_getElem hky]
              rfl
            have hTy : TOk w5 (fun _ => True) (xs.getD k default) := (HOK.out _ hmy).move HG5.out.size (fun b hb hl => HG5.out.block b hl (fun e => hb.2.2 (by cases e; rfl))) fun _ _ _ => trivial
            have HLAST := Aside0.mk hlast
            generalize xs.getD k default = y at hc0 hTy HLAST
            have HFL := Aside0.mk (first_calls hTy.2 hTy.1 HT5A.out)
            have HFT := Aside0.mk (first_calls HS5.out HT5.out HT5A.out)
            have HNN : Aside0 (nextOk (xs.map (·.2)) all t = decide (low y.2.set < low t.set)) := ⟨by
              unfold nextOk
              rw [decide_eq_true ha, HLAST.out, show (xs.map (·.2)).isEmpty = false by (cases xs with | nil => simp at hky | cons a b => rfl)]
              rfl⟩
            have hlw1 := low_le8 y.2.set
            have hlw2 := low_le8 t.set
            clear ha hC hmy hlast hTy hky hk
            generalize low y.2.set = la at HFL HNN hlw1
            generalize low t.set = lb at HFT HNN hlw2
            generalize ((t.set &&& all : Nat) : Int) = an at hand haz
            generalize hst : ((t.set : Nat) : Int) = ts at hm hor hand
            by_cases hlt : la < lb
            · have HNX : Aside0 (nextOk (xs.map (·.2)) all t = true) := ⟨by rw [HNN.out, decide_eq_true hlt]⟩
              have HP := Aside0.mk (HR5.out.put true)
              have HV6 := Aside0.mk (Kd.R_far HV5.out (p := ⟨g, 1, none⟩) (fun k hk => hk) (.bool true))
              have hlt2 : ((la : Int) < (lb : Int)) := by omega
              clear HNN
              go_upto_region 11 with (first | (go_at_call 134; go_must (refine (set_beasts _ _).mono ?_; rintro e w9 ⟨rfl, rfl⟩)) | (go_at_call 81; refine HFL.out.mono ?_; rintro e w9 ⟨rfl, rfl⟩) | (go_at_call 81; refine HFT.out.mono ?_; rintro e w9 ⟨rfl, rfl⟩))
              clear haz hand hxz hk1 hkx hc0 hlt hlw1 hlw2 hx8 hlt2
              clear e0 e1 e2 e3
              generalize w5.setCell ⟨g, 1, none⟩ (.bool true) = w6 at HP HV6 ⊢
              have HLE : Aside0 (W.heap.size ≤ w6.heap.size) := ⟨Nat.le_trans HW8.out (Nat.le_trans HG5.out.size HP.out.2.size)⟩
              have HRO : Aside0 (∀ k, (Value.slice (some ⟨g6, 0, none⟩) xl c6).ownBlock = some k → k ≠ g) := ⟨HV.out.1⟩
              go_upto_region 13 with (first | (go_at_call 134; go_must (refine (set_beasts _ _).mono ?_; rintro e w9 ⟨rfl, rfl⟩)) | (at_builtin; go_must (refine Kd.R_append kT (w0 := w6) W.heap.size rfl (.tmp 74) (.tmp 76) 79 69 .nilIface 16 rfl Tryd.underlying79 info69 rfl (by decide) (by decide) (.slice (some ⟨g6, 0, none⟩) xl c6) xs x [.iface T u] (fun b => b ≠ g) (fun _ => False) rfl rfl (by rw [← HXE.out]; rfl) (fun _ hk => hk.elim) (fun k hk => by have := HP.out.1.lt; omega) HV6.out (Below.refl _ _) HLE.out (by have := HXB.out; omega) ?_; intro v7 w7 ho _ hg7 hat7; have HO7 := Aside0.mk ho; have HG7 := Aside0.mk hg7; have HAT7 := Aside0.mk hat7; clear ho hg7 hat7)))
              have HR7 : Aside0 (RdAt w7 g L5 true) := ⟨YtdbbcngmnpejnaaDoorW.PrintWords.blk_grown HP.out.1 HG7.out (fun e => HRO.out g e.symm rfl)⟩
              have HTK7 := Aside0.mk (take_calls g L5 true w7 HR7.out)
              have HG67 : Aside0 (wr.grownBy w6 (some g)) := ⟨grown_two HG5.out HP.out.2⟩
              cases L5 with
              | nil =>
                have HZ1 : Aside0 (none = Z) := ⟨by have h := HZ0.out; rw [if_pos HNX.out] at h; exact h⟩
                obtain ⟨q, hq⟩ : ∃ q, takeC [] = q := ⟨_, rfl⟩
                rw [hq, show (true && !([] : List UInt8).isEmpty) = false from rfl, List.tail_nil] at HTK7
                have hz : (q == 41) = false := by rw [← hq]; rfl
                have hz2 : (q == 44) = false := by rw [← hq]; rfl
                clear hq
                go_upto_region 14 with (go_at_call 84; go_must (refine HTK7.out.mono ?_; rintro e w8 ⟨rfl, hr8, hg8⟩; have HR8 := Aside0.mk hr8; have HG8 := Aside0.mk hg8; clear hr8 hg8))
                obtain ⟨k0, k1, k2, k3⟩ := HR8.out.cells
                have HP8 := Aside0.mk (HR8.out.put false)
                go_wp2
                clear k0 k1 k2 k3
                generalize w8.setCell ⟨g, 1, none⟩ (.bool false) = w9 at HP8 ⊢
                go_roundg 1
                case measure => omega
                case rel => exact ⟨_, all ||| t.set, 0, rfl, rfl, or_256 hall HS5.out.2, Nat.le_refl _, ⟨Or.inr ⟨HZ1.out.symm, [], HP8.out.1⟩⟩, ⟨grown_two (grown_two (grown_row (grown_two HG.out HG67.out) HG7.out fun j hj => Kd.R_base HV6.out j hj) HG8.out) HP8.out.2⟩⟩
              | cons c L6 =>
                rw [show (true && !(c :: L6).isEmpty) = true from rfl, List.tail_cons] at HTK7
                have hlL6 : L6.length + 1 < L1.length := by have := HL5.out; rwa [List.length_cons] at this
                have HLL := Aside0.mk hlL6
                clear hlL6
                by_cases h41 : c.toNat = 41
                · have HZ1 : Aside0 (some (.node (xs.map (·.2) ++ [t]), L6) = Z) := ⟨by have h := HZ0.out; rw [if_pos HNX.out] at h; dsimp only at h; rw [if_pos h41, if_pos (by rw [List.length_append, List.length_map, HXL.out]; simp; omega)] at h; exact h⟩
                  obtain ⟨q, hq⟩ : ∃ q, takeC (c :: L6) = q := ⟨_, rfl⟩
                  rw [hq] at HTK7
                  have hx16 : (1 : Int) < (xl : Int) + 1 := by omega
                  have hz : (q == 41) = true := by rw [← hq, beq_iff_eq]; show ((c.toNat : Nat) : Int) = 41; omega
                  clear h41 hq
                  obtain ⟨g7, cap7, hv7, _⟩ := Kd.R_form HO7.out (by simp)
                  rw [show (xs ++ [x]).length = xl + 1 by rw [List.length_append, List.length_singleton, HXL.out]] at hv7
                  subst hv7
                  go_upto_region 16 with (go_at_call 84; go_must (refine HTK7.out.mono ?_; rintro e w8 ⟨rfl, hr8, hg8⟩; have HR8 := Aside0.mk hr8; have HG8 := Aside0.mk hg8; clear hr8 hg8))
                  obtain ⟨k0, k1, k2, k3⟩ := HR8.out.cells
                  have HP8 := Aside0.mk (HR8.out.put true)
                  have HV9 := Aside0.mk (Kd.R_far (Kd.R_grown HO7.out HG8.out fun k hk e => hk (by cases e; rfl)) (p := ⟨g, 1, none⟩) (fun k hk => hk) (.bool true))
                  go_upto_region 17 with fail
                  clear k0 k1 k2 k3
                  generalize w8.setCell ⟨g, 1, none⟩ (.bool true) = w9 at HP8 HV9 ⊢
                  have hgb : W.heap.size ≤ g7 := Kd.R_base HV9.out g7 rfl
                  have hg7g : g7 ≠ g := HV9.out.1 g7 rfl
                  have hg71 : g7 ≠ 1 := by
                    have h1 := World.block_lt_of_cell? W _ (HT.out 0 (by decide))
                    have h2 : (1 : Nat) < W.heap.size := h1
                    omega
                  have H69 : ∀ k, k < w6.heap.size → some k ≠ (Value.slice (some ⟨g6, 0, none⟩) xl c6).ownBlock → k ≠ g → w9.heap[k]? = w6.heap[k]? := fun k hk h1 h2 => by
                    have e1 := HG7.out.block k hk h1
                    have e2 := HG8.out.block k (Nat.lt_of_lt_of_le hk HG7.out.size) (fun e => h2 (by cases e; rfl))
                    have e3 := HP8.out.2.block k (Nat.lt_of_lt_of_le hk (Nat.le_trans HG7.out.size HG8.out.size)) (fun e => h2 (by cases e; rfl))
                    exact e3.trans (e2.trans e1)
                  have H69s : w6.heap.size ≤ w9.heap.size := Nat.le_trans HG7.out.size (Nat.le_trans HG8.out.size HP8.out.2.size)
                  have hne7 : ∀ k, k < w6.heap.size → some k ≠ (Value.slice (some ⟨g6, 0, none⟩) xl c6).ownBlock → k ≠ g7 := fun k hk hn e => by
                    rcases HAT7.out with h | ⟨b', h, hb'⟩
                    · exact hn (by rw [← h, e]; rfl)
                    · have h3 : some g7 = some b' := h
                      cases h3; omega
                  have H56 : ∀ k, k < w5.heap.size → k ≠ g → w6.heap[k]? = w5.heap[k]? := fun k hk h2 => HP.out.2.block k hk (fun e => h2 (by cases e; rfl))
                  have HOK9 : Aside0 (∀ y ∈ xs ++ [x], TOk w9 (fun b => W.heap.size ≤ b ∧ b ≠ g7) y) := ⟨fun y hy => by
                    rcases List.mem_append.mp hy with hy | hy
                    · refine (HOK.out y hy).move (Nat.le_trans HG67.out.size H69s) (fun b hb hl => ?_) fun b hb hl => ⟨hb.1, hne7 b (Nat.lt_of_lt_of_le hl HG67.out.size) hb.2.1⟩
                      exact (H69 b (Nat.lt_of_lt_of_le hl HG67.out.size) hb.2.1 hb.2.2).trans (HG67.out.block b hl fun e => hb.2.2 (by cases e; rfl))
                    · rw [List.mem_singleton.mp hy]
                      have hx5 : TOk w5 (fun b => wr.heap.size ≤ b) x := ⟨by rw [HXE.out, HX2.out]; exact HT5.out, by rw [HX2.out]; exact HS5.out⟩
                      have hap : ∀ b, wr.heap.size ≤ b → some b ≠ (Value.slice (some ⟨g6, 0, none⟩) xl c6).ownBlock := fun b hb e => by
                        obtain ⟨cs, h⟩ := Kd.R_typed HV.out b e.symm
                        have := YtdbbcngmnpejnaaDoorW.PrintWords.blk_lt h
                        omega
                      have hbg : ∀ b, wr.heap.size ≤ b → b ≠ g := fun b hb e => by have := HR.out.lt; omega
                      refine hx5.move (Nat.le_trans HP.out.2.size H69s) (fun b hb hl => ?_) fun b hb hl => ⟨Nat.le_trans HW8.out hb, hne7 b (Nat.lt_of_lt_of_le hl HP.out.2.size) (hap b hb)⟩
                      exact (H69 b (Nat.lt_of_lt_of_le hl HP.out.2.size) (hap b hb) (hbg b hb)).trans (H56 b hl (hbg b hb))⟩
                  have HG9 := Aside0.mk (grown_two (grown_two (grown_row (grown_two HG.out HG67.out) HG7.out fun j hj => Kd.R_base HV6.out j hj) HG8.out) HP8.out.2)
                  have HT9 : Aside0 (TabAt w9) := ⟨fun j hj => by
                    have h1 := HT.out j hj
                    have hl := World.block_lt_of_cell? W _ h1
                    exact (World.cell?_of_block (HG9.out.block 1 hl (fun e => hg1 (by cases e; rfl)))).trans h1⟩
                  have HVT := Aside0.mk (Kd.R_mono HV9.out (ok' := fun _ => True) fun _ _ => trivial)
                  clear H69 H56 hne7 H69s
                  have hlen : (xs ++ [x]).length = xl + 1 := by rw [List.length_append, List.length_singleton, HXL.out]
                  have HOF := Aside0.mk (of_many HVT.out hlen.symm (fun y hy => (HOK9.out y hy).move (Nat.le_refl _) (fun _ _ _ => rfl) fun b hb _ => hb.2) HT9.out hg71 (by have := HXB.out; have := HXL.out; omega) (by omega))
                  have HLEN := Aside0.mk hlen
                  clear hx0 hlen
                  go_wp2_with (go_at_call 70; go_must (refine HOF.out.mono ?_; rintro e wa ⟨ys, rfl, hp, hs, hR, hg⟩; have HPY := Aside0.mk hp; have HSY := Aside0.mk hs; have HRY := Aside0.mk hR; have HGY := Aside0.mk hg; clear hp hs hR hg))
                  go_ret
                  have hys : ys.map (·.2) = xs.map (·.2) ++ [t] := by
                    rw [← HMAP.out]
                    refine order_one ?_ (by rw [List.pairwise_map]; exact HSY.out) (HPY.out.map _)
                    rw [HMAP.out]
                    exact (read_next HRD.out HGT.out HNX.out).2.1.imp fun h => h.2
                  refine ⟨Or.inl ⟨.node (xs.map (·.2) ++ [t]), L6, .iface 111 (.agg #[.int .i64 ((BT.sets (ys.map (·.2)) : Nat) : Int), .slice (some ⟨g7, 0, none⟩) (xl + 1) cap7]), HZ1.out.symm, rfl, ?_, YtdbbcngmnpejnaaDoorW.PrintWords.blk_grown HP8.out.1 HGY.out (fun e => hg7g (by cases e; rfl))⟩, grown_row HG9.out HGY.out fun j hj => by cases hj; exact hgb⟩
                  rw [← hys]
                  exact family_of hgb HRY.out (by rw [HPY.out.length_eq]; exact HLEN.out.symm) HGY.out HOK9.out HPY.out
                · by_cases h44 : c.toNat = 44
                  · have HZ1 : Aside0 (loopP f2 (xs.map (·.2) ++ [t]) (all ||| t.set) L6 = Z) := ⟨by have h := HZ0.out; rw [if_pos HNX.out] at h; dsimp only at h; rw [if_neg h41, if_pos h44] at h; exact h⟩
                    obtain ⟨q, hq⟩ : ∃ q, takeC (c :: L6) = q := ⟨_, rfl⟩
                    rw [hq] at HTK7
                    have hz : (q == 41) = false := by rw [← hq, beq_eq_false_iff_ne]; show ((c.toNat : Nat) : Int) ≠ 41; omega
                    have hz2 : (q == 44) = true := by rw [← hq, beq_iff_eq]; show ((c.toNat : Nat) : Int) = 44; omega
                    clear h41 h44 hq
                    go_wp2_with (go_at_call 84; go_must (refine HTK7.out.mono ?_; rintro e w8 ⟨rfl, hr8, hg8⟩; have HR8 := Aside0.mk hr8; have HG8 := Aside0.mk hg8; clear hr8 hg8))
                    have H68 : ∀ k, k < w6.heap.size → some k ≠ (Value.slice (some ⟨g6, 0, none⟩) xl c6).ownBlock → k ≠ g → w8.heap[k]? = w6.heap[k]? := fun k hk h1 h2 => by
                      have e1 := HG7.out.block k hk h1
                      have e2 := HG8.out.block k (Nat.lt_of_lt_of_le hk HG7.out.size) (fun e => h2 (by cases e; rfl))
                      exact e2.trans e1
                    have H68s : w6.heap.size ≤ w8.heap.size := Nat.le_trans HG7.out.size HG8.out.size
                    have H56 : ∀ k, k < w5.heap.size → k ≠ g → w6.heap[k]? = w5.heap[k]? := fun k hk h2 => HP.out.2.block k hk (fun e => h2 (by cases e; rfl))
                    have hne7 : ∀ k, k < w6.heap.size → some k ≠ (Value.slice (some ⟨g6, 0, none⟩) xl c6).ownBlock → some k ≠ v7.ownBlock := fun k hk hn e => by
                      rcases HAT7.out with h | ⟨b', h, hb'⟩
                      · exact hn (by rw [← h, e])
                      · rw [h] at e; cases e; omega
                    have HOK8 : Aside0 (∀ y ∈ xs ++ [x], TOk w8 (fun b => W.heap.size ≤ b ∧ some b ≠ v7.ownBlock ∧ b ≠ g) y) := ⟨fun y hy => by
                      rcases List.mem_append.mp hy with hy | hy
                      · refine (HOK.out y hy).move (Nat.le_trans HG67.out.size H68s) (fun b hb hl => ?_) fun b hb hl => ⟨hb.1, hne7 b (Nat.lt_of_lt_of_le hl HG67.out.size) hb.2.1, hb.2.2⟩
                        exact (H68 b (Nat.lt_of_lt_of_le hl HG67.out.size) hb.2.1 hb.2.2).trans (HG67.out.block b hl fun e => hb.2.2 (by cases e; rfl))
                      · rw [List.mem_singleton.mp hy]
                        have hx5 : TOk w5 (fun b => wr.heap.size ≤ b) x := ⟨by rw [HXE.out, HX2.out]; exact HT5.out, by rw [HX2.out]; exact HS5.out⟩
                        have hap : ∀ b, wr.heap.size ≤ b → some b ≠ (Value.slice (some ⟨g6, 0, none⟩) xl c6).ownBlock := fun b hb e => by
                          obtain ⟨cs, h⟩ := Kd.R_typed HV.out b e.symm
                          have := YtdbbcngmnpejnaaDoorW.PrintWords.blk_lt h
                          omega
                        have hbg : ∀ b, wr.heap.size ≤ b → b ≠ g := fun b hb e => by have := HR.out.lt; omega
                        refine hx5.move (Nat.le_trans HP.out.2.size H68s) (fun b hb hl => ?_) fun b hb hl => ⟨Nat.le_trans HW8.out hb, hne7 b (Nat.lt_of_lt_of_le hl HP.out.2.size) (hap b hb), hbg b hb⟩
                        exact (H68 b (Nat.lt_of_lt_of_le hl HP.out.2.size) (hap b hb) (hbg b hb)).trans (H56 b hl (hbg b hb))⟩
                    have HRD8 : Aside0 (ReadL ((xs ++ [x]).map (·.2)) (all ||| t.set)) := ⟨by rw [HMAP.out]; exact read_next HRD.out HGT.out HNX.out⟩
                    have HZ8 : Aside0 (loopP f2 ((xs ++ [x]).map (·.2)) (all ||| t.set) L6 = Z) := ⟨by rw [HMAP.out]; exact HZ1.out⟩
                    have HR78 := Aside0.mk (Kd.R_grown HO7.out HG8.out fun k hk e => hk (by cases e; rfl))
                    have HGW : Aside0 (W.grownBy w8 (some g)) := ⟨grown_two (grown_row (grown_two HG.out HG67.out) HG7.out fun j hj => Kd.R_base HV6.out j hj) HG8.out⟩
                    clear H68 H56 hne7 H68s
                    have HNUM : Aside0 (f2 ≤ f ∧ 2 * L6.length + 2 ≤ f2 ∧ L6.length + 1 ≤ left - 1 ∧ left - 1 + 1 ≤ left) := ⟨by have := HLL.out; omega⟩
                    go_roundg left
                    case measure => omega
                    case rel => exact ⟨_, all ||| t.set, left - 1, rfl, rfl, or_256 hall HS5.out.2, HNUM.out.2.2.2, ⟨Or.inl ⟨f2, L6, xs ++ [x], HNUM.out.1, HNUM.out.2.1, HNUM.out.2.2.1, HR8.out, HR78.out, HOK8.out, HRD8.out, HZ8.out⟩⟩, HGW⟩
                  · have HZ1 : Aside0 (none = Z) := ⟨by have h := HZ0.out; rw [if_pos HNX.out] at h; dsimp only at h; rw [if_neg h41, if_neg h44] at h; exact h⟩
                    obtain ⟨q, hq⟩ : ∃ q, takeC (c :: L6) = q := ⟨_, rfl⟩
                    rw [hq] at HTK7
                    have hz : (q == 41) = false := by rw [← hq, beq_eq_false_iff_ne]; show ((c.toNat : Nat) : Int) ≠ 41; omega
                    have hz2 : (q == 44) = false := by rw [← hq, beq_eq_false_iff_ne]; show ((c.toNat : Nat) : Int) ≠ 44; omega
                    clear h41 h44 hq
                    go_upto_region 14 with (go_at_call 84; go_must (refine HTK7.out.mono ?_; rintro e w8 ⟨rfl, hr8, hg8⟩; have HR8 := Aside0.mk hr8; have HG8 := Aside0.mk hg8; clear hr8 hg8))
                    obtain ⟨k0, k1, k2, k3⟩ := HR8.out.cells
                    have HP8 := Aside0.mk (HR8.out.put false)
                    go_wp2
                    clear k0 k1 k2 k3
                    generalize w8.setCell ⟨g, 1, none⟩ (.bool false) = w9 at HP8 ⊢
                    go_roundg 1
                    case measure => omega
                    case rel => exact ⟨_, all ||| t.set, 0, rfl, rfl, or_256 hall HS5.out.2, Nat.le_refl _, ⟨Or.inr ⟨HZ1.out.symm, L6, HP8.out.1⟩⟩, ⟨grown_two (grown_two (grown_row (grown_two HG.out HG67.out) HG7.out fun j hj => Kd.R_base HV6.out j hj) HG8.out) HP8.out.2⟩⟩
            · have HZ1 : Aside0 (none = Z) := ⟨by rw [← HZ0.out, if_neg (by rw [HNN.out, decide_eq_false hlt]; simp)]⟩
              have HP := Aside0.mk (HR5.out.put false)
              have HV6 := Aside0.mk (Kd.R_far HV5.out (p := ⟨g, 1, none⟩) (fun k hk => hk) (.bool false))
              have hlt2 : ¬ ((la : Int) < (lb : Int)) := by omega
              clear HNN
              go_upto_region 11 with (first | (go_at_call 134; go_must (refine (set_beasts _ _).mono ?_; rintro e w9 ⟨rfl, rfl⟩)) | (go_at_call 81; refine HFL.out.mono ?_; rintro e w9 ⟨rfl, rfl⟩) | (go_at_call 81; refine HFT.out.mono ?_; rintro e w9 ⟨rfl, rfl⟩))
              clear haz hand hxz hk1 hkx hc0 hlt hlw1 hlw2 hx8 hlt2
              clear e0 e1 e2 e3
              generalize w5.setCell ⟨g, 1, none⟩ (.bool false) = w6 at HP HV6 ⊢
              have HLE : Aside0 (W.heap.size ≤ w6.heap.size) := ⟨Nat.le_trans HW8.out (Nat.le_trans HG5.out.size HP.out.2.size)⟩
              have HRO : Aside0 (∀ k, (Value.slice (some ⟨g6, 0, none⟩) xl c6).ownBlock = some k → k ≠ g) := ⟨HV.out.1⟩
              go_upto_region 13 with (first | (go_at_call 134; go_must (refine (set_beasts _ _).mono ?_; rintro e w9 ⟨rfl, rfl⟩)) | (at_builtin; go_must (refine Kd.R_append kT (w0 := w6) W.heap.size rfl (.tmp 74) (.tmp 76) 79 69 .nilIface 16 rfl Tryd.underlying79 info69 rfl (by decide) (by decide) (.slice (some ⟨g6, 0, none⟩) xl c6) xs x [.iface T u] (fun b => b ≠ g) (fun _ => False) rfl rfl (by rw [← HXE.out]; rfl) (fun _ hk => hk.elim) (fun k hk => by have := HP.out.1.lt; omega) HV6.out (Below.refl _ _) HLE.out (by have := HXB.out; omega) ?_; intro v7 w7 ho _ hg7 hat7; have HO7 := Aside0.mk ho; have HG7 := Aside0.mk hg7; have HAT7 := Aside0.mk hat7; clear ho hg7 hat7)))
              have HR7 : Aside0 (RdAt w7 g L5 false) := ⟨YtdbbcngmnpejnaaDoorW.PrintWords.blk_grown HP.out.1 HG7.out (fun e => HRO.out g e.symm rfl)⟩
              have HTK7 := Aside0.mk (take_calls g L5 false w7 HR7.out)
              obtain ⟨q, hq⟩ : ∃ q, takeC L5 = q := ⟨_, rfl⟩
              rw [hq, Bool.false_and] at HTK7
              generalize L5.tail = L6 at HTK7
              clear hq
              have HG67 : Aside0 (wr.grownBy w6 (some g)) := ⟨grown_two HG5.out HP.out.2⟩
              by_cases h41 : q = 41
              · have hz : (q == 41) = true := by rw [beq_iff_eq]; exact h41
                clear h41
                obtain ⟨g7, cap7, hv7, _⟩ := Kd.R_form HO7.out (by simp)
                rw [show (xs ++ [x]).length = xl + 1 by rw [List.length_append, List.length_singleton, HXL.out]] at hv7
                subst hv7
                go_upto_region 16 with (go_at_call 84; go_must (refine HTK7.out.mono ?_; rintro e w8 ⟨rfl, hr8, hg8⟩; have HR8 := Aside0.mk hr8; have HG8 := Aside0.mk hg8; clear hr8 hg8))
                obtain ⟨k0, k1, k2, k3⟩ := HR8.out.cells
                have HP8 := Aside0.mk (HR8.out.put false)
                have HV9 := Aside0.mk (Kd.R_far (Kd.R_grown HO7.out HG8.out fun k hk e => hk (by cases e; rfl)) (p := ⟨g, 1, none⟩) (fun k hk => hk) (.bool false))
                go_upto_region 17 with fail
                clear k0 k1 k2 k3
                generalize w8.setCell ⟨g, 1, none⟩ (.bool false) = w9 at HP8 HV9 ⊢
                have hgb : W.heap.size ≤ g7 := Kd.R_base HV9.out g7 rfl
                have hg7g : g7 ≠ g := HV9.out.1 g7 rfl
                have hg71 : g7 ≠ 1 := by
                  have h1 := World.block_lt_of_cell? W _ (HT.out 0 (by decide))
                  have h2 : (1 : Nat) < W.heap.size := h1
                  omega
                have H69 : ∀ k, k < w6.heap.size → some k ≠ (Value.slice (some ⟨g6, 0, none⟩) xl c6).ownBlock → k ≠ g → w9.heap[k]? = w6.heap[k]? := fun k hk h1 h2 => by
                  have e1 := HG7.out.block k hk h1
                  have e2 := HG8.out.block k (Nat.lt_of_lt_of_le hk HG7.out.size) (fun e => h2 (by cases e; rfl))
                  have e3 := HP8.out.2.block k (Nat.lt_of_lt_of_le hk (Nat.le_trans HG7.out.size HG8.out.size)) (fun e => h2 (by cases e; rfl))
                  exact e3.trans (e2.trans e1)
                have H69s : w6.heap.size ≤ w9.heap.size := Nat.le_trans HG7.out.size (Nat.le_trans HG8.out.size HP8.out.2.size)
                have hne7 : ∀ k, k < w6.heap.size → some k ≠ (Value.slice (some ⟨g6, 0, none⟩) xl c6).ownBlock → k ≠ g7 := fun k hk hn e => by
                  rcases HAT7.out with h | ⟨b', h, hb'⟩
                  · exact hn (by rw [← h, e]; rfl)
                  · have h3 : some g7 = some b' := h
                    cases h3; omega
                have H56 : ∀ k, k < w5.heap.size → k ≠ g → w6.heap[k]? = w5.heap[k]? := fun k hk h2 => HP.out.2.block k hk (fun e => h2 (by cases e; rfl))
                have HOK9 : Aside0 (∀ y ∈ xs ++ [x], TOk w9 (fun b => W.heap.size ≤ b ∧ b ≠ g7) y) := ⟨fun y hy => by
                  rcases List.mem_append.mp hy with hy | hy
                  · refine (HOK.out y hy).move (Nat.le_trans HG67.out.size H69s) (fun b hb hl => ?_) fun b hb hl => ⟨hb.1, hne7 b (Nat.lt_of_lt_of_le hl HG67.out.size) hb.2.1⟩
                    exact (H69 b (Nat.lt_of_lt_of_le hl HG67.out.size) hb.2.1 hb.2.2).trans (HG67.out.block b hl fun e => hb.2.2 (by cases e; rfl))
                  · rw [List.mem_singleton.mp hy]
                    have hx5 : TOk w5 (fun b => wr.heap.size ≤ b) x := ⟨by rw [HXE.out, HX2.out]; exact HT5.out, by rw [HX2.out]; exact HS5.out⟩
                    have hap : ∀ b, wr.heap.size ≤ b → some b ≠ (Value.slice (some ⟨g6, 0, none⟩) xl c6).ownBlock := fun b hb e => by
                      obtain ⟨cs, h⟩ := Kd.R_typed HV.out b e.symm
                      have := YtdbbcngmnpejnaaDoorW.PrintWords.blk_lt h
                      omega
                    have hbg : ∀ b, wr.heap.size ≤ b → b ≠ g := fun b hb e => by have := HR.out.lt; omega
                    refine hx5.move (Nat.le_trans HP.out.2.size H69s) (fun b hb hl => ?_) fun b hb hl => ⟨Nat.le_trans HW8.out hb, hne7 b (Nat.lt_of_lt_of_le hl HP.out.2.size) (hap b hb)⟩
                    exact (H69 b (Nat.lt_of_lt_of_le hl HP.out.2.size) (hap b hb) (hbg b hb)).trans (H56 b hl (hbg b hb))⟩
                have HG9 := Aside0.mk (grown_two (grown_two (grown_row (grown_two HG.out HG67.out) HG7.out fun j hj => Kd.R_base HV6.out j hj) HG8.out) HP8.out.2)
                have HT9 : Aside0 (TabAt w9) := ⟨fun j hj => by
                  have h1 := HT.out j hj
                  have hl := World.block_lt_of_cell? W _ h1
                  exact (World.cell?_of_block (HG9.out.block 1 hl (fun e => hg1 (by cases e; rfl)))).trans h1⟩
                have HVT := Aside0.mk (Kd.R_mono HV9.out (ok' := fun _ => True) fun _ _ => trivial)
                clear H69 H56 hne7 H69s
                rcases Nat.eq_zero_or_pos xl with hx0 | hx0
                · have hxe : xs = [] := List.length_eq_zero_iff.mp (by rw [HXL.out]; exact hx0)
                  have hR := HVT.out
                  rw [hxe, hx0, List.nil_append] at hR
                  have HOF := Aside0.mk (of_one hR)
                  have HXO := Aside0.mk (HOK9.out x (by rw [hxe]; simp))
                  subst hx0
                  clear hxe hR
                  go_wp2_with (go_at_call 70; go_must (refine HOF.out.mono ?_; rintro e wa ⟨rfl, rfl⟩))
                  go_ret
                  exact ⟨Or.inr ⟨HZ1.out.symm, encT x, rfl, Or.inr ⟨x.2, (HXO.out.move (Nat.le_refl _) (fun _ _ _ => rfl) fun b hb _ => hb.1).1, HXO.out.2⟩, L6, HP8.out.1⟩, HG9.out⟩
                · have hlen : (xs ++ [x]).length = xl + 1 := by rw [List.length_append, List.length_singleton, HXL.out]
                  have HOF := Aside0.mk (of_many HVT.out hlen.symm (fun y hy => (HOK9.out y hy).move (Nat.le_refl _) (fun _ _ _ => rfl) fun b hb _ => hb.2) HT9.out hg71 (by have := HXB.out; have := HXL.out; omega) (by omega))
                  have HLEN := Aside0.mk hlen
                  clear hx0 hlen
                  go_wp2_with (go_at_call 70; go_must (refine HOF.out.mono ?_; rintro e wa ⟨ys, rfl, hp, hs, hR, hg⟩; have HPY := Aside0.mk hp; have HRY := Aside0.mk hR; have HGY := Aside0.mk hg; clear hp hs hR hg))
                  go_ret
                  have hsm : Small (.node (ys.map (·.2))) := by
                    refine ⟨?_, ?_⟩
                    · obtain ⟨i, hi⟩ := ne_bit (HOK9.out x (by simp)).2.1
                      rw [set_node]
                      exact bit_ne (i := i) (sets_bit.mpr ⟨x.2, List.mem_map.mpr ⟨x, HPY.out.mem_iff.mpr (by simp), rfl⟩, hi⟩)
                    · rw [set_node]
                      exact sets_lt fun t ht => by
                        obtain ⟨z, hz, rfl⟩ := List.mem_map.mp ht
                        exact (HOK9.out z (HPY.out.mem_iff.mp hz)).2
                  exact ⟨Or.inr ⟨HZ1.out.symm, .iface 111 (.agg #[.int .i64 ((BT.sets (ys.map (·.2)) : Nat) : Int), .slice (some ⟨g7, 0, none⟩) (xl + 1) cap7]), rfl, Or.inr ⟨.node (ys.map (·.2)), family_of hgb HRY.out (by rw [HPY.out.length_eq]; exact HLEN.out.symm) HGY.out HOK9.out HPY.out, hsm⟩, L6, YtdbbcngmnpejnaaDoorW.PrintWords.blk_grown HP8.out.1 HGY.out (fun e => hg7g (by cases e; rfl))⟩, grown_row HG9.out HGY.out fun j hj => by cases hj; exact hgb⟩
              · have hz : (q == 41) = false := by rw [beq_eq_false_iff_ne]; exact h41
                by_cases h44 : q = 44
                · have hz2 : (q == 44) = true := by rw [beq_iff_eq]; exact h44
                  clear h41 h44
                  go_wp2_with (go_at_call 84; go_must (refine HTK7.out.mono ?_; rintro e w8 ⟨rfl, hr8, hg8⟩; have HR8 := Aside0.mk hr8; have HG8 := Aside0.mk hg8; clear hr8 hg8))
                  go_roundg 1
                  case measure => omega
                  case rel => exact ⟨_, all ||| t.set, 0, rfl, rfl, or_256 hall HS5.out.2, Nat.le_refl _, ⟨Or.inr ⟨HZ1.out.symm, L6, HR8.out⟩⟩, ⟨grown_two (grown_row (grown_two HG.out HG67.out) HG7.out fun j hj => Kd.R_base HV6.out j hj) HG8.out⟩⟩
                · have hz2 : (q == 44) = false := by rw [beq_eq_false_iff_ne]; exact h44
                  clear h41 h44
                  go_upto_region 14 with (go_at_call 84; go_must (refine HTK7.out.mono ?_; rintro e w8 ⟨rfl, hr8, hg8⟩; have HR8 := Aside0.mk hr8; have HG8 := Aside0.mk hg8; clear hr8 hg8))
                  obtain ⟨k0, k1, k2, k3⟩ := HR8.out.cells
                  have HP8 := Aside0.mk (HR8.out.put false)
                  go_wp2
                  clear k0 k1 k2 k3
                  generalize w8.setCell ⟨g, 1, none⟩ (.bool false) = w9 at HP8 ⊢
                  go_roundg 1
                  case measure => omega
                  case rel => exact ⟨_, all ||| t.set, 0, rfl, rfl, or_256 hall HS5.out.2, Nat.le_refl _, ⟨Or.inr ⟨HZ1.out.symm, L6, HP8.out.1⟩⟩, ⟨grown_two (grown_two (grown_row (grown_two HG.out HG67.out) HG7.out fun j hj => Kd.R_base HV6.out j hj) HG8.out) HP8.out.2⟩⟩
        · have HZ1 : Aside0 (none = Z) := ⟨by rw [← HZ0.out, if_neg (by unfold nextOk; rw [decide_eq_false ha]; simp)]⟩
          have HP := Aside0.mk (HR5.out.put false)
          have HV6 := Aside0.mk (Kd.R_far HV5.out (p := ⟨g, 1, none⟩) (fun k hk => hk) (.bool false))
          have haz : (((t.set &&& all : Nat) : Int) == 0) = false := by rw [beq_eq_false_iff_ne]; omega
          clear ha
          generalize ((t.set &&& all : Nat) : Int) = an at hand haz
          generalize hst : ((t.set : Nat) : Int) = ts at hm hor hand
          go_upto_region 11 with (go_at_call 134; go_must (refine (set_beasts _ _).mono ?_; rintro e w9 ⟨rfl, rfl⟩))
          clear haz hand
          clear e0 e1 e2 e3
          generalize w5.setCell ⟨g, 1, none⟩ (.bool false) = w6 at HP HV6 ⊢
          have HLE : Aside0 (W.heap.size ≤ w6.heap.size) := ⟨Nat.le_trans HW8.out (Nat.le_trans HG5.out.size HP.out.2.size)⟩
          have HRO : Aside0 (∀ k, (Value.slice A6 xl c6).ownBlock = some k → k ≠ g) := ⟨HV.out.1⟩
          go_upto_region 13 with (first | (go_at_call 134; go_must (refine (set_beasts _ _).mono ?_; rintro e w9 ⟨rfl, rfl⟩)) | (at_builtin; go_must (refine Kd.R_append kT (w0 := w6) W.heap.size rfl (.tmp 74) (.tmp 76) 79 69 .nilIface 16 rfl Tryd.underlying79 info69 rfl (by decide) (by decide) (.slice A6 xl c6) xs x [.iface T u] (fun b => b ≠ g) (fun _ => False) rfl rfl (by rw [← HXE.out]; rfl) (fun _ hk => hk.elim) (fun k hk => by have := HP.out.1.lt; omega) HV6.out (Below.refl _ _) HLE.out (by have := HXB.out; omega) ?_; intro v7 w7 ho _ hg7 hat7; have HO7 := Aside0.mk ho; have HG7 := Aside0.mk hg7; have HAT7 := Aside0.mk hat7; clear ho hg7 hat7)))
          have HR7 : Aside0 (RdAt w7 g L5 false) := ⟨YtdbbcngmnpejnaaDoorW.PrintWords.blk_grown HP.out.1 HG7.out (fun e => HRO.out g e.symm rfl)⟩
          have HTK7 := Aside0.mk (take_calls g L5 false w7 HR7.out)
          obtain ⟨q, hq⟩ : ∃ q, takeC L5 = q := ⟨_, rfl⟩
          rw [hq, Bool.false_and] at HTK7
          generalize L5.tail = L6 at HTK7
          clear hq
          have HG67 : Aside0 (wr.grownBy w6 (some g)) := ⟨grown_two HG5.out HP.out.2⟩
          by_cases h41 : q = 41
          · have hz : (q == 41) = true := by rw [beq_iff_eq]; exact h41
            clear h41
            obtain ⟨g7, cap7, hv7, _⟩ := Kd.R_form HO7.out (by simp)
            rw [show (xs ++ [x]).length = xl + 1 by rw [List.length_append, List.length_singleton, HXL.out]] at hv7
            subst hv7
            go_upto_region 16 with (go_at_call 84; go_must (refine HTK7.out.mono ?_; rintro e w8 ⟨rfl, hr8, hg8⟩; have HR8 := Aside0.mk hr8; have HG8 := Aside0.mk hg8; clear hr8 hg8))
            obtain ⟨k0, k1, k2, k3⟩ := HR8.out.cells
            have HP8 := Aside0.mk (HR8.out.put false)
            have HV9 := Aside0.mk (Kd.R_far (Kd.R_grown HO7.out HG8.out fun k hk e => hk (by cases e; rfl)) (p := ⟨g, 1, none⟩) (fun k hk => hk) (.bool false))
            go_upto_region 17 with fail
            clear k0 k1 k2 k3
            generalize w8.setCell ⟨g, 1, none⟩ (.bool false) = w9 at HP8 HV9 ⊢
            have hgb : W.heap.size ≤ g7 := Kd.R_base HV9.out g7 rfl
            have hg7g : g7 ≠ g := HV9.out.1 g7 rfl
            have hg71 : g7 ≠ 1 := by
              have h1 := World.block_lt_of_cell? W _ (HT.out 0 (by decide))
              have h2 : (1 : Nat) < W.heap.size := h1
              omega
            have H69 : ∀ k, k < w6.heap.size → some k ≠ (Value.slice A6 xl c6).ownBlock → k ≠ g → w9.heap[k]? = w6.heap[k]? := fun k hk h1 h2 => by
              have e1 := HG7.out.block k hk h1
              have e2 := HG8.out.block k (Nat.lt_of_lt_of_le hk HG7.out.size) (fun e => h2 (by cases e; rfl))
              have e3 := HP8.out.2.block k (Nat.lt_of_lt_of_le hk (Nat.le_trans HG7.out.size HG8.out.size)) (fun e => h2 (by cases e; rfl))
              exact e3.trans (e2.trans e1)
            have H69s : w6.heap.size ≤ w9.heap.size := Nat.le_trans HG7.out.size (Nat.le_trans HG8.out.size HP8.out.2.size)
            have hne7 : ∀ k, k < w6.heap.size → some k ≠ (Value.slice A6 xl c6).ownBlock → k ≠ g7 := fun k hk hn e => by
              rcases HAT7.out with h | ⟨b', h, hb'⟩
              · exact hn (by rw [← h, e]; rfl)
              · have h3 : some g7 = some b' := h
                cases h3; omega
            have H56 : ∀ k, k < w5.heap.size → k ≠ g → w6.heap[k]? = w5.heap[k]? := fun k hk h2 => HP.out.2.block k hk (fun e => h2 (by cases e; rfl))
            have HOK9 : Aside0 (∀ y ∈ xs ++ [x], TOk w9 (fun b => W.heap.size ≤ b ∧ b ≠ g7) y) := ⟨fun y hy => by
              rcases List.mem_append.mp hy with hy | hy
              · refine (HOK.out y hy).move (Nat.le_trans HG67.out.size H69s) (fun b hb hl => ?_) fun b hb hl => ⟨hb.1, hne7 b (Nat.lt_of_lt_of_le hl HG67.out.size) hb.2.1⟩
                exact (H69 b (Nat.lt_of_lt_of_le hl HG67.out.size) hb.2.1 hb.2.2).trans (HG67.out.block b hl fun e => hb.2.2 (by cases e; rfl))
              · rw [List.mem_singleton.mp hy]
                have hx5 : TOk w5 (fun b => wr.heap.size ≤ b) x := ⟨by rw [HXE.out, HX2.out]; exact HT5.out, by rw [HX2.out]; exact HS5.out⟩
                have hap : ∀ b, wr.heap.size ≤ b → some b ≠ (Value.slice A6 xl c6).ownBlock := fun b hb e => by
                  obtain ⟨cs, h⟩ := Kd.R_typed HV.out b e.symm
                  have := YtdbbcngmnpejnaaDoorW.PrintWords.blk_lt h
                  omega
                have hbg : ∀ b, wr.heap.size ≤ b → b ≠ g := fun b hb e => by have := HR.out.lt; omega
                refine hx5.move (Nat.le_trans HP.out.2.size H69s) (fun b hb hl => ?_) fun b hb hl => ⟨Nat.le_trans HW8.out hb, hne7 b (Nat.lt_of_lt_of_le hl HP.out.2.size) (hap b hb)⟩
                exact (H69 b (Nat.lt_of_lt_of_le hl HP.out.2.size) (hap b hb) (hbg b hb)).trans (H56 b hl (hbg b hb))⟩
            have HG9 := Aside0.mk (grown_two (grown_two (grown_row (grown_two HG.out HG67.out) HG7.out fun j hj => Kd.R_base HV6.out j hj) HG8.out) HP8.out.2)
            have HT9 : Aside0 (TabAt w9) := ⟨fun j hj => by
              have h1 := HT.out j hj
              have hl := World.block_lt_of_cell? W _ h1
              exact (World.cell?_of_block (HG9.out.block 1 hl (fun e => hg1 (by cases e; rfl)))).trans h1⟩
            have HVT := Aside0.mk (Kd.R_mono HV9.out (ok' := fun _ => True) fun _ _ => trivial)
            clear H69 H56 hne7 H69s
            rcases Nat.eq_zero_or_pos xl with hx0 | hx0
            · have hxe : xs = [] := List.length_eq_zero_iff.mp (by rw [HXL.out]; exact hx0)
              have hR := HVT.out
              rw [hxe, hx0, List.nil_append] at hR
              have HOF := Aside0.mk (of_one hR)
              have HXO := Aside0.mk (HOK9.out x (by rw [hxe]; simp))
              subst hx0
              clear hxe hR
              go_wp2_with (go_at_call 70; go_must (refine HOF.out.mono ?_; rintro e wa ⟨rfl, rfl⟩))
              go_ret
              exact ⟨Or.inr ⟨HZ1.out.symm, encT x, rfl, Or.inr ⟨x.2, (HXO.out.move (Nat.le_refl _) (fun _ _ _ => rfl) fun b hb _ => hb.1).1, HXO.out.2⟩, L6, HP8.out.1⟩, HG9.out⟩
            · have hlen : (xs ++ [x]).length = xl + 1 := by rw [List.length_append, List.length_singleton, HXL.out]
              have HOF := Aside0.mk (of_many HVT.out hlen.symm (fun y hy => (HOK9.out y hy).move (Nat.le_refl _) (fun _ _ _ => rfl) fun b hb _ => hb.2) HT9.out hg71 (by have := HXB.out; have := HXL.out; omega) (by omega))
              have HLEN := Aside0.mk hlen
              clear hx0 hlen
              go_wp2_with (go_at_call 70; go_must (refine HOF.out.mono ?_; rintro e wa ⟨ys, rfl, hp, hs, hR, hg⟩; have HPY := Aside0.mk hp; have HRY := Aside0.mk hR; have HGY := Aside0.mk hg; clear hp hs hR hg))
              go_ret
              have hsm : Small (.node (ys.map (·.2))) := by
                refine ⟨?_, ?_⟩
                · obtain ⟨i, hi⟩ := ne_bit (HOK9.out x (by simp)).2.1
                  rw [set_node]
                  exact bit_ne (i := i) (sets_bit.mpr ⟨x.2, List.mem_map.mpr ⟨x, HPY.out.mem_iff.mpr (by simp), rfl⟩, hi⟩)
                · rw [set_node]
                  exact sets_lt fun t ht => by
                    obtain ⟨z, hz, rfl⟩ := List.mem_map.mp ht
                    exact (HOK9.out z (HPY.out.mem_iff.mp hz)).2
              exact ⟨Or.inr ⟨HZ1.out.symm, .iface 111 (.agg #[.int .i64 ((BT.sets (ys.map (·.2)) : Nat) : Int), .slice (some ⟨g7, 0, none⟩) (xl + 1) cap7]), rfl, Or.inr ⟨.node (ys.map (·.2)), family_of hgb HRY.out (by rw [HPY.out.length_eq]; exact HLEN.out.symm) HGY.out HOK9.out HPY.out, hsm⟩, L6, YtdbbcngmnpejnaaDoorW.PrintWords.blk_grown HP8.out.1 HGY.out (fun e => hg7g (by cases e; rfl))⟩, grown_row HG9.out HGY.out fun j hj => by cases hj; exact hgb⟩
          · have hz : (q == 41) = false := by rw [beq_eq_false_iff_ne]; exact h41
            by_cases h44 : q = 44
            · have hz2 : (q == 44) = true := by rw [beq_iff_eq]; exact h44
              clear h41 h44
              go_wp2_with (go_at_call 84; go_must (refine HTK7.out.mono ?_; rintro e w8 ⟨rfl, hr8, hg8⟩; have HR8 := Aside0.mk hr8; have HG8 := Aside0.mk hg8; clear hr8 hg8))
              go_roundg 1
              case measure => omega
              case rel => exact ⟨_, all ||| t.set, 0, rfl, rfl, or_256 hall HS5.out.2, Nat.le_refl _, ⟨Or.inr ⟨HZ1.out.symm, L6, HR8.out⟩⟩, ⟨grown_two (grown_row (grown_two HG.out HG67.out) HG7.out fun j hj => Kd.R_base HV6.out j hj) HG8.out⟩⟩
            · have hz2 : (q == 44) = false := by rw [beq_eq_false_iff_ne]; exact h44
              clear h41 h44
              go_upto_region 14 with (go_at_call 84; go_must (refine HTK7.out.mono ?_; rintro e w8 ⟨rfl, hr8, hg8⟩; have HR8 := Aside0.mk hr8; have HG8 := Aside0.mk hg8; clear hr8 hg8))
              obtain ⟨k0, k1, k2, k3⟩ := HR8.out.cells
              have HP8 := Aside0.mk (HR8.out.put false)
              go_wp2
              clear k0 k1 k2 k3
              generalize w8.setCell ⟨g, 1, none⟩ (.bool false) = w9 at HP8 ⊢
              go_roundg 1
              case measure => omega
              case rel => exact ⟨_, all ||| t.set, 0, rfl, rfl, or_256 hall HS5.out.2, Nat.le_refl _, ⟨Or.inr ⟨HZ1.out.symm, L6, HP8.out.1⟩⟩, ⟨grown_two (grown_two (grown_row (grown_two HG.out HG67.out) HG7.out fun j hj => Kd.R_base HV6.out j hj) HG8.out) HP8.out.2⟩⟩
    · have HZ1 := Aside0.mk hZ1
      have HR := Aside0.mk hR
      obtain ⟨d0, d1, _, _⟩ := hR.cells
      clear HLS hZ1 hR
      go_wp2
      go_ret
      exact ⟨Or.inr ⟨HZ1.out, _, rfl, Or.inl rfl, L1, HR.out⟩, HG.out⟩
/-- The reader's tree. -/
theorem rd_calls (f : Nat) : RdC f := by
  induction f using Nat.strongRecOn with
  | ind f0 IH =>
  match f0, IH with
  | 0, _ => exact fun L g W h => absurd h (by omega)
  | f + 1, IH =>
    intro L g W hf h hT hg1
    cases L with
    | nil =>
      rw [readP]
      exact rd_no g [] W h false rfl 0 rfl (by omega) (fun h => (by cases h))
    | cons c L =>
      rw [readP]
      rw [List.length_cons] at hf
      split
      · rename_i hc
        obtain ⟨i, hi⟩ : ∃ i, c.toNat = 48 + i := ⟨c.toNat - 48, by omega⟩
        rw [show c.toNat - 48 = i by omega]
        exact rd_leaf g c L W h i (by omega) hi
      · rename_i hc
        by_cases h40 : c.toNat = 40
        · rw [if_pos h40]
          exact rd_fam f (fun f' h => IH f' (by omega)) g L W c h40 h hT hg1 (by omega)
        · rw [if_neg h40]
          exact rd_no g (c :: L) W h true (by simp) ((c.toNat : Nat) : Int) rfl (by omega) fun _ e => h40 (by omega)
end Go.Proofs.YtdbbcngmnpejnaaDoor.B

/- breed.parse, walked. -/
namespace Go.Proofs.YtdbbcngmnpejnaaDoor.B
open Go.Proofs.YtdbbcngmnpejnaaDoor.A
open Go.RowKit Go.Proofs.YtdbbcngmnpejnaaDoorW.PrintWords Go.Proofs.YtdbbcngmnpejnaaDoorW.PrintMore
/-- A tree of n beasts, as it is parsed. -/
def parseF (n : Nat) (L : List UInt8) : Option BT := match readP (2 * L.length + 1) L with
  | none => none
  | some (t, L') => if L' = [] ∧ t.set = 2 ^ n - 1 then some t else none
theorem parseF_good {n : Nat} {L : List UInt8} {t : BT} (h : parseF n L = some t) : t.Good ∧ t.set = 2 ^ n - 1 := by
  unfold parseF at h
  cases hr : readP (2 * L.length + 1) L with
  | none => rw [hr] at h; cases h
  | some q =>
    obtain ⟨u, L'⟩ := q
    rw [hr] at h
    dsimp only at h
    split at h
    · rename_i h2
      cases h
      exact ⟨((read_goods _).1 _ _ _ hr).1, h2.2⟩
    · cases h
set_option maxRecDepth 100000 in
set_option maxHeartbeats 3200000 in
/-- breed.parse. -/
theorem parse_calls (n : Nat) (h1 : 1 ≤ n) (h8 : n ≤ 8) (L : List UInt8) (W : World) (hT : TabAt W) : Calls Tryd.prog 61 #[.int .i64 n, .string (strB L)] W (TreePost (parseF n L) W) := by
  have HT := Aside0.mk hT
  have HTW : Aside0 (1 < W.heap.size) := ⟨World.block_lt_of_cell? W _ (hT 0 (by decide))⟩
  obtain ⟨Z, hZ⟩ : ∃ Z, parseF n L = Z := ⟨_, rfl⟩
  rw [hZ]
  unfold parseF at hZ
  have HZ := Aside0.mk hZ
  have hp := pow_256 h8
  have hp2 : 2 ≤ 2 ^ n := by
    obtain ⟨m', rfl⟩ : ∃ m', n = m' + 1 := ⟨n - 1, by omega⟩
    have := Nat.two_pow_pos m'
    rw [Nat.pow_succ]; omega
  have hw1 := wrap_pow h8
  have hw2 := wrap64_pow h8
  generalize hN : 2 ^ n = N at hp hp2 hw1 hw2 HZ
  have HA2 : Aside0 (Below W.heap.size W (W.alloc (.cells #[.string (strB L), .bool true] 116))) := ⟨(Below.refl _ _).alloc (Nat.le_refl _) _⟩
  have HR2 : Aside0 (RdAt (W.alloc (.cells #[.string (strB L), .bool true] 116)) W.heap.size L true) := ⟨heap_alloc_new W _⟩
  generalize hsb : strB L = sb at HA2 HR2 ⊢
  clear hT hZ
  go_enter Tryd.func61, Tryd.ntmps61
  go_upto_region 2 with fail
  generalize W.alloc (.cells #[.string sb, .bool true] 116) = W2 at HA2 HR2 ⊢
  have HC := Aside0.mk (rd_calls (2 * L.length + 1) L W.heap.size W2 (Nat.le_refl _) HR2.out (HT.out.next HA2.out) (by have := HTW.out; omega))
  have HC2 : Aside0 (Calls Tryd.prog 77 #[.pointer (some ⟨W.heap.size, 0, none⟩)] W2 fun e w' => ∃ v, e = .returned v ∧ RdPost (readP (2 * L.length + 1) L) W.heap.size W2 (.returned v) w') := ⟨HC.out.mono (by
    rintro e w' ⟨⟨t, L', v, h1, rfl, h2⟩ | ⟨h1, v, rfl, h2⟩, h3⟩
    · exact ⟨v, rfl, Or.inl ⟨t, L', v, h1, rfl, h2⟩, h3⟩
    · exact ⟨v, rfl, Or.inr ⟨h1, v, rfl, h2⟩, h3⟩)⟩
  clear HC
  go_upto_region 3 with (go_at_call 77; go_must (refine HC2.out.mono ?_; rintro e w3 ⟨v3, rfl, hcase, hg3⟩; have HG3 := Aside0.mk hg3; clear hg3))
  have HB3 : Aside0 (Below W.heap.size W w3) := ⟨⟨HG3.out.os.trans HA2.out.os, HG3.out.tape.trans HA2.out.tape, HG3.out.output.trans HA2.out.output, Nat.le_trans HA2.out.size HG3.out.size, fun k hk => (HG3.out.block k (Nat.lt_of_lt_of_le hk HA2.out.size) (fun e => by cases e; omega)).trans (HA2.out.block k hk)⟩⟩
  have HD3 : Aside0 (Below W.heap.size W w3.drew) := ⟨below_drew HB3.out⟩
  rcases hcase with ⟨t, L', v, hr, hv, ht, hR⟩ | ⟨hr, v, hv, hnt, L', hR⟩
  · cases hv
    have HTV : Aside0 (TrV w3.drew (fun b => W.heap.size ≤ b) v3 t) := ⟨TrV.move (W := w3) (W' := w3.drew) (Nat.le_refl _) (fun _ _ _ => rfl) (fun b hb _ => Nat.le_trans HA2.out.size hb) ht⟩
    obtain ⟨T, u, rfl, hm⟩ := ht.ask
    have HSM := Aside0.mk ((read_goods _).1 _ _ _ hr).1.small
    have HZ2 : Aside0 ((if L' = [] ∧ t.set = N - 1 then some t else none) = Z) := ⟨by have h := HZ.out; rw [hr] at h; exact h⟩
    obtain ⟨c0, c1, _, _⟩ := hR.cells
    clear ht hr HZ hR hN HR2 HC2
    cases L' with
    | nil =>
      obtain ⟨sl, hsl⟩ : ∃ sl, strB [] = sl := ⟨_, rfl⟩
      have hie : sl.toList.isEmpty = true := by rw [← hsl, strB_toList]; rfl
      rw [hsl] at c0
      clear hsl
      obtain ⟨P, hP⟩ : ∃ P : Int, ((N : Nat) : Int) = P := ⟨_, rfl⟩
      have hpb : 2 ≤ P ∧ P ≤ 256 := by omega
      obtain ⟨ts, hts⟩ : ∃ ts : Int, ((t.set : Nat) : Int) = ts := ⟨_, rfl⟩
      rw [hP] at hw1 hw2
      rw [hts] at hm
      by_cases hq : t.set = N - 1
      · have HZ3 : Aside0 (some t = Z) := ⟨by rw [← HZ2.out, if_pos ⟨rfl, hq⟩]⟩
        have hqz : (ts != IntKind.i64.wrap (P - 1)) = false := by rw [wrap64_nat (P - 1) (by omega) (by omega), bne_eq_false_iff_eq]; omega
        clear hq hts hP hp hp2
        refine wp_region_noPanic ?_
        refine wp_region_held_drew (S := fun w' => w'.cell? ⟨W.heap.size, 0, none⟩ = some (.string sl) ∧ w'.cell? ⟨W.heap.size, 1, none⟩ = some (.bool true)) (by kernel_rfl) (⟨c0, c1⟩) (fun hHeld => ?_)
        refine H_on 0 10 ?vc0 rfl rfl (by kernel_rfl) (by kernel_rfl) (by kernel_rfl) (by rfl) ?hc0 hHeld ?rc0
        case hc0 => (intro w hSw; obtain ⟨s0, s1⟩ := hSw; go_simp <;> with_reducible rfl)
        simp only [Act.put, List.setIfInBounds_toArray, List.set_cons_zero, List.set_cons_succ]
        refine H_on 1 11 ?vc1 rfl rfl (by kernel_rfl) (by kernel_rfl) (by kernel_rfl) (by rfl) ?hc1 hHeld ?rc1
        case hc1 => (intro w hSw; obtain ⟨s0, s1⟩ := hSw; go_simp <;> with_reducible rfl)
        simp only [Act.put, List.setIfInBounds_toArray, List.set_cons_zero, List.set_cons_succ]
        refine H_on 2 12 ?vc2 rfl rfl (by kernel_rfl) (by kernel_rfl) (by kernel_rfl) (by rfl) ?hc2 hHeld ?rc2
        case hc2 => (intro w hSw; obtain ⟨s0, s1⟩ := hSw; go_simp <;> with_reducible rfl)
        simp only [Act.put, List.setIfInBounds_toArray, List.set_cons_zero, List.set_cons_succ]
        refine H_on 3 13 ?vc3 rfl rfl (by kernel_rfl) (by kernel_rfl) (by kernel_rfl) (by rfl) ?hc3 hHeld ?rc3
        case hc3 => (intro w hSw; obtain ⟨s0, s1⟩ := hSw; go_simp <;> with_reducible rfl)
        simp only [Act.put, List.setIfInBounds_toArray, List.set_cons_zero, List.set_cons_succ]
        refine H_on 4 14 ?vc4 rfl rfl (by kernel_rfl) (by kernel_rfl) (by kernel_rfl) (by rfl) ?hc4 hHeld ?rc4
        case hc4 => (intro w hSw; obtain ⟨s0, s1⟩ := hSw; go_simp <;> with_reducible rfl)
        simp only [Act.put, List.setIfInBounds_toArray, List.set_cons_zero, List.set_cons_succ]
        refine H_on 5 15 ?vc5 rfl rfl (by kernel_rfl) (by kernel_rfl) (by kernel_rfl) (by rfl) ?hc5 hHeld ?rc5
        case hc5 => (intro w hSw; obtain ⟨s0, s1⟩ := hSw; go_simp <;> with_reducible rfl)
        simp only [Act.put, List.setIfInBounds_toArray, List.set_cons_zero, List.set_cons_succ]
        refine H_on 6 16 ?vc6 rfl rfl (by kernel_rfl) (by kernel_rfl) (by kernel_rfl) (by rfl) ?hc6 hHeld ?rc6
        case hc6 => (intro w hSw; obtain ⟨s0, s1⟩ := hSw; go_simp <;> with_reducible rfl)
        simp only [Act.put, List.setIfInBounds_toArray, List.set_cons_zero, List.set_cons_succ]
        refine H_on 7 17 ?vc7 rfl rfl (by kernel_rfl) (by kernel_rfl) (by kernel_rfl) (by rfl) ?hc7 hHeld ?rc7
        case hc7 => (intro w hSw; obtain ⟨s0, s1⟩ := hSw; go_simp <;> with_reducible rfl)
        simp only [Act.put, List.setIfInBounds_toArray, List.set_cons_zero, List.set_cons_succ]
        refine H_on 8 18 ?vc8 rfl rfl (by kernel_rfl) (by kernel_rfl) (by kernel_rfl) (by rfl) ?hc8 hHeld ?rc8
        case hc8 => (intro w hSw; obtain ⟨s0, s1⟩ := hSw; go_simp <;> with_reducible rfl)
        simp only [Act.put, List.setIfInBounds_toArray, List.set_cons_zero, List.set_cons_succ]
        refine H_on 9 19 ?vc9 rfl rfl (by kernel_rfl) (by kernel_rfl) (by kernel_rfl) (by rfl) ?hc9 hHeld ?rc9
        case hc9 => (intro w hSw; obtain ⟨s0, s1⟩ := hSw; go_simp <;> with_reducible rfl)
        simp only [Act.put, List.setIfInBounds_toArray, List.set_cons_zero, List.set_cons_succ]
        refine H_on 10 20 ?vc10 rfl rfl (by kernel_rfl) (by kernel_rfl) (by kernel_rfl) (by rfl) ?hc10 hHeld ?rc10
        case hc10 => (intro w hSw; obtain ⟨s0, s1⟩ := hSw; go_simp <;> with_reducible rfl)
        simp only [Act.put, List.setIfInBounds_toArray, List.set_cons_zero, List.set_cons_succ]
        refine H_on 11 21 ?vc11 rfl rfl (by kernel_rfl) (by kernel_rfl) (by kernel_rfl) (by rfl) ?hc11 hHeld ?rc11
        case hc11 => (intro w hSw; obtain ⟨s0, s1⟩ := hSw; go_simp <;> with_reducible rfl)
        simp only [Act.put, List.setIfInBounds_toArray, List.set_cons_zero, List.set_cons_succ]
        refine H_on 12 22 ?vc12 rfl rfl (by kernel_rfl) (by kernel_rfl) (by kernel_rfl) (by rfl) ?hc12 hHeld ?rc12
        case hc12 => (intro w hSw; obtain ⟨s0, s1⟩ := hSw; go_simp <;> with_reducible rfl)
        simp only [Act.put, List.setIfInBounds_toArray, List.set_cons_zero, List.set_cons_succ]
        refine H_on 13 23 ?vc13 rfl rfl (by kernel_rfl) (by kernel_rfl) (by kernel_rfl) (by rfl) ?hc13 hHeld ?rc13
        case hc13 => (intro w hSw; obtain ⟨s0, s1⟩ := hSw; go_simp <;> with_reducible rfl)
        simp only [Act.put, List.setIfInBounds_toArray, List.set_cons_zero, List.set_cons_succ]
        refine H_on 15 25 ?vc15 rfl rfl (by kernel_rfl) (by kernel_rfl) (by kernel_rfl) (by rfl) ?hc15 hHeld ?rc15
        case hc15 => (intro w hSw; obtain ⟨s0, s1⟩ := hSw; go_simp <;> with_reducible rfl)
        simp only [Act.put, List.setIfInBounds_toArray, List.set_cons_zero, List.set_cons_succ]
        refine H_on 16 26 ?vc16 rfl rfl (by kernel_rfl) (by kernel_rfl) (by kernel_rfl) (by rfl) ?hc16 hHeld ?rc16
        case hc16 => (intro w hSw; obtain ⟨s0, s1⟩ := hSw; go_simp <;> with_reducible rfl)
        simp only [Act.put, List.setIfInBounds_toArray, List.set_cons_zero, List.set_cons_succ]
        refine H_on 17 27 ?vc17 rfl rfl (by kernel_rfl) (by kernel_rfl) (by kernel_rfl) (by rfl) ?hc17 hHeld ?rc17
        case hc17 => (intro w hSw; obtain ⟨s0, s1⟩ := hSw; go_simp <;> with_reducible rfl)
        simp only [Act.put, List.setIfInBounds_toArray, List.set_cons_zero, List.set_cons_succ]
        refine wpAnyH_ready (rs := [14]) (by kernel_rfl) (by simp) ?_
        refine AllReadyH.cons rfl (fun K hK => ?_) AllReadyH.nil
        go_simp
        refine (set_beasts _ _).mono ?_
        rintro e w5 ⟨rfl, rfl⟩
        go_wp2_with fail
        refine hK.out _ _ (⟨c0, c1⟩) (fun hHeld => ?_)
        clear hK K
        try simp only [Act.put, List.setIfInBounds_toArray, List.set_cons_zero, List.set_cons_succ]
        refine H_on 18 28 ?vc18 rfl rfl (by kernel_rfl) (by kernel_rfl) (by kernel_rfl) (by rfl) ?hc18 hHeld ?rc18
        case hc18 => (intro w hSw; obtain ⟨s0, s1⟩ := hSw; go_simp <;> with_reducible rfl)
        simp only [Act.put, List.setIfInBounds_toArray, List.set_cons_zero, List.set_cons_succ]
        refine H_on 19 29 ?vc19 rfl rfl (by kernel_rfl) (by kernel_rfl) (by kernel_rfl) (by rfl) ?hc19 hHeld ?rc19
        case hc19 => (intro w hSw; obtain ⟨s0, s1⟩ := hSw; go_simp <;> with_reducible rfl)
        simp only [Act.put, List.setIfInBounds_toArray, List.set_cons_zero, List.set_cons_succ]
        refine wpAnyH_done (by kernel_rfl) ?_ _
        refine NoPanic.normal ?_
        clear hHeld
        go_wp2
        go_ret
        exact ⟨Or.inr ⟨t, .iface T u, HZ3.out.symm, rfl, HTV.out⟩, HD3.out⟩
      · have HZ3 : Aside0 (none = Z) := ⟨by rw [← HZ2.out, if_neg (fun h => hq h.2)]⟩
        have hqz : (ts != IntKind.i64.wrap (P - 1)) = true := by rw [wrap64_nat (P - 1) (by omega) (by omega), bne_iff_ne]; omega
        clear hq hts hP hp hp2
        refine wp_region_noPanic ?_
        refine wp_region_held_drew (S := fun w' => w'.cell? ⟨W.heap.size, 0, none⟩ = some (.string sl) ∧ w'.cell? ⟨W.heap.size, 1, none⟩ = some (.bool true)) (by kernel_rfl) (⟨c0, c1⟩) (fun hHeld => ?_)
        refine H_on 0 10 ?vd0 rfl rfl (by kernel_rfl) (by kernel_rfl) (by kernel_rfl) (by rfl) ?hd0 hHeld ?rd0
        case hd0 => (intro w hSw; obtain ⟨s0, s1⟩ := hSw; go_simp <;> with_reducible rfl)
        simp only [Act.put, List.setIfInBounds_toArray, List.set_cons_zero, List.set_cons_succ]
        refine H_on 1 11 ?vd1 rfl rfl (by kernel_rfl) (by kernel_rfl) (by kernel_rfl) (by rfl) ?hd1 hHeld ?rd1
        case hd1 => (intro w hSw; obtain ⟨s0, s1⟩ := hSw; go_simp <;> with_reducible rfl)
        simp only [Act.put, List.setIfInBounds_toArray, List.set_cons_zero, List.set_cons_succ]
        refine H_on 2 12 ?vd2 rfl rfl (by kernel_rfl) (by kernel_rfl) (by kernel_rfl) (by rfl) ?hd2 hHeld ?rd2
        case hd2 => (intro w hSw; obtain ⟨s0, s1⟩ := hSw; go_simp <;> with_reducible rfl)
        simp only [Act.put, List.setIfInBounds_toArray, List.set_cons_zero, List.set_cons_succ]
        refine H_on 3 13 ?vd3 rfl rfl (by kernel_rfl) (by kernel_rfl) (by kernel_rfl) (by rfl) ?hd3 hHeld ?rd3
        case hd3 => (intro w hSw; obtain ⟨s0, s1⟩ := hSw; go_simp <;> with_reducible rfl)
        simp only [Act.put, List.setIfInBounds_toArray, List.set_cons_zero, List.set_cons_succ]
        refine H_on 4 14 ?vd4 rfl rfl (by kernel_rfl) (by kernel_rfl) (by kernel_rfl) (by rfl) ?hd4 hHeld ?rd4
        case hd4 => (intro w hSw; obtain ⟨s0, s1⟩ := hSw; go_simp <;> with_reducible rfl)
        simp only [Act.put, List.setIfInBounds_toArray, List.set_cons_zero, List.set_cons_succ]
        refine H_on 5 15 ?vd5 rfl rfl (by kernel_rfl) (by kernel_rfl) (by kernel_rfl) (by rfl) ?hd5 hHeld ?rd5
        case hd5 => (intro w hSw; obtain ⟨s0, s1⟩ := hSw; go_simp <;> with_reducible rfl)
        simp only [Act.put, List.setIfInBounds_toArray, List.set_cons_zero, List.set_cons_succ]
        refine H_on 6 16 ?vd6 rfl rfl (by kernel_rfl) (by kernel_rfl) (by kernel_rfl) (by rfl) ?hd6 hHeld ?rd6
        case hd6 => (intro w hSw; obtain ⟨s0, s1⟩ := hSw; go_simp <;> with_reducible rfl)
        simp only [Act.put, List.setIfInBounds_toArray, List.set_cons_zero, List.set_cons_succ]
        refine H_on 7 17 ?vd7 rfl rfl (by kernel_rfl) (by kernel_rfl) (by kernel_rfl) (by rfl) ?hd7 hHeld ?rd7
        case hd7 => (intro w hSw; obtain ⟨s0, s1⟩ := hSw; go_simp <;> with_reducible rfl)
        simp only [Act.put, List.setIfInBounds_toArray, List.set_cons_zero, List.set_cons_succ]
        refine H_on 8 18 ?vd8 rfl rfl (by kernel_rfl) (by kernel_rfl) (by kernel_rfl) (by rfl) ?hd8 hHeld ?rd8
        case hd8 => (intro w hSw; obtain ⟨s0, s1⟩ := hSw; go_simp <;> with_reducible rfl)
        simp only [Act.put, List.setIfInBounds_toArray, List.set_cons_zero, List.set_cons_succ]
        refine H_on 9 19 ?vd9 rfl rfl (by kernel_rfl) (by kernel_rfl) (by kernel_rfl) (by rfl) ?hd9 hHeld ?rd9
        case hd9 => (intro w hSw; obtain ⟨s0, s1⟩ := hSw; go_simp <;> with_reducible rfl)
        simp only [Act.put, List.setIfInBounds_toArray, List.set_cons_zero, List.set_cons_succ]
        refine H_on 10 20 ?vd10 rfl rfl (by kernel_rfl) (by kernel_rfl) (by kernel_rfl) (by rfl) ?hd10 hHeld ?rd10
        case hd10 => (intro w hSw; obtain ⟨s0, s1⟩ := hSw; go_simp <;> with_reducible rfl)
        simp only [Act.put, List.setIfInBounds_toArray, List.set_cons_zero, List.set_cons_succ]
        refine H_on 11 21 ?vd11 rfl rfl (by kernel_rfl) (by kernel_rfl) (by kernel_rfl) (by rfl) ?hd11 hHeld ?rd11
        case hd11 => (intro w hSw; obtain ⟨s0, s1⟩ := hSw; go_simp <;> with_reducible rfl)
        simp only [Act.put, List.setIfInBounds_toArray, List.set_cons_zero, List.set_cons_succ]
        refine H_on 12 22 ?vd12 rfl rfl (by kernel_rfl) (by kernel_rfl) (by kernel_rfl) (by rfl) ?hd12 hHeld ?rd12
        case hd12 => (intro w hSw; obtain ⟨s0, s1⟩ := hSw; go_simp <;> with_reducible rfl)
        simp only [Act.put, List.setIfInBounds_toArray, List.set_cons_zero, List.set_cons_succ]
        refine H_on 13 23 ?vd13 rfl rfl (by kernel_rfl) (by kernel_rfl) (by kernel_rfl) (by rfl) ?hd13 hHeld ?rd13
        case hd13 => (intro w hSw; obtain ⟨s0, s1⟩ := hSw; go_simp <;> with_reducible rfl)
        simp only [Act.put, List.setIfInBounds_toArray, List.set_cons_zero, List.set_cons_succ]
        refine H_on 15 25 ?vd15 rfl rfl (by kernel_rfl) (by kernel_rfl) (by kernel_rfl) (by rfl) ?hd15 hHeld ?rd15
        case hd15 => (intro w hSw; obtain ⟨s0, s1⟩ := hSw; go_simp <;> with_reducible rfl)
        simp only [Act.put, List.setIfInBounds_toArray, List.set_cons_zero, List.set_cons_succ]
        refine H_on 16 26 ?vd16 rfl rfl (by kernel_rfl) (by kernel_rfl) (by kernel_rfl) (by rfl) ?hd16 hHeld ?rd16
        case hd16 => (intro w hSw; obtain ⟨s0, s1⟩ := hSw; go_simp <;> with_reducible rfl)
        simp only [Act.put, List.setIfInBounds_toArray, List.set_cons_zero, List.set_cons_succ]
        refine H_on 17 27 ?vd17 rfl rfl (by kernel_rfl) (by kernel_rfl) (by kernel_rfl) (by rfl) ?hd17 hHeld ?rd17
        case hd17 => (intro w hSw; obtain ⟨s0, s1⟩ := hSw; go_simp <;> with_reducible rfl)
        simp only [Act.put, List.setIfInBounds_toArray, List.set_cons_zero, List.set_cons_succ]
        refine wpAnyH_ready (rs := [14]) (by kernel_rfl) (by simp) ?_
        refine AllReadyH.cons rfl (fun K hK => ?_) AllReadyH.nil
        go_simp
        refine (set_beasts _ _).mono ?_
        rintro e w5 ⟨rfl, rfl⟩
        go_wp2_with fail
        refine hK.out _ _ (⟨c0, c1⟩) (fun hHeld => ?_)
        clear hK K
        try simp only [Act.put, List.setIfInBounds_toArray, List.set_cons_zero, List.set_cons_succ]
        refine H_on 18 28 ?vd18 rfl rfl (by kernel_rfl) (by kernel_rfl) (by kernel_rfl) (by rfl) ?hd18 hHeld ?rd18
        case hd18 => (intro w hSw; obtain ⟨s0, s1⟩ := hSw; go_simp <;> with_reducible rfl)
        simp only [Act.put, List.setIfInBounds_toArray, List.set_cons_zero, List.set_cons_succ]
        refine H_on 19 29 ?vd19 rfl rfl (by kernel_rfl) (by kernel_rfl) (by kernel_rfl) (by rfl) ?hd19 hHeld ?rd19
        case hd19 => (intro w hSw; obtain ⟨s0, s1⟩ := hSw; go_simp <;> with_reducible rfl)
        simp only [Act.put, List.setIfInBounds_toArray, List.set_cons_zero, List.set_cons_succ]
        refine wpAnyH_done (by kernel_rfl) ?_ _
        refine NoPanic.normal ?_
        clear hHeld
        go_wp2
        go_ret
        exact ⟨Or.inl ⟨HZ3.out.symm, rfl⟩, HD3.out⟩
    | cons c L' =>
      have HZ3 : Aside0 (none = Z) := ⟨by rw [← HZ2.out, if_neg (fun h => by cases h.1)]⟩
      obtain ⟨sl, hsl⟩ : ∃ sl, strB (c :: L') = sl := ⟨_, rfl⟩
      have hie : sl.toList.isEmpty = false := by rw [← hsl, strB_toList]; rfl
      rw [hsl] at c0
      clear hsl
      refine wp_region_noPanic ?_
      refine wp_region_held_drew (S := fun w' => w'.cell? ⟨W.heap.size, 0, none⟩ = some (.string sl) ∧ w'.cell? ⟨W.heap.size, 1, none⟩ = some (.bool true)) (by kernel_rfl) (⟨c0, c1⟩) (fun hHeld => ?_)
      refine H_on 0 10 ?vb0 rfl rfl (by kernel_rfl) (by kernel_rfl) (by kernel_rfl) (by rfl) ?hb0 hHeld ?rb0
      case hb0 => (intro w hSw; obtain ⟨s0, s1⟩ := hSw; go_simp <;> with_reducible rfl)
      simp only [Act.put, List.setIfInBounds_toArray, List.set_cons_zero, List.set_cons_succ]
      refine H_on 1 11 ?vb1 rfl rfl (by kernel_rfl) (by kernel_rfl) (by kernel_rfl) (by rfl) ?hb1 hHeld ?rb1
      case hb1 => (intro w hSw; obtain ⟨s0, s1⟩ := hSw; go_simp <;> with_reducible rfl)
      simp only [Act.put, List.setIfInBounds_toArray, List.set_cons_zero, List.set_cons_succ]
      refine H_on 2 12 ?vb2 rfl rfl (by kernel_rfl) (by kernel_rfl) (by kernel_rfl) (by rfl) ?hb2 hHeld ?rb2
      case hb2 => (intro w hSw; obtain ⟨s0, s1⟩ := hSw; go_simp <;> with_reducible rfl)
      simp only [Act.put, List.setIfInBounds_toArray, List.set_cons_zero, List.set_cons_succ]
      refine H_on 3 13 ?vb3 rfl rfl (by kernel_rfl) (by kernel_rfl) (by kernel_rfl) (by rfl) ?hb3 hHeld ?rb3
      case hb3 => (intro w hSw; obtain ⟨s0, s1⟩ := hSw; go_simp <;> with_reducible rfl)
      simp only [Act.put, List.setIfInBounds_toArray, List.set_cons_zero, List.set_cons_succ]
      refine H_on 4 14 ?vb4 rfl rfl (by kernel_rfl) (by kernel_rfl) (by kernel_rfl) (by rfl) ?hb4 hHeld ?rb4
      case hb4 => (intro w hSw; obtain ⟨s0, s1⟩ := hSw; go_simp <;> with_reducible rfl)
      simp only [Act.put, List.setIfInBounds_toArray, List.set_cons_zero, List.set_cons_succ]
      refine H_on 5 15 ?vb5 rfl rfl (by kernel_rfl) (by kernel_rfl) (by kernel_rfl) (by rfl) ?hb5 hHeld ?rb5
      case hb5 => (intro w hSw; obtain ⟨s0, s1⟩ := hSw; go_simp <;> with_reducible rfl)
      simp only [Act.put, List.setIfInBounds_toArray, List.set_cons_zero, List.set_cons_succ]
      refine H_on 6 16 ?vb6 rfl rfl (by kernel_rfl) (by kernel_rfl) (by kernel_rfl) (by rfl) ?hb6 hHeld ?rb6
      case hb6 => (intro w hSw; obtain ⟨s0, s1⟩ := hSw; go_simp <;> with_reducible rfl)
      simp only [Act.put, List.setIfInBounds_toArray, List.set_cons_zero, List.set_cons_succ]
      refine H_on 7 17 ?vb7 rfl rfl (by kernel_rfl) (by kernel_rfl) (by kernel_rfl) (by rfl) ?hb7 hHeld ?rb7
      case hb7 => (intro w hSw; obtain ⟨s0, s1⟩ := hSw; go_simp <;> with_reducible rfl)
      simp only [Act.put, List.setIfInBounds_toArray, List.set_cons_zero, List.set_cons_succ]
      refine H_on 8 18 ?vb8 rfl rfl (by kernel_rfl) (by kernel_rfl) (by kernel_rfl) (by rfl) ?hb8 hHeld ?rb8
      case hb8 => (intro w hSw; obtain ⟨s0, s1⟩ := hSw; go_simp <;> with_reducible rfl)
      simp only [Act.put, List.setIfInBounds_toArray, List.set_cons_zero, List.set_cons_succ]
      refine H_on 9 19 ?vb9 rfl rfl (by kernel_rfl) (by kernel_rfl) (by kernel_rfl) (by rfl) ?hb9 hHeld ?rb9
      case hb9 => (intro w hSw; obtain ⟨s0, s1⟩ := hSw; go_simp <;> with_reducible rfl)
      simp only [Act.put, List.setIfInBounds_toArray, List.set_cons_zero, List.set_cons_succ]
      refine H_on 10 20 ?vb10 rfl rfl (by kernel_rfl) (by kernel_rfl) (by kernel_rfl) (by rfl) ?hb10 hHeld ?rb10
      case hb10 => (intro w hSw; obtain ⟨s0, s1⟩ := hSw; go_simp <;> with_reducible rfl)
      simp only [Act.put, List.setIfInBounds_toArray, List.set_cons_zero, List.set_cons_succ]
      refine H_on 11 21 ?vb11 rfl rfl (by kernel_rfl) (by kernel_rfl) (by kernel_rfl) (by rfl) ?hb11 hHeld ?rb11
      case hb11 => (intro w hSw; obtain ⟨s0, s1⟩ := hSw; go_simp <;> with_reducible rfl)
      simp only [Act.put, List.setIfInBounds_toArray, List.set_cons_zero, List.set_cons_succ]
      refine H_on 12 22 ?vb12 rfl rfl (by kernel_rfl) (by kernel_rfl) (by kernel_rfl) (by rfl) ?hb12 hHeld ?rb12
      case hb12 => (intro w hSw; obtain ⟨s0, s1⟩ := hSw; go_simp <;> with_reducible rfl)
      simp only [Act.put, List.setIfInBounds_toArray, List.set_cons_zero, List.set_cons_succ]
      refine H_off 13 23 rfl rfl (by kernel_rfl) (by kernel_rfl) (by kernel_rfl) (by rfl) hHeld ?_
      simp only [Act.put, List.setIfInBounds_toArray, List.set_cons_zero, List.set_cons_succ]
      refine H_off 14 24 rfl rfl (by kernel_rfl) (by kernel_rfl) (by kernel_rfl) (by rfl) hHeld ?_
      simp only [Act.put, List.setIfInBounds_toArray, List.set_cons_zero, List.set_cons_succ]
      refine H_off 15 25 rfl rfl (by kernel_rfl) (by kernel_rfl) (by kernel_rfl) (by rfl) hHeld ?_
      simp only [Act.put, List.setIfInBounds_toArray, List.set_cons_zero, List.set_cons_succ]
      refine H_off 16 26 rfl rfl (by kernel_rfl) (by kernel_rfl) (by kernel_rfl) (by rfl) hHeld ?_
      simp only [Act.put, List.setIfInBounds_toArray, List.set_cons_zero, List.set_cons_succ]
      refine H_off 17 27 rfl rfl (by kernel_rfl) (by kernel_rfl) (by kernel_rfl) (by rfl) hHeld ?_
      simp only [Act.put, List.setIfInBounds_toArray, List.set_cons_zero, List.set_cons_succ]
      refine H_off 18 28 rfl rfl (by kernel_rfl) (by kernel_rfl) (by kernel_rfl) (by rfl) hHeld ?_
      simp only [Act.put, List.setIfInBounds_toArray, List.set_cons_zero, List.set_cons_succ]
      refine H_on 19 29 ?vb19 rfl rfl (by kernel_rfl) (by kernel_rfl) (by kernel_rfl) (by rfl) ?hb19 hHeld ?rb19
      case hb19 => (intro w hSw; obtain ⟨s0, s1⟩ := hSw; go_simp <;> with_reducible rfl)
      simp only [Act.put, List.setIfInBounds_toArray, List.set_cons_zero, List.set_cons_succ]
      refine wpAnyH_done (by kernel_rfl) ?_ _
      refine NoPanic.normal ?_
      clear hHeld
      go_wp2
      go_ret
      exact ⟨Or.inl ⟨HZ3.out.symm, rfl⟩, HD3.out⟩
  · cases hv
    have HZ2 : Aside0 (none = Z) := ⟨by have h := HZ.out; rw [hr] at h; exact h⟩
    obtain ⟨c0, c1, _, _⟩ := hR.cells
    clear hr HZ hR hnt
    refine wp_region_noPanic ?_
    refine wp_region_held_drew (S := fun w' => w'.cell? ⟨W.heap.size, 1, none⟩ = some (.bool false)) (by kernel_rfl) (c1) (fun hHeld => ?_)
    refine H_on 0 10 ?va0 rfl rfl (by kernel_rfl) (by kernel_rfl) (by kernel_rfl) (by rfl) ?ha0 hHeld ?ra0
    case ha0 => (intro w hSw; have s1 := hSw; go_simp <;> with_reducible rfl)
    simp only [Act.put, List.setIfInBounds_toArray, List.set_cons_zero, List.set_cons_succ]
    refine H_on 1 11 ?va1 rfl rfl (by kernel_rfl) (by kernel_rfl) (by kernel_rfl) (by rfl) ?ha1 hHeld ?ra1
    case ha1 => (intro w hSw; have s1 := hSw; go_simp <;> with_reducible rfl)
    simp only [Act.put, List.setIfInBounds_toArray, List.set_cons_zero, List.set_cons_succ]
    refine H_on 2 12 ?va2 rfl rfl (by kernel_rfl) (by kernel_rfl) (by kernel_rfl) (by rfl) ?ha2 hHeld ?ra2
    case ha2 => (intro w hSw; have s1 := hSw; go_simp <;> with_reducible rfl)
    simp only [Act.put, List.setIfInBounds_toArray, List.set_cons_zero, List.set_cons_succ]
    refine H_on 3 13 ?va3 rfl rfl (by kernel_rfl) (by kernel_rfl) (by kernel_rfl) (by rfl) ?ha3 hHeld ?ra3
    case ha3 => (intro w hSw; have s1 := hSw; go_simp <;> with_reducible rfl)
    simp only [Act.put, List.setIfInBounds_toArray, List.set_cons_zero, List.set_cons_succ]
    refine H_off 4 14 rfl rfl (by kernel_rfl) (by kernel_rfl) (by kernel_rfl) (by rfl) hHeld ?_
    simp only [Act.put, List.setIfInBounds_toArray, List.set_cons_zero, List.set_cons_succ]
    refine H_off 5 15 rfl rfl (by kernel_rfl) (by kernel_rfl) (by kernel_rfl) (by rfl) hHeld ?_
    simp only [Act.put, List.setIfInBounds_toArray, List.set_cons_zero, List.set_cons_succ]
    refine H_on 6 16 ?va6 rfl rfl (by kernel_rfl) (by kernel_rfl) (by kernel_rfl) (by rfl) ?ha6 hHeld ?ra6
    case ha6 => (intro w hSw; have s1 := hSw; go_simp <;> with_reducible rfl)
    simp only [Act.put, List.setIfInBounds_toArray, List.set_cons_zero, List.set_cons_succ]
    refine H_on 7 17 ?va7 rfl rfl (by kernel_rfl) (by kernel_rfl) (by kernel_rfl) (by rfl) ?ha7 hHeld ?ra7
    case ha7 => (intro w hSw; have s1 := hSw; go_simp <;> with_reducible rfl)
    simp only [Act.put, List.setIfInBounds_toArray, List.set_cons_zero, List.set_cons_succ]
    refine H_off 8 18 rfl rfl (by kernel_rfl) (by kernel_rfl) (by kernel_rfl) (by rfl) hHeld ?_
    simp only [Act.put, List.setIfInBounds_toArray, List.set_cons_zero, List.set_cons_succ]
    refine H_off 9 19 rfl rfl (by kernel_rfl) (by kernel_rfl) (by kernel_rfl) (by rfl) hHeld ?_
    simp only [Act.put, List.setIfInBounds_toArray, List.set_cons_zero, List.set_cons_succ]
    refine H_off 10 20 rfl rfl (by kernel_rfl) (by kernel_rfl) (by kernel_rfl) (by rfl) hHeld ?_
    simp only [Act.put, List.setIfInBounds_toArray, List.set_cons_zero, List.set_cons_succ]
    refine H_on 11 21 ?va11 rfl rfl (by kernel_rfl) (by kernel_rfl) (by kernel_rfl) (by rfl) ?ha11 hHeld ?ra11
    case ha11 => (intro w hSw; have s1 := hSw; go_simp <;> with_reducible rfl)
    simp only [Act.put, List.setIfInBounds_toArray, List.set_cons_zero, List.set_cons_succ]
    refine H_on 12 22 ?va12 rfl rfl (by kernel_rfl) (by kernel_rfl) (by kernel_rfl) (by rfl) ?ha12 hHeld ?ra12
    case ha12 => (intro w hSw; have s1 := hSw; go_simp <;> with_reducible rfl)
    simp only [Act.put, List.setIfInBounds_toArray, List.set_cons_zero, List.set_cons_succ]
    refine H_off 13 23 rfl rfl (by kernel_rfl) (by kernel_rfl) (by kernel_rfl) (by rfl) hHeld ?_
    simp only [Act.put, List.setIfInBounds_toArray, List.set_cons_zero, List.set_cons_succ]
    refine H_off 14 24 rfl rfl (by kernel_rfl) (by kernel_rfl) (by kernel_rfl) (by rfl) hHeld ?_
    simp only [Act.put, List.setIfInBounds_toArray, List.set_cons_zero, List.set_cons_succ]
    refine H_off 15 25 rfl rfl (by kernel_rfl) (by kernel_rfl) (by kernel_rfl) (by rfl) hHeld ?_
    simp only [Act.put, List.setIfInBounds_toArray, List.set_cons_zero, List.set_cons_succ]
    refine H_off 16 26 rfl rfl (by kernel_rfl) (by kernel_rfl) (by kernel_rfl) (by rfl) hHeld ?_
    simp only [Act.put, List.setIfInBounds_toArray, List.set_cons_zero, List.set_cons_succ]
    refine H_off 17 27 rfl rfl (by kernel_rfl) (by kernel_rfl) (by kernel_rfl) (by rfl) hHeld ?_
    simp only [Act.put, List.setIfInBounds_toArray, List.set_cons_zero, List.set_cons_succ]
    refine H_off 18 28 rfl rfl (by kernel_rfl) (by kernel_rfl) (by kernel_rfl) (by rfl) hHeld ?_
    simp only [Act.put, List.setIfInBounds_toArray, List.set_cons_zero, List.set_cons_succ]
    refine H_on 19 29 ?va19 rfl rfl (by kernel_rfl) (by kernel_rfl) (by kernel_rfl) (by rfl) ?ha19 hHeld ?ra19
    case ha19 => (intro w hSw; have s1 := hSw; go_simp <;> with_reducible rfl)
    simp only [Act.put, List.setIfInBounds_toArray, List.set_cons_zero, List.set_cons_succ]
    refine wpAnyH_done (by kernel_rfl) ?_ _
    refine NoPanic.normal ?_
    clear hHeld
    go_wp2
    go_ret
    exact ⟨Or.inl ⟨HZ2.out.symm, rfl⟩, HD3.out⟩
end Go.Proofs.YtdbbcngmnpejnaaDoor.B

/- breed.read, walked. -/
namespace Go.Proofs.YtdbbcngmnpejnaaDoor.B
open Go.Proofs.YtdbbcngmnpejnaaDoor.A
open Go.RowKit Go.Proofs.YtdbbcngmnpejnaaDoorW.PrintWords Go.Proofs.YtdbbcngmnpejnaaDoorW.PrintMore
def readE (n : Int) (Ls : List (List UInt8)) : Option (List BT) := if 1 ≤ n ∧ n ≤ 8 then mapO (parseF n.toNat) Ls else none
def errT (n : Int) : Int := if 1 ≤ n ∧ n ≤ 8 then 5 else 2
def ReadPost (Z : Option (List BT)) (E : Int) (W : World) (e : Ending) (w' : World) : Prop :=
  ((Z = none ∧ e = .returned (.tuple #[.slice none 0 0, .int .i64 E])) ∨
   ∃ (v : Value) (xs : List TT), Z = some (xs.map (·.2)) ∧ e = .returned (.tuple #[v, .int .i64 0]) ∧ kT.R 69 w' W.heap.size (fun _ => True) v xs ∧ ∀ x ∈ xs, TOk w' (fun b => W.heap.size ≤ b ∧ some b ≠ v.ownBlock) x) ∧ Below W.heap.size W w'
theorem herd_calls (n : Int) (w : World) : Calls Tryd.prog 40 #[.int .i64 n] w fun e w' => e = .returned (.bool (decide (1 ≤ n ∧ n ≤ 8))) ∧ Below w.heap.size w w' := by
  have h : breed_herd.f n = some (decide (1 ≤ n ∧ n ≤ 8)) := by
    unfold breed_herd.f
    by_cases h1 : n ≥ 1
    · rw [if_pos h1]
      congr 1
      simp only [decide_eq_decide]
      omega
    · rw [if_neg h1, decide_eq_false (by omega)]
  exact (breed_herd.calls n _ w h).mono fun _ _ ⟨p, q⟩ => ⟨p, q.below⟩

set_option maxRecDepth 100000 in
set_option maxHeartbeats 3200000 in
/-- breed.read. -/
theorem read_calls (n : Int) (b c : Nat) (Ls : List (List UInt8)) (W : World) (hL : Ls.length ≤ 8) (hc : ∀ j L, Ls[j]? = some L → W.cell? ⟨b, j, none⟩ = some (.string (strB L))) (hT : TabAt W) :
    Calls Tryd.prog 52 #[.int .i64 n, .slice (some ⟨b, 0, none⟩) Ls.length c] W (ReadPost (readE n Ls) (errT n) W) := by
  have HH := Aside0.mk (herd_calls n W)
  have HT := Aside0.mk hT
  have HC := Aside0.mk hc
  obtain ⟨m, hm⟩ : ∃ m, Ls.length = m := ⟨_, rfl⟩
  rw [hm] at hL ⊢
  have HM := Aside0.mk hm
  obtain ⟨Z, hZ⟩ : ∃ Z, readE n Ls = Z := ⟨_, rfl⟩
  rw [hZ]
  obtain ⟨E, hE⟩ : ∃ E, errT n = E := ⟨_, rfl⟩
  rw [hE]
  unfold errT at hE
  unfold readE at hZ
  clear hc hm hT
  by_cases hn : 1 ≤ n ∧ n ≤ 8
  · rw [if_pos hn] at hZ
    rw [decide_eq_true hn] at HH
    rw [if_pos hn] at hE
    have HE := Aside0.mk hE
    clear hE
    obtain ⟨n', hn'⟩ : ∃ n' : Nat, n = n' := ⟨n.toNat, by omega⟩
    subst hn'
    rw [Int.toNat_natCast] at hZ
    have HZ := Aside0.mk hZ
    have HN : Aside0 (1 ≤ n' ∧ n' ≤ 8) := ⟨by omega⟩
    clear hn hZ
    go_enter Tryd.func52, Tryd.ntmps52
    go_upto_region 5 with (go_at_call 40; go_must (refine HH.out.mono ?_; rintro e w1 ⟨rfl, hb1⟩; have HB1 := Aside0.mk hb1; clear hb1))
    go_loopg [6, 8, 9, 15] m (fun gg v6 _ _ v15 wr => ∃ (k : Nat) (vo : Value) (xs : List TT), k ≤ m ∧ m - k ≤ gg ∧ v15 = .int .i64 k ∧ vo = v6 ∧ xs.length = k ∧ Aside0 (kT.R 69 wr W.heap.size (fun _ => True) vo xs) ∧ Aside0 (∀ i, i < k → parseF n' (Ls.getD i []) = some (xs.getD i default).2) ∧ Aside0 (∀ x ∈ xs, TOk wr (fun b => W.heap.size ≤ b ∧ some b ≠ vo.ownBlock) x) ∧ Aside0 (Below W.heap.size W wr))
    case atStart => exact ⟨0, _, [], Nat.zero_le _, by omega, rfl, rfl, rfl, ⟨Kd.R_nil _ _ _ _ _⟩, ⟨fun i h => absurd h (Nat.not_lt_zero _)⟩, ⟨fun x h => (by cases h)⟩, HB1⟩
    case round =>
      obtain ⟨k, vo, xs, hk, hgg, rfl, hvo, hxk, HV, HBX, HOK, HB⟩ := hrel
      subst hvo
      by_cases hkm : k < m
      · have hkz : (k : Int) < (m : Int) := by omega
        have hky : k < Ls.length := by rw [HM.out]; exact hkm
        have hget : Ls[k]? = some (Ls.getD k []) := by rw [List.getD_eq_getElem?_getD, List.getElem?_eq_getElem hky]; rfl
        have hc0 := HC.out k _ hget
        have hbl : b < W.heap.size := World.block_lt_of_cell? W _ hc0
        have hx : wr.cell? ⟨b, k, none⟩ = some (.string (strB (Ls.getD k []))) := (World.cell?_of_block (HB.out.block b hbl)).trans hc0
        have hcall := parse_calls n' HN.out.1 HN.out.2 (Ls.getD k []) wr (HT.out.next HB.out)
        have HMEM : Aside0 (Ls.getD k [] ∈ Ls) := ⟨getD_mem [] hky⟩
        obtain ⟨y, hy⟩ : ∃ y, Ls.getD k [] = y := ⟨_, rfl⟩
        have HY := Aside0.mk hy
        rw [hy] at hx hcall HMEM
        obtain ⟨sb, hsb⟩ : ∃ sb, strB y = sb := ⟨_, rfl⟩
        rw [hsb] at hx hcall
        clear hget hc0 hbl hy hsb hky
        cases hb : parseF n' y with
        | none =>
          rw [hb] at hcall
          have HC2 : Aside0 (Calls Tryd.prog 61 #[.int .i64 n', .string sb] wr fun e w' => e = .returned .nilIface ∧ Below wr.heap.size wr w') := ⟨hcall.mono (by
            rintro e w' ⟨⟨_, rfl⟩ | ⟨t, v, h, _⟩, hb⟩
            · exact ⟨rfl, hb⟩
            · cases h)⟩
          have HZ3 : Aside0 (none = Z) := ⟨by rw [← HZ.out, mapO_none.mpr ⟨y, HMEM.out, hb⟩]⟩
          clear hcall hb
          go_wp2_with (go_at_call 61; go_must (refine HC2.out.mono ?_; rintro e w5 ⟨rfl, hb5⟩; have HB5 := Aside0.mk (below_then HB.out HB.out.size hb5); clear hb5))
          go_ret2
          exact ⟨Or.inl ⟨HZ3.out.symm, by rw [← HE.out]; rfl⟩, HB5.out⟩
        | some t =>
          rw [hb] at hcall
          have HC2 : Aside0 (Calls Tryd.prog 61 #[.int .i64 n', .string sb] wr fun e w' => ∃ v, e = .returned v ∧ TrV w' (fun b => wr.heap.size ≤ b) v t ∧ Below wr.heap.size wr w') := ⟨hcall.mono (by
            rintro e w' ⟨⟨h, _⟩ | ⟨t', v, h, rfl, ht⟩, hb⟩
            · cases h
            · cases h; exact ⟨v, rfl, ht, hb⟩)⟩
          have HBP := Aside0.mk hb
          have HGT := Aside0.mk (parseF_good hb).1
          clear hcall hb
          have hxm : xs.length ≤ 8 := by omega
          have hown : ∀ g, vo.ownBlock = some g → g < wr.heap.size := fun g hg => by
            obtain ⟨cs, h⟩ := Kd.R_typed HV.out g hg
            exact YtdbbcngmnpejnaaDoorW.PrintWords.blk_lt h
          have HOWN := Aside0.mk hown
          obtain ⟨A6, c6, hv6, _, _⟩ := Kd.R_reads HV.out
          rw [hxk] at hv6
          subst hv6
          clear hown
          go_wp2_with (first
            | (go_at_call 61; go_must (refine HC2.out.mono ?_; rintro e w5 ⟨v5, rfl, htv, hb5⟩; obtain ⟨T, u, rfl, _⟩ := htv.ask; have HTV := Aside0.mk htv; have HB5 := Aside0.mk hb5; have HBW5 := Aside0.mk (below_then HB.out HB.out.size hb5); have HV5 := Aside0.mk (Kd.R_below HV.out hb5); obtain ⟨x, hx2, hxe⟩ := htv.tok; have HX2 := Aside0.mk hx2; have HXE := Aside0.mk hxe; clear htv hb5 hx2 hxe))
            | (at_builtin; go_must (refine Kd.R_append kT (w0 := W) W.heap.size rfl (.tmp 24) (.tmp 26) 79 69 .nilIface 16 rfl Tryd.underlying79 info69 rfl (by decide) (by decide) (.slice A6 k c6) xs x [.iface T u] (fun _ => True) (fun _ => False) rfl rfl (by rw [← HXE.out]; rfl) (fun _ hk => hk.elim) (fun _ _ => trivial) HV5.out HBW5.out HBW5.out.size (by omega) ?_; intro v6 w6 ho hb6 hg6 hat6; have HO6 := Aside0.mk ho; have HB6 := Aside0.mk hb6; have HG6 := Aside0.mk hg6; have HAT6 := Aside0.mk hat6; clear ho hb6 hg6 hat6)))
          go_roundg (m - (k + 1))
          case measure => omega
          case rel =>
            refine ⟨k + 1, _, xs ++ [x], by omega, by omega, by go_num, rfl, by rw [List.length_append, List.length_singleton]; omega, HO6, ⟨fun i hi => ?_⟩, ⟨fun y hy => ?_⟩, HB6⟩
            · by_cases e : i < k
              · rw [HBX.out i e, List.getD_eq_getElem?_getD, List.getD_eq_getElem?_getD, List.getElem?_append_left (by omega)]
              · have e2 : i = k := by omega
                subst e2
                rw [HY.out, HBP.out, List.getD_eq_getElem?_getD, List.getElem?_append_right (by omega), hxk, Nat.sub_self]
                show some t = some x.2
                rw [HX2.out]
            · have hgw : w5.heap.size ≤ w6.heap.size := HG6.out.size
              have hne : ∀ b, b < w5.heap.size → some b ≠ (Value.slice A6 k c6).ownBlock → some b ≠ v6.ownBlock := fun b hb hn e => by
                rcases HAT6.out with h | ⟨b', h, hb'⟩
                · rw [h] at e; exact hn e
                · rw [h] at e; cases e; omega
              rcases List.mem_append.mp hy with hy | hy
              · exact ((HOK.out y hy).below HB5.out).move hgw (fun b hb hl => HG6.out.block b hl hb.2) fun b hb hl => ⟨hb.1, hne b hl hb.2⟩
              · rw [List.mem_singleton.mp hy]
                have hx5 : TOk w5 (fun b => wr.heap.size ≤ b) x := ⟨by rw [HXE.out, HX2.out]; exact HTV.out, by rw [HX2.out]; exact HGT.out.small⟩
                have hap : ∀ b, wr.heap.size ≤ b → some b ≠ (Value.slice A6 k c6).ownBlock := fun b hb e => by have := HOWN.out b e.symm; omega
                exact hx5.move hgw (fun b hb hl => HG6.out.block b hl (hap b hb)) fun b hb hl => ⟨Nat.le_trans HB.out.size hb, hne b hl (hap b hb)⟩
      · have hkz : ¬ (k : Int) < (m : Int) := by omega
        have HZ3 : Aside0 (some (xs.map (·.2)) = Z) := ⟨by
          rw [← HZ.out]
          refine (mapO_some.mpr ?_).symm
          refine List.ext_getElem (by rw [List.length_map, List.length_map, List.length_map, HM.out]; omega) fun i h1 h2 => ?_
          rw [List.length_map] at h1
          have h3 := HBX.out i (by rw [HM.out] at h1; omega)
          have h4 : i < xs.length := by simpa using h2
          rw [List.getD_eq_getElem?_getD, List.getElem?_eq_getElem h1, List.getD_eq_getElem?_getD, List.getElem?_eq_getElem h4] at h3
          simpa using h3⟩
        go_wp2
        go_ret2
        exact ⟨Or.inr ⟨_, xs, HZ3.out.symm, rfl, HV.out, HOK.out⟩, HB.out⟩
  · rw [if_neg hn] at hZ
    rw [decide_eq_false hn] at HH
    rw [if_neg hn] at hE
    have HE := Aside0.mk hE
    clear hE
    subst hZ
    clear hn
    go_enter Tryd.func52, Tryd.ntmps52
    go_wp2_with (go_at_call 40; go_must (refine HH.out.mono ?_; rintro e w1 ⟨rfl, hb1⟩; have HB1 := Aside0.mk hb1; clear hb1))
    go_ret2
    exact ⟨Or.inl ⟨rfl, by rw [← HE.out]; rfl⟩, HB1.out⟩
end Go.Proofs.YtdbbcngmnpejnaaDoor.B

/- breed.kept, walked. -/
namespace Go.Proofs.YtdbbcngmnpejnaaDoor.A
open Go.RowKit Go.Proofs.YtdbbcngmnpejnaaDoorW.PrintWords Go.Proofs.YtdbbcngmnpejnaaDoorW.PrintMore
def KeptC (s : Nat) (t : BT) : Prop := t.Good → ∀ (ok : Nat → Prop) (v : Value) (W : World), TrV W ok v t → TabAt W → Calls Tryd.prog 53 #[v, .int .i64 (s : Int)] W (TreePost (t.kept s) W)
set_option maxRecDepth 100000 in
set_option maxHeartbeats 1600000 in
theorem kept_leafC (s : Nat) (hs : s < 256) (i : Nat) (hi : i < 8) (W : World) : Calls Tryd.prog 53 #[.iface 102 (.agg #[.int .i64 ((2 ^ i : Nat) : Int)]), .int .i64 (s : Int)] W (TreePost ((BT.leaf i).kept s) W) := by
  have hm := meth_leaf ((2 ^ i : Nat) : Int)
  have ht := ta_leaf ((2 ^ i : Nat) : Int)
  have ha : bits .and .i64 ((2 ^ i : Nat) : Int) (s : Int) = ((2 ^ i &&& s : Nat) : Int) := and64 _ _ (by have := two_256 hi; omega) (by omega)
  obtain ⟨Z, hZ⟩ : ∃ Z, (BT.leaf i).kept s = Z := ⟨_, rfl⟩
  rw [hZ]
  rw [BT.kept] at hZ
  have HV : Aside0 (∀ w, TrV w (fun b => W.heap.size ≤ b) (.iface 102 (.agg #[.int .i64 ((2 ^ i : Nat) : Int)])) (.leaf i)) := ⟨fun w => trv_leaf.mpr rfl⟩
  by_cases h : 2 ^ i &&& s = 0
  · rw [if_pos h] at hZ
    rw [h] at ha
    have HZ := Aside0.mk hZ
    generalize ((2 ^ i : Nat) : Int) = q at *
    clear hZ h
    go_enter Tryd.func53, Tryd.ntmps53
    go_wp2_with (go_at_call 134; go_must (refine (set_beasts _ _).mono ?_; rintro e w1 ⟨rfl, rfl⟩))
    go_ret
    exact ⟨Or.inl ⟨HZ.out.symm, rfl⟩, Below.refl _ _⟩
  · rw [if_neg h] at hZ
    have hb : (((2 ^ i &&& s : Nat) : Int) == 0) = false := by rw [beq_eq_false_iff_ne]; omega
    have HZ := Aside0.mk hZ
    generalize ((2 ^ i &&& s : Nat) : Int) = a at ha hb
    generalize ((2 ^ i : Nat) : Int) = q at *
    clear hZ h
    go_enter Tryd.func53, Tryd.ntmps53
    go_wp2_with (go_at_call 134; go_must (refine (set_beasts _ _).mono ?_; rintro e w1 ⟨rfl, rfl⟩))
    go_ret
    exact ⟨Or.inr ⟨_, _, HZ.out.symm, rfl, HV.out _⟩, Below.refl _ _⟩
set_option maxRecDepth 100000 in
set_option maxHeartbeats 3200000 in
theorem kept_nodeC (s : Nat) (_hs : s < 256) (ks : List BT) (IH : ∀ k ∈ ks, KeptC s k) (hg : (BT.node ks).Good) (ok : Nat → Prop) (v : Value) (W : World) (hv : TrV W ok v (.node ks)) (hT : TabAt W) :
    Calls Tryd.prog 53 #[v, .int .i64 (s : Int)] W (TreePost ((BT.node ks).kept s) W) := by
  obtain ⟨g, c, rfl, hc, hgl, hk⟩ := trv_node.mp hv
  obtain ⟨Z, hZ⟩ : ∃ Z, (BT.node ks).kept s = Z := ⟨_, rfl⟩
  rw [hZ]
  have HZ : Aside0 (ofB (BT.keptL s ks) = Z) := ⟨by rw [← hZ, BT.kept]⟩
  have HG := Aside0.mk (good_node.mp hg).2.1
  have HKG := Aside0.mk (keptL_good (s := s) hg)
  have HKL := Aside0.mk (keptL_len s ks)
  have HKD := Aside0.mk (keptL_disj s (good_node.mp hg).2.1 ((good_node.mp hg).2.2.imp fun h => h.1))
  have HK := Aside0.mk hk
  have HIH := Aside0.mk IH
  have HT := Aside0.mk hT
  have HTW : Aside0 (1 < W.heap.size) := ⟨World.block_lt_of_cell? W _ (hT 0 (by decide))⟩
  have hml := kids_le hg
  obtain ⟨n, hn⟩ : ∃ n, ks.length = n := ⟨_, rfl⟩
  obtain ⟨q, hq⟩ : ∃ q : Int, ((BT.sets ks : Nat) : Int) = q := ⟨_, rfl⟩
  have HN := Aside0.mk hn
  have ht := fun w => ta_node q (.slice (some ⟨g, 0, none⟩) n c) w
  have qT : ∀ (w : World) (a : Option Addr) (n c n' c' : Nat), (binOp .eql 79 (.slice a n c) (.slice none n' c')).run Tryd.prog w = .ok (.bool a.isNone) w := fun w a n c n' c' => Lib.run_eql_slice_nil w _ _ a n c n' c' Tryd.underlying79
  rw [hn, hq]
  rw [hn] at hml
  have hgl2 := hgl.2
  clear hv hk hg IH hZ hc hn hgl hT hq
  go_enter Tryd.func53, Tryd.ntmps53
  go_upto_region 6 with fail
  clear ht
  have HB0 : Aside0 (Below W.heap.size W (W.alloc (.cells #[.int .i64 q, .slice (some ⟨g, 0, none⟩) n c] 111))) := ⟨(Below.refl _ _).alloc (Nat.le_refl _) _⟩
  generalize W.alloc (.cells #[.int .i64 q, .slice (some ⟨g, 0, none⟩) n c] 111) = W2 at HB0 ⊢
  go_loopg [6, 8, 9, 17] n (fun gg v6 _ _ v17 wr => ∃ (k : Nat) (vo : Value) (xs : List TT), k ≤ n ∧ n - k ≤ gg ∧ v17 = .int .i64 k ∧ vo = v6 ∧ xs.length ≤ k ∧ Aside0 (xs = [] → vo = .slice none 0 0) ∧ Aside0 (kT.R 69 wr W.heap.size (fun _ => True) vo xs) ∧ Aside0 (BT.keptL s (ks.take k) = xs.map (·.2)) ∧ Aside0 (∀ x ∈ xs, TOk wr (fun b => W.heap.size ≤ b ∧ some b ≠ vo.ownBlock) x) ∧ Aside0 (Below W.heap.size W wr))
  case atStart => exact ⟨0, _, [], Nat.zero_le _, by omega, rfl, rfl, Nat.le_refl _, ⟨fun _ => rfl⟩, ⟨Kd.R_nil _ _ _ _ _⟩, ⟨by rw [List.take_zero, BT.keptL]; rfl⟩, ⟨fun x h => (by cases h)⟩, HB0⟩
  case round =>
    clear HB0
    obtain ⟨k, vo, xs, hk, hgg, rfl, hvo, hxk, HNI, HV, HX, HOK, HB⟩ := hrel
    subst hvo
    obtain ⟨xl, hxl⟩ : ∃ xl, xs.length = xl := ⟨_, rfl⟩
    have HXL := Aside0.mk hxl
    rw [hxl] at hxk
    obtain ⟨A6, c6, hv6, _, _⟩ := Kd.R_reads HV.out
    rw [hxl] at hv6
    subst hv6
    clear hxl
    by_cases hkn : k < n
    · have hkz : (k : Int) < (n : Int) := by omega
      have hky : k < ks.length := by rw [HN.out]; exact hkn
      obtain ⟨v, hc1, htv⟩ := HK.out k (ks.getD k default) (by rw [List.getD_eq_getElem?_getD, List.getElem?_eq_getElem hky]; rfl)
      have hm1 : ks.getD k default ∈ ks := getD_mem default hky
      have hTK : ks.take (k + 1) = ks.take k ++ [ks.getD k default] := by
        rw [List.take_add_one, List.getElem?_eq_getElem hky, List.getD_eq_getElem?_getD, List.getElem?_eq_getElem hky]; rfl
      have HTK : Aside0 (BT.keptL s (ks.take (k + 1)) = xs.map (·.2) ++ (match (ks.getD k default).kept s with | none => [] | some t => [t])) := ⟨by rw [hTK, keptL_snoc, HX.out]; cases (ks.getD k default).kept s <;> rfl⟩
      have hcall := HIH.out _ hm1 (HG.out _ hm1) ok v wr (htv.below HB.out) (HT.out.next HB.out)
      have HGD := Aside0.mk (kept_spec s _ (HG.out _ hm1)).1
      obtain ⟨T, u, rfl, _⟩ := htv.ask
      have hx : wr.cell? ⟨g, k, none⟩ = some (.iface T u) := (World.cell?_of_block (HB.out.block g hgl2)).trans hc1
      clear hc1 htv hm1 hTK
      generalize ks.getD k default = y at *
      cases hb : y.kept s with
      | none =>
        rw [hb] at hcall HTK
        have HC : Aside0 (Calls Tryd.prog 53 #[.iface T u, .int .i64 (s : Int)] wr fun e w' => e = .returned .nilIface ∧ Below wr.heap.size wr w') := ⟨hcall.mono (by
          rintro e w' ⟨⟨_, rfl⟩ | ⟨t, v, h, _⟩, hb⟩
          · exact ⟨rfl, hb⟩
          · cases h)⟩
        have HTK2 : Aside0 (BT.keptL s (ks.take (k + 1)) = xs.map (·.2)) := ⟨by have := HTK.out; rwa [List.append_nil] at this⟩
        clear hcall hb HTK
        go_wp2_with (go_at_call 53; go_must (refine HC.out.mono ?_; rintro e w5 ⟨rfl, hb5⟩; have HB5 := Aside0.mk hb5; have HBW5 := Aside0.mk (below_then HB.out HB.out.size hb5); have HV5 := Aside0.mk (Kd.R_below HV.out hb5); clear hb5))
        go_roundg (n - (k + 1))
        case measure => omega
        case rel => exact ⟨k + 1, _, xs, by omega, by omega, by go_num, rfl, by have := HXL.out; omega, HNI, HV5, HTK2, ⟨fun x hx => (HOK.out x hx).below HB5.out⟩, HBW5⟩
      | some t =>
        rw [hb] at hcall HTK
        have HC : Aside0 (Calls Tryd.prog 53 #[.iface T u, .int .i64 (s : Int)] wr fun e w' => ∃ v, e = .returned v ∧ TrV w' (fun b => wr.heap.size ≤ b) v t ∧ Below wr.heap.size wr w') := ⟨hcall.mono (by
          rintro e w' ⟨⟨h, _⟩ | ⟨t', v, h, rfl, ht⟩, hb⟩
          · cases h
          · cases h; exact ⟨v, rfl, ht, hb⟩)⟩
        have HGT := Aside0.mk (HGD.out t hb).1
        have hown : ∀ g, (Value.slice A6 xl c6).ownBlock = some g → g < wr.heap.size := fun g hg => by
          obtain ⟨cs, h⟩ := Kd.R_typed HV.out g hg
          exact YtdbbcngmnpejnaaDoorW.PrintWords.blk_lt h
        have HOWN := Aside0.mk hown
        clear hcall hb hown
        go_wp2_with (first
          | (go_at_call 53; go_must (refine HC.out.mono ?_; rintro e w5 ⟨v5, rfl, htv, hb5⟩; obtain ⟨T2, u2, rfl, _⟩ := htv.ask; have HTV := Aside0.mk htv; have HB5 := Aside0.mk hb5; have HBW5 := Aside0.mk (below_then HB.out HB.out.size hb5); have HV5 := Aside0.mk (Kd.R_below HV.out hb5); obtain ⟨x, hx2, hxe⟩ := htv.tok; have HX2 := Aside0.mk hx2; have HXE := Aside0.mk hxe; clear htv hb5 hx2 hxe))
          | (at_builtin; go_must (refine Kd.R_append kT (w0 := W) W.heap.size rfl (.tmp 26) (.tmp 28) 79 69 .nilIface 16 rfl Tryd.underlying79 info69 rfl (by decide) (by decide) (.slice A6 xl c6) xs x [.iface T2 u2] (fun _ => True) (fun _ => False) rfl rfl (by rw [← HXE.out]; rfl) (fun _ hk => hk.elim) (fun _ _ => trivial) HV5.out HBW5.out HBW5.out.size (by rw [HXL.out]; omega) ?_; intro v6 w6 ho hb6 hg6 hat6; have HO6 := Aside0.mk ho; have HB6 := Aside0.mk hb6; have HG6 := Aside0.mk hg6; have HAT6 := Aside0.mk hat6; clear ho hb6 hg6 hat6)))
        go_roundg (n - (k + 1))
        case measure => omega
        case rel =>
          refine ⟨k + 1, _, xs ++ [x], by omega, by omega, by go_num, rfl, by rw [List.length_append, List.length_singleton, HXL.out]; omega, ⟨fun h => absurd h (by simp)⟩, HO6, ⟨by rw [HTK.out, List.map_append, List.map_cons, HX2.out]; rfl⟩, ⟨fun y hy => ?_⟩, HB6⟩
          have hgw : w5.heap.size ≤ w6.heap.size := HG6.out.size
          have hne : ∀ b, b < w5.heap.size → some b ≠ (Value.slice A6 xl c6).ownBlock → some b ≠ v6.ownBlock := fun b hb hn e => by
            rcases HAT6.out with h | ⟨b', h, hb'⟩
            · rw [h] at e; exact hn e
            · rw [h] at e; cases e; omega
          rcases List.mem_append.mp hy with hy | hy
          · exact ((HOK.out y hy).below HB5.out).move hgw (fun b hb hl => HG6.out.block b hl hb.2) fun b hb hl => ⟨hb.1, hne b hl hb.2⟩
          · rw [List.mem_singleton.mp hy]
            have hx5 : TOk w5 (fun b => wr.heap.size ≤ b) x := ⟨by rw [HXE.out, HX2.out]; exact HTV.out, by rw [HX2.out]; exact HGT.out.small⟩
            have hap : ∀ b, wr.heap.size ≤ b → some b ≠ (Value.slice A6 xl c6).ownBlock := fun b hb e => by have := HOWN.out b e.symm; omega
            exact hx5.move hgw (fun b hb hl => HG6.out.block b hl (hap b hb)) fun b hb hl => ⟨Nat.le_trans HB.out.size hb, hne b hl (hap b hb)⟩
    · have hkz : ¬ (k : Int) < (n : Int) := by omega
      have hX : BT.keptL s ks = xs.map (·.2) := by rw [← HX.out, List.take_of_length_le (by rw [HN.out]; omega)]
      have HZ2 : Aside0 (ofB (xs.map (·.2)) = Z) := ⟨by rw [← hX]; exact HZ.out⟩
      have HXD : Aside0 ((xs.map (·.2)).Pairwise fun a b => a.set &&& b.set = 0) := ⟨by rw [← hX]; exact HKD.out⟩
      have HXG : Aside0 (∀ t ∈ xs.map (·.2), t.Good) := ⟨by rw [← hX]; exact HKG.out⟩
      clear hX HX HZ HKD HKG
      rcases Nat.lt_or_ge xl 1 with h0 | h0
      · have hxe : xs = [] := List.length_eq_zero_iff.mp (by have := HXL.out; omega)
        have HZ3 : Aside0 (none = Z) := ⟨by have := HZ2.out; rwa [hxe] at this⟩
        have hnil := HNI.out hxe
        injection hnil with e1 e2 e3
        subst e1 e2 e3
        clear h0 hxe hxk
        go_wp2
        go_ret
        exact ⟨Or.inl ⟨HZ3.out.symm, rfl⟩, HB.out⟩
      · obtain ⟨g3, cap, hv6, _⟩ := Kd.R_form HV.out (by have := HXL.out; omega)
        rw [HXL.out] at hv6
        injection hv6 with e1 e2 e3
        subst e1 e3
        clear e2
        have hgb : W.heap.size ≤ g3 := Kd.R_base HV.out g3 rfl
        have hg1 : g3 ≠ 1 := by have := HTW.out; omega
        have hOK2 : ∀ x ∈ xs, TOk wr (fun b => W.heap.size ≤ b ∧ b ≠ g3) x := fun x hx => (HOK.out x hx).move (Nat.le_refl _) (fun _ _ _ => rfl) fun b hb _ => ⟨hb.1, fun e => hb.2 (by rw [e]; rfl)⟩
        have HOK2 := Aside0.mk hOK2
        by_cases h1 : xl = 1
        · obtain ⟨x, hxe⟩ := List.length_eq_one_iff.mp (HXL.out.trans h1)
          have hR := HV.out
          rw [hxe, h1] at hR
          have HOF := Aside0.mk (of_one hR)
          have HZ3 : Aside0 (some x.2 = Z) := ⟨by have := HZ2.out; rwa [hxe] at this⟩
          have HXO := Aside0.mk (HOK2.out x (by rw [hxe]; exact List.mem_cons_self))
          subst h1
          clear hR hOK2 h0 hxe hxk
          go_wp2_with (go_at_call 70; go_must (refine HOF.out.mono ?_; rintro e w7 ⟨rfl, rfl⟩))
          go_ret
          exact ⟨Or.inr ⟨x.2, encT x, HZ3.out.symm, rfl, (HXO.out.move (Nat.le_refl _) (fun _ _ _ => rfl) fun b hb _ => hb.1).1⟩, HB.out⟩
        · have HOF := Aside0.mk (of_many HV.out HXL.out.symm (fun x hx => (hOK2 x hx).move (Nat.le_refl _) (fun _ _ _ => rfl) fun b hb _ => hb.2) (HT.out.next HB.out) hg1 (by have := HXL.out; omega) (by have := HXL.out; omega))
          have HZ3 : Aside0 (some (.node (sortB (xs.map (·.2)))) = Z) := ⟨by
            have h := HZ2.out
            have hL : (xs.map (·.2)).length = xl := by rw [List.length_map, HXL.out]
            generalize xs.map (·.2) = L at h hL ⊢
            match L, hL, h with
            | [], hL, _ => rw [List.length_nil] at hL; omega
            | [a], hL, _ => rw [List.length_singleton] at hL; omega
            | a :: b :: r, _, h => exact h⟩
          clear hOK2
          go_wp2_with (go_at_call 70; go_must (refine HOF.out.mono ?_; rintro e w7 ⟨ys, rfl, hp, hs, hR, hg⟩; have HP := Aside0.mk hp; have HSS := Aside0.mk hs; have HR7 := Aside0.mk hR; have HG7 := Aside0.mk hg; clear hp hs hR hg))
          go_ret
          have hyt : ys.map (·.2) = sortB (xs.map (·.2)) := order_one ((sortB_strict HXG.out HXD.out).imp fun h => h.2) (by rw [List.pairwise_map]; exact HSS.out) ((HP.out.map _).trans (sortB_perm _).symm)
          refine ⟨Or.inr ⟨.node (ys.map (·.2)), .iface 111 (.agg #[.int .i64 ((BT.sets (ys.map (·.2)) : Nat) : Int), .slice (some ⟨g3, 0, none⟩) xl c6]), by rw [hyt]; exact HZ3.out.symm, rfl, family_of hgb HR7.out (by rw [HP.out.length_eq]; exact HXL.out.symm) HG7.out HOK2.out HP.out⟩, HB.out.grown HG7.out HB.out.size (fun j hj => by cases hj; exact hgb)⟩
/-- breed.kept. -/
theorem kept_calls (s : Nat) (hs : s < 256) (t : BT) : KeptC s t := by
  refine BT.ind (P := KeptC s) (fun i hi ok v W hv hT => ?_) (fun ks ih hg ok v W hv hT => kept_nodeC s hs ks ih hg ok v W hv hT) t
  rw [trv_leaf.mp hv]
  exact kept_leafC s hs i hi W
end Go.Proofs.YtdbbcngmnpejnaaDoor.A

/- breed.Family and breed.Kept, walked. -/
namespace Go.Proofs.YtdbbcngmnpejnaaDoor.B
open Go.Proofs.YtdbbcngmnpejnaaDoor.A
open Go.RowKit Go.Proofs.YtdbbcngmnpejnaaDoorW.PrintWords Go.Proofs.YtdbbcngmnpejnaaDoorW.PrintMore
def parseE (n : Int) (L : List UInt8) : Option BT := if 1 ≤ n ∧ n ≤ 8 then parseF n.toNat L else none
theorem readE_one (n : Int) (L : List UInt8) : readE n [L] = (parseE n L).map fun t => [t] := by
  unfold readE parseE
  by_cases h : 1 ≤ n ∧ n ≤ 8
  · rw [if_pos h, if_pos h, mapO]
    cases parseF n.toNat L with
    | none => rfl
    | some t => rw [mapO]; rfl
  · rw [if_neg h, if_neg h]; rfl
theorem parseE_good {n : Int} {L : List UInt8} {t : BT} (h : parseE n L = some t) : 1 ≤ n ∧ n ≤ 8 ∧ t.Good ∧ t.set = 2 ^ n.toNat - 1 := by
  unfold parseE at h
  by_cases hn : 1 ≤ n ∧ n ≤ 8
  · rw [if_pos hn] at h
    exact ⟨hn.1, hn.2, (parseF_good h).1, (parseF_good h).2⟩
  · rw [if_neg hn] at h; cases h
theorem errT_ne (n : Int) : errT n ≠ 0 := by unfold errT; split <;> decide
/-- What read hands back of one text. -/
theorem read_one (n : Int) (b c : Nat) (L : List UInt8) (W : World) (hc : W.cell? ⟨b, 0, none⟩ = some (.string (strB L))) (hT : TabAt W) :
    Calls Tryd.prog 52 #[.int .i64 n, .slice (some ⟨b, 0, none⟩) 1 c] W fun e w' => ((parseE n L = none ∧ e = .returned (.tuple #[.slice none 0 0, .int .i64 (errT n)])) ∨
      ∃ (t : BT) (g cap : Nat) (T : TypeId) (u : Value), parseE n L = some t ∧ e = .returned (.tuple #[.slice (some ⟨g, 0, none⟩) 1 cap, .int .i64 0]) ∧ w'.cell? ⟨g, 0, none⟩ = some (.iface T u) ∧ TrV w' (fun _ => True) (.iface T u) t) ∧ Below W.heap.size W w' := by
  refine (read_calls n b c [L] W (by simp) (fun j L' h => ?_) hT).mono ?_
  · match j, h with
    | 0, h => cases h; exact hc
  · rintro e w' ⟨⟨h1, rfl⟩ | ⟨v, xs, h1, rfl, hR, hok⟩, hb⟩
    · rw [readE_one] at h1
      have h2 : parseE n L = none := by
        cases h : parseE n L with
        | none => rfl
        | some t => rw [h] at h1; cases h1
      exact ⟨Or.inl ⟨h2, rfl⟩, hb⟩
    · rw [readE_one] at h1
      cases h : parseE n L with
      | none => rw [h] at h1; cases h1
      | some t =>
        rw [h] at h1
        have hx : xs.map (·.2) = [t] := by injection h1 with h1; exact h1.symm
        obtain ⟨x, rfl⟩ := List.length_eq_one_iff.mp (show xs.length = 1 by rw [← List.length_map (f := fun x : TT => x.2), hx]; rfl)
        have ht : x.2 = t := by injection hx
        obtain ⟨g, cap, rfl, _⟩ := Kd.R_form hR (by simp)
        have hC := (Kd.R_reads' hR).2.2
        obtain ⟨ad, had, hx0⟩ := ReadsOf.at_ (Kd.reads_of_C (d := default) hC) 0 (by decide) (by simp)
        cases had
        have hx : w'.cell? ⟨g, 0, none⟩ = some (encT x) := hx0
        have htv := (hok x (by simp)).1
        rw [ht] at htv
        obtain ⟨T, u, he, _⟩ := htv.ask
        rw [he] at hx htv
        exact ⟨Or.inr ⟨t, g, cap, T, u, rfl, rfl, hx, htv.mono fun _ _ => trivial⟩, hb⟩

/-! ### Family -/
def familyE (n : Int) (L : List UInt8) (a b : Int) : Int × Int := match parseE n L with
  | none => (0, errT n)
  | some t => if 0 ≤ a ∧ a < n ∧ 0 ≤ b ∧ b < n then ((BT.common (2 ^ a.toNat ||| 2 ^ b.toNat) t : Int), 0) else (0, 2)
set_option maxRecDepth 100000 in
set_option maxHeartbeats 3200000 in
theorem Family_calls (n : Int) (L : List UInt8) (a b : Int) (W : World) (hT : TabAt W) :
    Calls Tryd.prog 42 #[.int .i64 n, .string (strB L), .int .i64 a, .int .i64 b] W fun e w' => e = .returned (.tuple #[.int .i64 (familyE n L a b).1, .int .i64 (familyE n L a b).2]) ∧ Below W.heap.size W w' := by
  have HT := Aside0.mk hT
  obtain ⟨Z, hZ⟩ : ∃ Z, familyE n L a b = Z := ⟨_, rfl⟩
  rw [hZ]
  unfold familyE at hZ
  have HC : Aside0 (Calls Tryd.prog 52 #[.int .i64 n, .slice (some ⟨W.heap.size, 0, none⟩) 1 1] (W.alloc (.cells #[.string (strB L)] 9)) fun e w' => ((parseE n L = none ∧ e = .returned (.tuple #[.slice none 0 0, .int .i64 (errT n)])) ∨
      ∃ (t : BT) (g cap : Nat) (T : TypeId) (u : Value), parseE n L = some t ∧ e = .returned (.tuple #[.slice (some ⟨g, 0, none⟩) 1 cap, .int .i64 0]) ∧ w'.cell? ⟨g, 0, none⟩ = some (.iface T u) ∧ TrV w' (fun _ => True) (.iface T u) t) ∧ Below W.heap.size W w') :=
    ⟨(read_one n W.heap.size 1 L _ (blk_cell (heap_alloc_new W (.cells #[.string (strB L)] 9)) 0) (HT.out.next ((Below.refl _ _).alloc (Nat.le_refl _) _))).mono fun e w' ⟨h1, h2⟩ => ⟨h1, below_then ((Below.refl _ W).alloc (Nat.le_refl _) _) ((Below.refl _ W).alloc (Nat.le_refl _) _).size h2⟩⟩
  generalize strB L = sb at HC ⊢
  have he0 := errT_ne n
  obtain ⟨e1, e2⟩ := errne he0
  cases hp : parseE n L with
  | none =>
    rw [hp] at hZ
    dsimp only at hZ
    subst hZ
    have HC2 : Aside0 (Calls Tryd.prog 52 #[.int .i64 n, .slice (some ⟨W.heap.size, 0, none⟩) 1 1] (W.alloc (.cells #[.string sb] 9)) fun e w' => e = .returned (.tuple #[.slice none 0 0, .int .i64 (errT n)]) ∧ Below W.heap.size W w') := ⟨HC.out.mono (by
      rintro e w' ⟨⟨_, h⟩ | ⟨t, _, _, _, _, h, _⟩, hb⟩
      · exact ⟨h, hb⟩
      · rw [hp] at h; cases h)⟩
    clear HC hp he0
    generalize errT n = E at *
    go_enter Tryd.func42, Tryd.ntmps42
    go_wp2_with (go_at_call 52; go_must (refine HC2.out.mono ?_; rintro e w1 ⟨rfl, hb1⟩; have HB1 := Aside0.mk hb1; clear hb1))
    go_ret2
    exact ⟨rfl, HB1.out⟩
  | some t =>
    rw [hp] at hZ
    dsimp only at hZ
    obtain ⟨hn1, hn8, hgt, hst⟩ := parseE_good hp
    have HG := Aside0.mk hgt
    have HC2 : Aside0 (Calls Tryd.prog 52 #[.int .i64 n, .slice (some ⟨W.heap.size, 0, none⟩) 1 1] (W.alloc (.cells #[.string sb] 9)) fun e w' => ∃ (g cap : Nat) (T : TypeId) (u : Value), e = .returned (.tuple #[.slice (some ⟨g, 0, none⟩) 1 cap, .int .i64 0]) ∧ w'.cell? ⟨g, 0, none⟩ = some (.iface T u) ∧ TrV w' (fun _ => True) (.iface T u) t ∧ Below W.heap.size W w') := ⟨HC.out.mono (by
      rintro e w' ⟨⟨h, _⟩ | ⟨t', g, cap, T, u, h, h1, h2, h3⟩, hb⟩
      · rw [hp] at h; cases h
      · rw [hp] at h; cases h; exact ⟨g, cap, T, u, h1, h2, h3, hb⟩)⟩
    clear HC hp he0 e1 e2 hst hgt
    by_cases hab : 0 ≤ a ∧ a < n ∧ 0 ≤ b ∧ b < n
    · rw [if_pos hab] at hZ
      obtain ⟨i, rfl⟩ : ∃ i : Nat, a = i := ⟨a.toNat, by omega⟩
      obtain ⟨j, rfl⟩ : ∃ j : Nat, b = j := ⟨b.toNat, by omega⟩
      rw [Int.toNat_natCast, Int.toNat_natCast] at hZ
      have hi8 : i < 8 := by omega
      have hj8 : j < 8 := by omega
      have hij : 2 ^ i ||| 2 ^ j < 256 := Nat.or_lt_two_pow (n := 8) (two_256 hi8) (two_256 hj8)
      have hor := low_or (two_256 hi8) (two_256 hj8)
      have HCM : Aside0 (∀ (v : Value) (w : World), TrV w (fun _ => True) v t → Calls Tryd.prog 69 #[v, .int .i64 ((2 ^ i ||| 2 ^ j : Nat) : Int)] w fun e w' => e = .returned (.int .i64 ((BT.common (2 ^ i ||| 2 ^ j) t : Nat) : Int)) ∧ Below w.heap.size w w') := ⟨fun v w h => common_calls _ hij t HG.out _ v w h⟩
      have hwi := wrap_two hi8
      have hwj := wrap_two hj8
      have hwi2 := wrap64_two hi8
      have hwj2 := wrap64_two hj8
      rw [← two_cast, ← two_cast] at hor
      generalize (2 ^ i ||| 2 ^ j : Nat) = q at HCM hor hZ
      generalize BT.common q t = r at HCM hZ
      subst hZ
      have hmin : ¬ min (i : Int) (j : Int) < 0 := by omega
      have hmax : ¬ max (i : Int) (j : Int) ≥ n := by omega
      have hmax2 : max (i : Int) (j : Int) < n := by omega
      have hmin2 : 0 ≤ min (i : Int) (j : Int) := by omega
      clear hij
      go_enter Tryd.func42, Tryd.ntmps42
      go_upto_region 6 with (go_at_call 52; go_must (refine HC2.out.mono ?_; rintro e w1 ⟨g, cap, T, u, rfl, hc1, ht1, hb1⟩; have HTV := Aside0.mk ht1; have HB1 := Aside0.mk hb1; clear ht1 hb1))
      have HTD : Aside0 (TrV w1.drew (fun _ => True) (.iface T u) t) := ⟨TrV.move (W := w1) (W' := w1.drew) (Nat.le_refl _) (fun _ _ _ => rfl) (fun _ _ _ => trivial) HTV.out⟩
      refine wp_region_noPanic ?_
      refine wp_region_held_drew (S := fun w' => w'.cell? ⟨g, 0, none⟩ = some (.iface T u)) (by kernel_rfl) (hc1) (fun hHeld => ?_)
      refine H_on 0 35 ?vf0 rfl rfl (by kernel_rfl) (by kernel_rfl) (by kernel_rfl) (by rfl) ?hf0 hHeld ?rf0
      case hf0 => (intro w hSw; have s1 := hSw; go_simp <;> with_reducible rfl)
      simp only [Act.put, List.setIfInBounds_toArray, List.set_cons_zero, List.set_cons_succ]
      refine H_on 1 36 ?vf1 rfl rfl (by kernel_rfl) (by kernel_rfl) (by kernel_rfl) (by rfl) ?hf1 hHeld ?rf1
      case hf1 => (intro w hSw; have s1 := hSw; go_simp <;> with_reducible rfl)
      simp only [Act.put, List.setIfInBounds_toArray, List.set_cons_zero, List.set_cons_succ]
      refine H_on 2 37 ?vf2 rfl rfl (by kernel_rfl) (by kernel_rfl) (by kernel_rfl) (by rfl) ?hf2 hHeld ?rf2
      case hf2 => (intro w hSw; have s1 := hSw; go_simp <;> with_reducible rfl)
      simp only [Act.put, List.setIfInBounds_toArray, List.set_cons_zero, List.set_cons_succ]
      refine H_on 3 38 ?vf3 rfl rfl (by kernel_rfl) (by kernel_rfl) (by kernel_rfl) (by rfl) ?hf3 hHeld ?rf3
      case hf3 => (intro w hSw; have s1 := hSw; go_simp <;> with_reducible rfl)
      simp only [Act.put, List.setIfInBounds_toArray, List.set_cons_zero, List.set_cons_succ]
      refine H_on 4 39 ?vf4 rfl rfl (by kernel_rfl) (by kernel_rfl) (by kernel_rfl) (by rfl) ?hf4 hHeld ?rf4
      case hf4 => (intro w hSw; have s1 := hSw; go_simp <;> with_reducible rfl)
      simp only [Act.put, List.setIfInBounds_toArray, List.set_cons_zero, List.set_cons_succ]
      refine H_on 5 40 ?vf5 rfl rfl (by kernel_rfl) (by kernel_rfl) (by kernel_rfl) (by rfl) ?hf5 hHeld ?rf5
      case hf5 => (intro w hSw; have s1 := hSw; go_simp <;> with_reducible rfl)
      simp only [Act.put, List.setIfInBounds_toArray, List.set_cons_zero, List.set_cons_succ]
      refine H_on 6 41 ?vf6 rfl rfl (by kernel_rfl) (by kernel_rfl) (by kernel_rfl) (by rfl) ?hf6 hHeld ?rf6
      case hf6 => (intro w hSw; have s1 := hSw; go_simp <;> with_reducible rfl)
      simp only [Act.put, List.setIfInBounds_toArray, List.set_cons_zero, List.set_cons_succ]
      refine H_on 7 42 ?vf7 rfl rfl (by kernel_rfl) (by kernel_rfl) (by kernel_rfl) (by rfl) ?hf7 hHeld ?rf7
      case hf7 => (intro w hSw; have s1 := hSw; go_simp <;> with_reducible rfl)
      simp only [Act.put, List.setIfInBounds_toArray, List.set_cons_zero, List.set_cons_succ]
      refine wpAnyH_ready (rs := [8]) (by kernel_rfl) (by simp) ?_
      refine AllReadyH.cons rfl (fun K hK => ?_) AllReadyH.nil
      go_simp
      refine (HCM.out _ _ HTD.out).mono ?_
      rintro e w2 ⟨rfl, hb2⟩
      have hc2 : w2.cell? ⟨g, 0, none⟩ = some (.iface T u) := (World.cell?_of_block (hb2.block g (World.block_lt_of_cell? w1.drew _ hc1))).trans hc1
      have HB2 : Aside0 (Below W.heap.size W w2) := ⟨below_then (below_drew HB1.out) (below_drew HB1.out).size hb2⟩
      clear hb2
      go_wp2_with fail
      refine hK.out _ _ (hc2) (fun hHeld => ?_)
      clear hK K
      try simp only [Act.put, List.setIfInBounds_toArray, List.set_cons_zero, List.set_cons_succ]
      refine H_on 9 8 ?vf9 rfl rfl (by kernel_rfl) (by kernel_rfl) (by kernel_rfl) (by rfl) ?hf9 hHeld ?rf9
      case hf9 => (intro w hSw; have s1 := hSw; go_simp <;> with_reducible rfl)
      simp only [Act.put, List.setIfInBounds_toArray, List.set_cons_zero, List.set_cons_succ]
      refine H_on 10 9 ?vf10 rfl rfl (by kernel_rfl) (by kernel_rfl) (by kernel_rfl) (by rfl) ?hf10 hHeld ?rf10
      case hf10 => (intro w hSw; have s1 := hSw; go_simp <;> with_reducible rfl)
      simp only [Act.put, List.setIfInBounds_toArray, List.set_cons_zero, List.set_cons_succ]
      refine wpAnyH_done (by kernel_rfl) ?_ _
      refine NoPanic.normal ?_
      clear hHeld
      go_wp2
      go_ret2
      exact ⟨rfl, HB2.out⟩
    · rw [if_neg hab] at hZ
      subst hZ
      go_enter Tryd.func42, Tryd.ntmps42
      by_cases hmin : min a b < 0
      · go_wp2_with (go_at_call 52; go_must (refine HC2.out.mono ?_; rintro e w1 ⟨g, cap, T, u, rfl, hc1, ht1, hb1⟩; have HB1 := Aside0.mk hb1; clear ht1 hb1))
        go_ret2
        exact ⟨rfl, HB1.out⟩
      · have hmin2 : ¬ min a b < 0 := by omega
        have hmax : max a b ≥ n := by omega
        have hmax2 : ¬ max a b < n := by omega
        go_wp2_with (go_at_call 52; go_must (refine HC2.out.mono ?_; rintro e w1 ⟨g, cap, T, u, rfl, hc1, ht1, hb1⟩; have HB1 := Aside0.mk hb1; clear ht1 hb1))
        go_ret2
        exact ⟨rfl, HB1.out⟩
end Go.Proofs.YtdbbcngmnpejnaaDoor.B

/- The reference's tree, asked, family, shows and Shows, as printed, plain. -/
namespace Go.Proofs.YtdbbcngmnpejnaaDoor.B
open Go.Proofs.YtdbbcngmnpejnaaDoor.A
open Go.RowKit Go.Proofs.YtdbbcngmnpejnaaDoorW.PrintWords Go.Proofs.YtdbbcngmnpejnaaDoorW.PrintMore
theorem full_tab : ∀ m : Nat, m ≤ 8 → wrap64 (shl .i64 1 (m : Int) - 1) = ((2 ^ m - 1 : Nat) : Int) := by decide +kernel
/-- What tree hands back. -/
def TreeRes (o : Option BT) (r : Int × List S85 × Bool) : Prop := match o with
  | some t => r = (((t.set : Nat) : Int), (ndS t).f1, true)
  | none => r.2.2 = false
theorem tree_ev (n : Int) (S : List UInt8) (hS : S.length ≤ 1000000000) : ∃ r, TreeRes (parseE n S) r ∧ Ev (fun k => drovewayref05_tree.f k n (strB S)) r := by
  unfold parseE
  by_cases h1 : n < 1
  · rw [if_neg (by omega)]
    refine ⟨(0, [], false), rfl, Ev.congr (f := fun _ => some (0, [], false)) (fun k => ?_) (Ev.now _)⟩
    unfold drovewayref05_tree.f
    rw [if_pos h1]
  · by_cases h2 : n > 8
    · rw [if_neg (by omega)]
      refine ⟨(0, [], false), rfl, Ev.congr (f := fun _ => some (0, [], false)) (fun k => ?_) (Ev.now _)⟩
      unfold drovewayref05_tree.f
      rw [if_neg h1, if_pos h2]
    · rw [if_pos (by omega)]
      obtain ⟨m, rfl⟩ : ∃ m : Nat, n = m := ⟨n.toNat, by omega⟩
      rw [Int.toNat_natCast]
      have hm8 : m ≤ 8 := by omega
      have HF := Aside0.mk (full_tab m hm8)
      obtain ⟨r1, hr1, he1⟩ := (read_ev hm8 S hS (2 * S.length + 1)).1 0 S (Nat.zero_le _) rfl (Nat.le_refl _)
      have hstep : ∀ k, drovewayref05_tree.f k (m : Int) (strB S) = (drovewayref05_read.f k (m : Int) (strB S) ((0 : Nat) : Int)).bind fun b => (if b.2.2.2 = true then (if b.2.2.1 = ((strB S).size : Int) then (if 0 ≤ (m : Int) then (some (b.1, b.2.1, (b.1 == (wrap64 ((shl .i64 1 (m : Int)) - 1))))) else (none)) else (some (b.1, b.2.1, false))) else (some (b.1, b.2.1, false))) := fun k => by
        unfold drovewayref05_tree.f
        rw [if_neg h1, if_neg h2]
        rfl
      cases hq : readQ m (2 * S.length + 1) S with
      | none =>
        rw [hq] at hr1
        have hpf : parseF m S = none := by
          cases hp : parseF m S with
          | none => rfl
          | some t =>
            exfalso
            unfold parseF at hp
            cases hr : readP (2 * S.length + 1) S with
            | none => rw [hr] at hp; cases hp
            | some q =>
              obtain ⟨u, L'⟩ := q
              rw [hr] at hp
              dsimp only at hp
              split at hp
              · rename_i h3
                have := (readP_Q (n := m) (2 * S.length + 1)).1 _ _ _ hr (fun i hi => by
                  rw [h3.2, Nat.testBit_two_pow_sub_one, decide_eq_true_iff] at hi
                  exact hi)
                rw [hq] at this; cases this
              · cases hp
        rw [hpf]
        obtain ⟨a, b, q, d⟩ := r1
        have hd : d = false := hr1
        subst hd
        exact ⟨(a, b, false), rfl, Ev.congr hstep (Ev.bind he1 (Ev.congr (f := fun _ => some (a, b, false)) (fun k => by rw [if_neg Bool.false_ne_true]) (Ev.now _)))⟩
      | some tq =>
        obtain ⟨t, L'⟩ := tq
        rw [hq] at hr1
        have hr1 : r1 = (((t.set : Nat) : Int), (ndS t).f1, ((S.length - L'.length : Nat) : Int), true) := hr1
        subst hr1
        have hP := (readQ_P hm8 (2 * S.length + 1)).1 _ _ hq
        have hlt := ((read_goods _).1 _ _ _ hP).2
        have hpf : parseF m S = if L' = [] ∧ t.set = 2 ^ m - 1 then some t else none := by unfold parseF; rw [hP]
        rw [hpf]
        by_cases hL : L' = []
        · subst hL
          by_cases hs : t.set = 2 ^ m - 1
          · rw [if_pos ⟨rfl, hs⟩]
            refine ⟨_, rfl, Ev.congr hstep (Ev.bind he1 (Ev.congr (f := fun _ => some _) (fun k => ?_) (Ev.now _)))⟩
            dsimp only
            rw [if_pos rfl, if_pos (by rw [strB_size]; simp), if_pos (by omega), HF.out, hs]
            simp
          · rw [if_neg (fun h => hs h.2)]
            refine ⟨(((t.set : Nat) : Int), (ndS t).f1, false), rfl, Ev.congr hstep (Ev.bind he1 (Ev.congr (f := fun _ => some _) (fun k => ?_) (Ev.now _)))⟩
            dsimp only
            have hb : (((t.set : Nat) : Int) == ((2 ^ m - 1 : Nat) : Int)) = false := by rw [beq_eq_false_iff_ne]; omega
            rw [if_pos rfl, if_pos (by rw [strB_size]; simp), if_pos (by omega), HF.out, hb]
        · rw [if_neg (fun h => hL h.1)]
          have hpos : 0 < L'.length := List.length_pos_iff.mpr hL
          refine ⟨(((t.set : Nat) : Int), (ndS t).f1, false), rfl, Ev.congr hstep (Ev.bind he1 (Ev.congr (f := fun _ => some _) (fun k => ?_) (Ev.now _)))⟩
          dsimp only
          rw [if_pos rfl, if_neg (by rw [strB_size]; omega)]
/-- What asked hands back: the node, and the error. -/
def askedR (n : Int) (S : List UInt8) : Int × List S85 × Int := match parseE n S with
  | some t => (((t.set : Nat) : Int), (ndS t).f1, 0)
  | none => (0, [], errT n)
theorem asked_ev (n : Int) (S : List UInt8) (hS : S.length ≤ 1000000000) : Ev (fun k => drovewayref05_asked.f k n (strB S)) (askedR n S) := by
  obtain ⟨r, hr, he⟩ := tree_ev n S hS
  by_cases hn : 1 ≤ n ∧ n ≤ 8
  · have hj : ∀ k, drovewayref05_asked.f k n (strB S) = drovewayref05_asked.j0 k n (strB S) false := fun k => by
      unfold drovewayref05_asked.f
      rw [if_neg (by omega), decide_eq_false (by omega)]
    refine Ev.congr hj (Ev.step (f := fun k => (drovewayref05_tree.f k n (strB S)).bind fun b => (if b.2.2 = true then (some (b.1, b.2.1, 0)) else (some (0, ([] : List (S85)), 5)))) (fun k => by rw [drovewayref05_asked.j0, if_neg Bool.false_ne_true]) (Ev.bind he ?_))
    unfold askedR
    cases hp : parseE n S with
    | none =>
      rw [hp] at hr
      have hr : r.2.2 = false := hr
      refine Ev.congr (f := fun _ => some (0, [], 5)) (fun k => by rw [hr, if_neg Bool.false_ne_true]) ?_
      unfold errT
      rw [if_pos hn]
      exact Ev.now _
    | some t =>
      rw [hp] at hr
      have hr : r = _ := hr
      subst hr
      exact Ev.congr (f := fun _ => some _) (fun k => by rw [if_pos rfl]) (Ev.now _)
  · have hj : ∀ k, drovewayref05_asked.f k n (strB S) = drovewayref05_asked.j0 k n (strB S) true := fun k => by
      unfold drovewayref05_asked.f
      by_cases h1 : n < 1
      · rw [if_pos h1]
      · rw [if_neg h1, decide_eq_true (by omega)]
    have he2 : askedR n S = (0, [], 2) := by
      unfold askedR parseE errT
      rw [if_neg hn, if_neg hn]
    rw [he2]
    exact Ev.congr hj (Ev.step (f := fun _ => some (0, [], 2)) (fun k => by rw [drovewayref05_asked.j0, if_pos rfl]) (Ev.now _))
end Go.Proofs.YtdbbcngmnpejnaaDoor.B

/- breed.Kept, walked. -/
namespace Go.Proofs.YtdbbcngmnpejnaaDoor.B
open Go.Proofs.YtdbbcngmnpejnaaDoor.A
open Go.RowKit Go.Proofs.YtdbbcngmnpejnaaDoorW.PrintWords Go.Proofs.YtdbbcngmnpejnaaDoorW.PrintMore
def keptE (n : Int) (L : List UInt8) (s : Int) : ByteArray × Int := match parseE n L with
  | none => (⟨#[]⟩, errT n)
  | some t => if 1 ≤ s ∧ s < ((2 ^ n.toNat : Nat) : Int) then (match t.kept s.toNat with
    | some u => (strB u.text, 0)
    | none => (⟨#[]⟩, 0)) else (⟨#[]⟩, 2)
theorem full_and {s n : Nat} (h : s < 2 ^ n) : (2 ^ n - 1) &&& s = s := by
  rw [Nat.and_comm, Nat.and_two_pow_sub_one_eq_mod, Nat.mod_eq_of_lt h]
/-- Some of the beasts are kept. -/
theorem kept_some {t : BT} {n s : Nat} (hg : t.Good) (hs : t.set = 2 ^ n - 1) (h0 : s ≠ 0) (h1 : s < 2 ^ n) : ∃ u, t.kept s = some u ∧ u.Good ∧ u.set = s := by
  obtain ⟨a, b⟩ := kept_spec s t hg
  cases h : t.kept s with
  | none =>
    have := b h
    rw [hs, full_and h1] at this
    exact absurd this h0
  | some u =>
    have := a u h
    rw [hs, full_and h1] at this
    exact ⟨u, rfl, this.1, this.2⟩
set_option maxRecDepth 100000 in
set_option maxHeartbeats 3200000 in
theorem Kept_calls (n : Int) (L : List UInt8) (s : Int) (W : World) (hT : TabAt W) :
    Calls Tryd.prog 24 #[.int .i64 n, .string (strB L), .int .i64 s] W fun e w' => e = .returned (.tuple #[.string (keptE n L s).1, .int .i64 (keptE n L s).2]) ∧ Below W.heap.size W w' := by
  have HT := Aside0.mk hT
  obtain ⟨Z, hZ⟩ : ∃ Z, keptE n L s = Z := ⟨_, rfl⟩
  rw [hZ]
  unfold keptE at hZ
  have HC : Aside0 (Calls Tryd.prog 52 #[.int .i64 n, .slice (some ⟨W.heap.size, 0, none⟩) 1 1] (W.alloc (.cells #[.string (strB L)] 9)) fun e w' => ((parseE n L = none ∧ e = .returned (.tuple #[.slice none 0 0, .int .i64 (errT n)])) ∨
      ∃ (t : BT) (g cap : Nat) (T : TypeId) (u : Value), parseE n L = some t ∧ e = .returned (.tuple #[.slice (some ⟨g, 0, none⟩) 1 cap, .int .i64 0]) ∧ w'.cell? ⟨g, 0, none⟩ = some (.iface T u) ∧ TrV w' (fun _ => True) (.iface T u) t) ∧ Below W.heap.size W w') :=
    ⟨(read_one n W.heap.size 1 L _ (blk_cell (heap_alloc_new W (.cells #[.string (strB L)] 9)) 0) (HT.out.next ((Below.refl _ _).alloc (Nat.le_refl _) _))).mono fun e w' ⟨h1, h2⟩ => ⟨h1, below_then ((Below.refl _ W).alloc (Nat.le_refl _) _) ((Below.refl _ W).alloc (Nat.le_refl _) _).size h2⟩⟩
  generalize strB L = sb at HC ⊢
  have he0 := errT_ne n
  obtain ⟨e1, e2⟩ := errne he0
  cases hp : parseE n L with
  | none =>
    rw [hp] at hZ
    dsimp only at hZ
    subst hZ
    have HC2 : Aside0 (Calls Tryd.prog 52 #[.int .i64 n, .slice (some ⟨W.heap.size, 0, none⟩) 1 1] (W.alloc (.cells #[.string sb] 9)) fun e w' => e = .returned (.tuple #[.slice none 0 0, .int .i64 (errT n)]) ∧ Below W.heap.size W w') := ⟨HC.out.mono (by
      rintro e w' ⟨⟨_, h⟩ | ⟨t, _, _, _, _, h, _⟩, hb⟩
      · exact ⟨h, hb⟩
      · rw [hp] at h; cases h)⟩
    clear HC hp he0
    generalize errT n = E at *
    go_enter Tryd.func24, Tryd.ntmps24
    go_wp2_with (go_at_call 52; go_must (refine HC2.out.mono ?_; rintro e w1 ⟨rfl, hb1⟩; have HB1 := Aside0.mk hb1; clear hb1))
    go_ret2
    exact ⟨rfl, HB1.out⟩
  | some t =>
    rw [hp] at hZ
    dsimp only at hZ
    obtain ⟨hn1, hn8, hgt, hst⟩ := parseE_good hp
    have HG := Aside0.mk hgt
    have HC2 : Aside0 (Calls Tryd.prog 52 #[.int .i64 n, .slice (some ⟨W.heap.size, 0, none⟩) 1 1] (W.alloc (.cells #[.string sb] 9)) fun e w' => ∃ (g cap : Nat) (T : TypeId) (u : Value), e = .returned (.tuple #[.slice (some ⟨g, 0, none⟩) 1 cap, .int .i64 0]) ∧ w'.cell? ⟨g, 0, none⟩ = some (.iface T u) ∧ TrV w' (fun _ => True) (.iface T u) t ∧ Below W.heap.size W w') := ⟨HC.out.mono (by
      rintro e w' ⟨⟨h, _⟩ | ⟨t', g, cap, T, u, h, h1, h2, h3⟩, hb⟩
      · rw [hp] at h; cases h
      · rw [hp] at h; cases h; exact ⟨g, cap, T, u, h1, h2, h3, hb⟩)⟩
    obtain ⟨m, rfl⟩ : ∃ m : Nat, n = m := ⟨n.toNat, by omega⟩
    have hm8 : m ≤ 8 := by omega
    rw [Int.toNat_natCast] at hst hZ
    clear HC hp he0 e1 e2
    have hP := pow_256 hm8
    have hw1 := wrap_pow hm8
    have hw2 := wrap64_pow hm8
    by_cases hs : 1 ≤ s ∧ s < ((2 ^ m : Nat) : Int)
    · rw [if_pos hs] at hZ
      obtain ⟨q, rfl⟩ : ∃ q : Nat, s = q := ⟨s.toNat, by omega⟩
      rw [Int.toNat_natCast] at hZ
      obtain ⟨u, hku, hug, hus⟩ := kept_some (s := q) hgt hst (by omega) (by omega)
      rw [hku] at hZ
      dsimp only at hZ
      subst hZ
      have hq8 : q < 256 := by omega
      have HK : Aside0 (∀ (v : Value) (w : World), TrV w (fun _ => True) v t → TabAt w → Calls Tryd.prog 53 #[v, .int .i64 (q : Int)] w fun e w' => ∃ v', e = .returned v' ∧ TrV w' (fun b => w.heap.size ≤ b) v' u ∧ Below w.heap.size w w') := ⟨fun v w h hT => (kept_calls q hq8 t HG.out _ v w h hT).mono (by
        rintro e w' ⟨⟨h, _⟩ | ⟨t', v, h, rfl, ht⟩, hb⟩
        · rw [hku] at h; cases h
        · rw [hku] at h; cases h; exact ⟨v, rfl, ht, hb⟩)⟩
      have HUG := Aside0.mk hug
      have hs1 := hs.1
      have hs2 := hs.2
      have hs3 : ¬ ((q : Int) < 1) := by omega
      clear hgt hst hku hug hus hq8
      generalize ((2 ^ m : Nat) : Int) = P at hw1 hw2 hs2
      clear hs hP
      show Calls _ _ _ _ fun e w' => e = .returned (.tuple #[.string (strB u.text), .int .i64 0]) ∧ Below W.heap.size W w'
      go_enter Tryd.func24, Tryd.ntmps24
      go_wp2_with (first
        | (go_at_call 52; go_must (refine HC2.out.mono ?_; rintro e w1 ⟨g, cap, T, u1, rfl, hc1, ht1, hb1⟩; have HTV := Aside0.mk ht1; have HB1 := Aside0.mk hb1; clear ht1 hb1))
        | (go_at_call 53; go_must (refine (HK.out _ _ HTV.out (HT.out.next HB1.out)).mono ?_; rintro e w2 ⟨v2, rfl, htv, hb2⟩; have HB3 := Aside0.mk (below_then HB1.out HB1.out.size hb2); obtain ⟨T2, u2, K, rfl, hmt, hen, hcall⟩ := text_calls u HUG.out _ v2 w2 htv; have HC3 := Aside0.mk (hcall w2 (Below.refl _ _) (HT.out.next HB3.out)); clear htv hb2 hcall))
        | (go_at_fn K; go_must (refine HC3.out.mono ?_; rintro e w3 ⟨rfl, hb3⟩; have HB4 := Aside0.mk (below_then HB3.out HB3.out.size hb3); clear hb3)))
      go_ret2
      exact ⟨rfl, HB4.out⟩
    · rw [if_neg hs] at hZ
      subst hZ
      clear hgt hst
      generalize ((2 ^ m : Nat) : Int) = P at hw1 hw2 hs
      clear hP
      by_cases hs1 : s < 1
      · clear hs
        go_enter Tryd.func24, Tryd.ntmps24
        go_wp2_with (go_at_call 52; go_must (refine HC2.out.mono ?_; rintro e w1 ⟨g, cap, T, u, rfl, hc1, ht1, hb1⟩; have HB1 := Aside0.mk hb1; clear ht1 hb1))
        go_ret2
        exact ⟨rfl, HB1.out⟩
      · have hs2 : ¬ s < P := by omega
        have hs3 : s ≥ P := by omega
        clear hs
        go_enter Tryd.func24, Tryd.ntmps24
        go_wp2_with (go_at_call 52; go_must (refine HC2.out.mono ?_; rintro e w1 ⟨g, cap, T, u, rfl, hc1, ht1, hb1⟩; have HB1 := Aside0.mk hb1; clear ht1 hb1))
        go_ret2
        exact ⟨rfl, HB1.out⟩
end Go.Proofs.YtdbbcngmnpejnaaDoor.B

/- The law package's small functions, as the kit's print writes them. -/
namespace Go.Proofs.YtdbbcngmnpejnaaDoor.B
open Go.Proofs.YtdbbcngmnpejnaaDoor.A
open Go.RowKit Go.Proofs.YtdbbcngmnpejnaaDoorW.PrintWords Go.Proofs.YtdbbcngmnpejnaaDoorW.PrintLast Go.Proofs.YtdbbcngmnpejnaaDoorW.PrintMore
section
attribute [local go_sem] max2_int min2_int max_two min_two max_three min_three max_four min_four   -- for this text's walks alone
set_option linter.unusedVariables false
set_option linter.unusedSimpArgs false
attribute [local go_sem high] eqA44
/-! ### drovewaylaw05_few: function 16 -/
def drovewaylaw05_few.f (l0 : List (S44)) (a1 : ByteArray) : Option (Bool) := if (l0.length : Int) ≤ 100 then (some (decide ((a1.size : Int) ≤ 100))) else (some false)
set_option maxHeartbeats 8000000 in
set_option maxRecDepth 100000 in
theorem drovewaylaw05_few.calls (A0 : Option Addr) (c0 : Nat) (l0 : List (S44)) (a1 : ByteArray) (r : Bool) (w : World) (hr0 : Kd.C k44 w A0 l0.length l0) (hc0 : l0.length ≤ c0) (h : drovewaylaw05_few.f l0 a1 = some r) :
    Calls Tryd.prog 16 #[.slice A0 l0.length c0, .string a1] w fun e w' => e = .returned (.bool r) ∧ Drawn0 w w' := by
  have HR0 := Aside0.mk hr0
  have HC0 := Aside0.mk hc0
  clear hr0 hc0
  have H : (if (l0.length : Int) ≤ 100 then (some (decide ((a1.size : Int) ≤ 100))) else (some false)) = some r := h
  clear h
  by_cases c3 : (l0.length : Int) ≤ 100
  · rw [if_pos c3] at H
    have c3b0 : decide ((l0.length : Int) ≤ 100) = true := decide_eq_true c3
    have c3b1 : decide (l0.length ≤ 100) = true := decide_eq_true (by omega)
    clear c3
    obtain rfl := Option.some.inj H
    go_enter Tryd.func16, Tryd.ntmps16
    go_wp2
    go_ret
    exact ⟨by first | rfl | (simp; done) | (simp [*]; done), by repeat (first | exact Drawn0.refl _ | apply Drawn0.step)⟩
  · rw [if_neg c3] at H
    have c3b0 : decide ((l0.length : Int) ≤ 100) = false := decide_eq_false c3
    have c3b1 : decide (l0.length ≤ 100) = false := decide_eq_false (by omega)
    clear c3
    obtain rfl := Option.some.inj H
    go_enter Tryd.func16, Tryd.ntmps16
    go_wp2
    go_ret
    exact ⟨by first | rfl | (simp; done) | (simp [*]; done), by repeat (first | exact Drawn0.refl _ | apply Drawn0.step)⟩

/-! ### drovewaylaw05_same: function 23 -/
def drovewaylaw05_same.l0 : Nat → List (S44) → List (S44) → Int → Option (Bool)
  | 0, _, _, _ => none
  | k + 1, x0, x1, x5 => if x5 < (x0.length : Int) then (if 0 ≤ x5 then (if x5 < (x1.length : Int) then (if (!(((rd_T44 x0 x5).f0) == ((rd_T44 x1 x5).f0)) || (!(((rd_T44 x0 x5).f1) == ((rd_T44 x1 x5).f1)) || (!(((rd_T44 x0 x5).f2) == ((rd_T44 x1 x5).f2))))) = true then (some false) else (drovewaylaw05_same.l0 k x0 x1 (wrap64 (x5 + 1)))) else (none)) else (none)) else (some true)
def drovewaylaw05_same.f (k : Nat) (l0 : List (S44)) (l1 : List (S44)) : Option (Bool) := if (l0.length : Int) = (l1.length : Int) then (drovewaylaw05_same.l0 k l0 l1 0) else (some false)
end
end Go.Proofs.YtdbbcngmnpejnaaDoor.B

/- few, same, IsTriple, List, given: what they answer, plain. -/
namespace Go.Proofs.YtdbbcngmnpejnaaDoor.B
open Go.Proofs.YtdbbcngmnpejnaaDoor.A
open Go.RowKit Go.Proofs.YtdbbcngmnpejnaaDoorW.PrintWords Go.Proofs.YtdbbcngmnpejnaaDoorW.PrintMore
theorem s44_ext {a b : S44} : a = b ↔ a.f0 = b.f0 ∧ a.f1 = b.f1 ∧ a.f2 = b.f2 := by
  obtain ⟨a0, a1, a2⟩ := a
  obtain ⟨b0, b1, b2⟩ := b
  simp
instance : DecidableEq S44 := fun _ _ => decidable_of_iff _ s44_ext.symm
theorem few_calls (A : Option Addr) (c : Nat) (l : List S44) (s : ByteArray) (w : World) (hr : Kd.C k44 w A l.length l) (hc : l.length ≤ c) :
    Calls Tryd.prog 16 #[.slice A l.length c, .string s] w fun e w' => e = .returned (.bool (decide (l.length ≤ 100 ∧ s.size ≤ 100))) ∧ Below w.heap.size w w' := by
  refine (drovewaylaw05_few.calls A c l s (decide (l.length ≤ 100 ∧ s.size ≤ 100)) w hr hc ?_).mono fun _ _ ⟨p, q⟩ => ⟨p, q.below⟩
  unfold drovewaylaw05_few.f
  by_cases h : l.length ≤ 100
  · rw [if_pos (by omega)]
    congr 1
    simp only [decide_eq_decide]
    omega
  · rw [if_neg (by omega), decide_eq_false (fun h2 => h h2.1)]
end Go.Proofs.YtdbbcngmnpejnaaDoor.B

/- The reference's family, shows and Shows, as printed, plain: what the program's give. -/
namespace Go.Proofs.YtdbbcngmnpejnaaDoor.B
open Go.Proofs.YtdbbcngmnpejnaaDoor.A
open Go.RowKit Go.Proofs.YtdbbcngmnpejnaaDoorW.PrintWords Go.Proofs.YtdbbcngmnpejnaaDoorW.PrintMore
theorem rd_nd {ks : List BT} {i : Nat} (h : i < ks.length) : rd_T85 (ks.map ndS) (i : Int) = ndS ks[i] := by
  simp only [rd_T85, Int.toNat_natCast, List.getD_eq_getElem?_getD, List.getElem?_map, List.getElem?_eq_getElem h]
  rfl
end Go.Proofs.YtdbbcngmnpejnaaDoor.B
