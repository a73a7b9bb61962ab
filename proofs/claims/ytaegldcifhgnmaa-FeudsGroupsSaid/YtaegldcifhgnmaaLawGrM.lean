/- FeudsGroups holds: its code returns true and leaves what it was given as it was. Conditions: those of the given statement, none besides. -/
import Derived.Test.YtaegldcifhgnmaaZGr2
import Derived.Deep.Slices
import Derived.ChangeSame
import Derived.Test.YtaegldcifhgnmaaRows
import Derived.WalkKit
import Derived.ProofKit
import Derived.OpenShut
import Derived.ShutString
import Derived.ChangeOld
import Derived.Below
import Derived.SizedLaws
import Derived.Test.YtaegldcifhgnmaaWSized
-- Printed by hprint.py (this claim's own program, over the kit's print.py) out of the translation and contracts by hand. Not trusted: Lean checks it.
namespace Go.Proofs.Ytaegldcifhgnmaa.PFeudsGroups
open Go.Proofs.Ytaegldcifhgnmaa.A Go.Proofs.Ytaegldcifhgnmaa.B
open Go.RowKit Go.Proofs.YtaegldcifhgnmaaW.PrintWords Go.Proofs.YtaegldcifhgnmaaW.PrintLast Go.Proofs.YtaegldcifhgnmaaW.PrintMore
attribute [local go_sem] max2_int min2_int max_two min_two max_three min_three max_four min_four   -- for this text's walks alone
set_option linter.unusedVariables false
set_option linter.unusedSimpArgs false

/-! ### drovewaylaw09_FeudsGroups: function 5 -/
mutual
def drovewaylaw09_FeudsGroups.j0 : Nat → Int → List (S39) → Bool → Option (Bool)
  | 0, _, _, _ => none
  | k + 1, x0, x1, x26 => if x26 = true then ((drovewaylaw09_alive.f).bind fun t103 => (some t103)) else ((feuds_Clans.f x0 x1).bind fun bt104 => (if bt104.2 = 0 then (if 0 ≤ x0 then (if (x0 : Int).toNat ≤ 35184372088832 then (drovewaylaw09_FeudsGroups.l0 k x0 x1 bt104.1 (List.replicate (x0 : Int).toNat 0) 0 0) else (none)) else (none)) else (if bt104.2 = 10 then (if (bt104.1.length : Int) = 0 then ((drovewaylaw09_alive.f).bind fun t108 => (some t108)) else (some false)) else (some false))))
def drovewaylaw09_FeudsGroups.l0 : Nat → Int → List (S39) → List Int → List Int → Int → Int → Option (Bool)
  | 0, _, _, _, _, _, _ => none
  | k + 1, x0, x1, x5, x7, x8, x9 => if x9 < (x5.length : Int) then (if 0 ≤ x9 then (if (rd x5 x9) < 1 then (drovewaylaw09_FeudsGroups.j2 k x0 x1 x5 x7 x8 x9 true) else (if 0 ≤ x0 then (if (rd x5 x9) ≥ (shl .i64 1 x0) then (drovewaylaw09_FeudsGroups.j2 k x0 x1 x5 x7 x8 x9 true) else (if (Go.bits .and .i64 x8 (rd x5 x9)) = 0 then (if x9 > 0 then (if 0 ≤ (wrap64 (x9 - 1)) then (if (wrap64 (x9 - 1)) < (x5.length : Int) then (drovewaylaw09_FeudsGroups.j2 k x0 x1 x5 x7 x8 x9 (decide ((rd x5 x9) ≤ (rd x5 (wrap64 (x9 - 1)))))) else (none)) else (none)) else (drovewaylaw09_FeudsGroups.j2 k x0 x1 x5 x7 x8 x9 false)) else (drovewaylaw09_FeudsGroups.j2 k x0 x1 x5 x7 x8 x9 true))) else (none))) else (none)) else (if 0 ≤ x0 then (if x8 = (wrap64 ((shl .i64 1 x0) - 1)) then (drovewaylaw09_FeudsGroups.l2 k x1 x5 x7 0) else (some false)) else (none))
def drovewaylaw09_FeudsGroups.j2 : Nat → Int → List (S39) → List Int → List Int → Int → Int → Bool → Option (Bool)
  | 0, _, _, _, _, _, _, _ => none
  | k + 1, x0, x1, x5, x7, x8, x9, x92 => if x92 = true then (some false) else (if 0 ≤ x9 then (if x9 < (x5.length : Int) then (drovewaylaw09_FeudsGroups.l1 k x0 x1 x5 x7 (Go.bits .or .i64 x8 (rd x5 x9)) x9 0) else (none)) else (none))
def drovewaylaw09_FeudsGroups.l1 : Nat → Int → List (S39) → List Int → List Int → Int → Int → Int → Option (Bool)
  | 0, _, _, _, _, _, _, _ => none
  | k + 1, x0, x1, x5, x7, x8, x9, x10 => if x10 < x0 then (if 0 ≤ x9 then (if x9 < (x5.length : Int) then (if 0 ≤ x10 then (if (Int.tmod (shr .i64 (rd x5 x9) x10) 2) = 1 then (if x10 < (x7.length : Int) then (drovewaylaw09_FeudsGroups.l1 k x0 x1 x5 (x7.set (x10 : Int).toNat x9) x8 x9 (wrap64 (x10 + 1))) else (none)) else (drovewaylaw09_FeudsGroups.l1 k x0 x1 x5 x7 x8 x9 (wrap64 (x10 + 1)))) else (none)) else (none)) else (none)) else (drovewaylaw09_FeudsGroups.l0 k x0 x1 x5 x7 x8 (wrap64 (x9 + 1)))
def drovewaylaw09_FeudsGroups.l2 : Nat → List (S39) → List Int → List Int → Int → Option (Bool)
  | 0, _, _, _, _ => none
  | k + 1, x1, x5, x7, x11 => if x11 < (x1.length : Int) then (if 0 ≤ x11 then (if 0 ≤ ((rd_T39 x1 x11).f0) then (if ((rd_T39 x1 x11).f0) < (x7.length : Int) then (if 0 ≤ ((rd_T39 x1 x11).f1) then (if ((rd_T39 x1 x11).f1) < (x7.length : Int) then (if (((rd x7 ((rd_T39 x1 x11).f0)) == (rd x7 ((rd_T39 x1 x11).f1))) == ((rd_T39 x1 x11).f2)) = true then (some false) else (drovewaylaw09_FeudsGroups.l2 k x1 x5 x7 (wrap64 (x11 + 1)))) else (none)) else (none)) else (none)) else (none)) else (none)) else (drovewaylaw09_FeudsGroups.l3 k x1 x5 0)
def drovewaylaw09_FeudsGroups.l3 : Nat → List (S39) → List Int → Int → Option (Bool)
  | 0, _, _, _ => none
  | k + 1, x1, x5, x12 => if x12 < (x5.length : Int) then (if 0 ≤ x12 then (drovewaylaw09_FeudsGroups.l4 k x1 x5 x12 (Go.bits .and .i64 (rd x5 x12) (wrap64 (-(rd x5 x12)))) true) else (none)) else ((drovewaylaw09_alive.f).bind fun t125 => (some t125))
def drovewaylaw09_FeudsGroups.l4 : Nat → List (S39) → List Int → Int → Int → Bool → Option (Bool)
  | 0, _, _, _, _, _ => none
  | k + 1, x1, x5, x12, x13, x14 => if x14 = true then (drovewaylaw09_FeudsGroups.l5 k x1 x5 x12 x13 false 0) else (if 0 ≤ x12 then (if x12 < (x5.length : Int) then (if x13 = (rd x5 x12) then (drovewaylaw09_FeudsGroups.l3 k x1 x5 (wrap64 (x12 + 1))) else (some false)) else (none)) else (none))
def drovewaylaw09_FeudsGroups.l5 : Nat → List (S39) → List Int → Int → Int → Bool → Int → Option (Bool)
  | 0, _, _, _, _, _, _ => none
  | k + 1, x1, x5, x12, x13, x14, x15 => if x15 < (x1.length : Int) then (if 0 ≤ x15 then (if 0 ≤ ((rd_T39 x1 x15).f0) then (if 0 ≤ ((rd_T39 x1 x15).f1) then (if ((rd_T39 x1 x15).f2 = true) then (drovewaylaw09_FeudsGroups.l5 k x1 x5 x12 x13 x14 (wrap64 (x15 + 1))) else (if (Int.tmod (shr .i64 x13 ((rd_T39 x1 x15).f0)) 2) = (Int.tmod (shr .i64 x13 ((rd_T39 x1 x15).f1)) 2) then (drovewaylaw09_FeudsGroups.l5 k x1 x5 x12 x13 x14 (wrap64 (x15 + 1))) else (drovewaylaw09_FeudsGroups.l5 k x1 x5 x12 (Go.bits .or .i64 (Go.bits .or .i64 x13 (shl .i64 1 ((rd_T39 x1 x15).f0))) (shl .i64 1 ((rd_T39 x1 x15).f1))) true (wrap64 (x15 + 1))))) else (none)) else (none)) else (none)) else (drovewaylaw09_FeudsGroups.l4 k x1 x5 x12 x13 x14)
end
def drovewaylaw09_FeudsGroups.f (k : Nat) (a0 : Int) (l1 : List (S39)) : Option (Bool) := (drovewaylaw09_few.f l1 ([] : List Int)).bind fun t101 => (if t101 = true then ((drovewayref09_Ties.f k a0 l1).bind fun t102 => (drovewaylaw09_FeudsGroups.j0 k a0 l1 (t102 != 0))) else (drovewaylaw09_FeudsGroups.j0 k a0 l1 true))
theorem drovewaylaw09_FeudsGroups.mono_l : ∀ k, (∀ y0 y1 y2, LeO (drovewaylaw09_FeudsGroups.j0 k y0 y1 y2) (drovewaylaw09_FeudsGroups.j0 (k + 1) y0 y1 y2)) ∧ (∀ y0 y1 y2 y3 y4 y5, LeO (drovewaylaw09_FeudsGroups.l0 k y0 y1 y2 y3 y4 y5) (drovewaylaw09_FeudsGroups.l0 (k + 1) y0 y1 y2 y3 y4 y5)) ∧ (∀ y0 y1 y2 y3 y4 y5 y6, LeO (drovewaylaw09_FeudsGroups.j2 k y0 y1 y2 y3 y4 y5 y6) (drovewaylaw09_FeudsGroups.j2 (k + 1) y0 y1 y2 y3 y4 y5 y6)) ∧ (∀ y0 y1 y2 y3 y4 y5 y6, LeO (drovewaylaw09_FeudsGroups.l1 k y0 y1 y2 y3 y4 y5 y6) (drovewaylaw09_FeudsGroups.l1 (k + 1) y0 y1 y2 y3 y4 y5 y6)) ∧ (∀ y0 y1 y2 y3, LeO (drovewaylaw09_FeudsGroups.l2 k y0 y1 y2 y3) (drovewaylaw09_FeudsGroups.l2 (k + 1) y0 y1 y2 y3)) ∧ (∀ y0 y1 y2, LeO (drovewaylaw09_FeudsGroups.l3 k y0 y1 y2) (drovewaylaw09_FeudsGroups.l3 (k + 1) y0 y1 y2)) ∧ (∀ y0 y1 y2 y3 y4, LeO (drovewaylaw09_FeudsGroups.l4 k y0 y1 y2 y3 y4) (drovewaylaw09_FeudsGroups.l4 (k + 1) y0 y1 y2 y3 y4)) ∧ (∀ y0 y1 y2 y3 y4 y5, LeO (drovewaylaw09_FeudsGroups.l5 k y0 y1 y2 y3 y4 y5) (drovewaylaw09_FeudsGroups.l5 (k + 1) y0 y1 y2 y3 y4 y5))
  | 0 => ⟨fun _ _ _ r h => by simp [drovewaylaw09_FeudsGroups.j0] at h, fun _ _ _ _ _ _ r h => by simp [drovewaylaw09_FeudsGroups.l0] at h, fun _ _ _ _ _ _ _ r h => by simp [drovewaylaw09_FeudsGroups.j2] at h, fun _ _ _ _ _ _ _ r h => by simp [drovewaylaw09_FeudsGroups.l1] at h, fun _ _ _ _ r h => by simp [drovewaylaw09_FeudsGroups.l2] at h, fun _ _ _ r h => by simp [drovewaylaw09_FeudsGroups.l3] at h, fun _ _ _ _ _ r h => by simp [drovewaylaw09_FeudsGroups.l4] at h, fun _ _ _ _ _ _ r h => by simp [drovewaylaw09_FeudsGroups.l5] at h⟩
  | k + 1 => by
    obtain ⟨ih0, ih1, ih2, ih3, ih4, ih5, ih6, ih7⟩ := drovewaylaw09_FeudsGroups.mono_l k
    refine ⟨?_, ?_, ?_, ?_, ?_, ?_, ?_, ?_⟩
    · intro y0 y1 y2
      unfold drovewaylaw09_FeudsGroups.j0
      repeat' first
      | (with_reducible exact ih0 _ _ _)
      | (with_reducible exact ih1 _ _ _ _ _ _)
      | (with_reducible exact ih2 _ _ _ _ _ _ _)
      | (with_reducible exact ih3 _ _ _ _ _ _ _)
      | (with_reducible exact ih4 _ _ _ _)
      | (with_reducible exact ih5 _ _ _)
      | (with_reducible exact ih6 _ _ _ _ _)
      | (with_reducible exact ih7 _ _ _ _ _ _)
      | (with_reducible exact drovewayref09_Ties.mono _ _ _)
      | (with_reducible exact LeO.refl _)
      | (with_reducible exact LeO.none _)
      | (with_reducible refine LeO.ite ?_ ?_)
      | (with_reducible refine LeO.bind ?_ (fun _ => ?_))
      | exact ih0 _ _ _
      | exact ih1 _ _ _ _ _ _
      | exact ih2 _ _ _ _ _ _ _
      | exact ih3 _ _ _ _ _ _ _
      | exact ih4 _ _ _ _
      | exact ih5 _ _ _
      | exact ih6 _ _ _ _ _
      | exact ih7 _ _ _ _ _ _
      | exact drovewayref09_Ties.mono _ _ _
      | exact LeO.none _
      | refine LeO.ite ?_ ?_
      | refine LeO.bind ?_ (fun _ => ?_)
    · intro y0 y1 y2 y3 y4 y5
      unfold drovewaylaw09_FeudsGroups.l0
      repeat' first
      | (with_reducible exact ih0 _ _ _)
      | (with_reducible exact ih1 _ _ _ _ _ _)
      | (with_reducible exact ih2 _ _ _ _ _ _ _)
      | (with_reducible exact ih3 _ _ _ _ _ _ _)
      | (with_reducible exact ih4 _ _ _ _)
      | (with_reducible exact ih5 _ _ _)
      | (with_reducible exact ih6 _ _ _ _ _)
      | (with_reducible exact ih7 _ _ _ _ _ _)
      | (with_reducible exact drovewayref09_Ties.mono _ _ _)
      | (with_reducible exact LeO.refl _)
      | (with_reducible exact LeO.none _)
      | (with_reducible refine LeO.ite ?_ ?_)
      | (with_reducible refine LeO.bind ?_ (fun _ => ?_))
      | exact ih0 _ _ _
      | exact ih1 _ _ _ _ _ _
      | exact ih2 _ _ _ _ _ _ _
      | exact ih3 _ _ _ _ _ _ _
      | exact ih4 _ _ _ _
      | exact ih5 _ _ _
      | exact ih6 _ _ _ _ _
      | exact ih7 _ _ _ _ _ _
      | exact drovewayref09_Ties.mono _ _ _
      | exact LeO.none _
      | refine LeO.ite ?_ ?_
      | refine LeO.bind ?_ (fun _ => ?_)
    · intro y0 y1 y2 y3 y4 y5 y6
      unfold drovewaylaw09_FeudsGroups.j2
      repeat' first
      | (with_reducible exact ih0 _ _ _)
      | (with_reducible exact ih1 _ _ _ _ _ _)
      | (with_reducible exact ih2 _ _ _ _ _ _ _)
      | (with_reducible exact ih3 _ _ _ _ _ _ _)
      | (with_reducible exact ih4 _ _ _ _)
      | (with_reducible exact ih5 _ _ _)
      | (with_reducible exact ih6 _ _ _ _ _)
      | (with_reducible exact ih7 _ _ _ _ _ _)
      | (with_reducible exact drovewayref09_Ties.mono _ _ _)
      | (with_reducible exact LeO.refl _)
      | (with_reducible exact LeO.none _)
      | (with_reducible refine LeO.ite ?_ ?_)
      | (with_reducible refine LeO.bind ?_ (fun _ => ?_))
      | exact ih0 _ _ _
      | exact ih1 _ _ _ _ _ _
      | exact ih2 _ _ _ _ _ _ _
      | exact ih3 _ _ _ _ _ _ _
      | exact ih4 _ _ _ _
      | exact ih5 _ _ _
      | exact ih6 _ _ _ _ _
      | exact ih7 _ _ _ _ _ _
      | exact drovewayref09_Ties.mono _ _ _
      | exact LeO.none _
      | refine LeO.ite ?_ ?_
      | refine LeO.bind ?_ (fun _ => ?_)
    · intro y0 y1 y2 y3 y4 y5 y6
      unfold drovewaylaw09_FeudsGroups.l1
      repeat' first
      | (with_reducible exact ih0 _ _ _)
      | (with_reducible exact ih1 _ _ _ _ _ _)
      | (with_reducible exact ih2 _ _ _ _ _ _ _)
      | (with_reducible exact ih3 _ _ _ _ _ _ _)
      | (with_reducible exact ih4 _ _ _ _)
      | (with_reducible exact ih5 _ _ _)
      | (with_reducible exact ih6 _ _ _ _ _)
      | (with_reducible exact ih7 _ _ _ _ _ _)
      | (with_reducible exact drovewayref09_Ties.mono _ _ _)
      | (with_reducible exact LeO.refl _)
      | (with_reducible exact LeO.none _)
      | (with_reducible refine LeO.ite ?_ ?_)
      | (with_reducible refine LeO.bind ?_ (fun _ => ?_))
      | exact ih0 _ _ _
      | exact ih1 _ _ _ _ _ _
      | exact ih2 _ _ _ _ _ _ _
      | exact ih3 _ _ _ _ _ _ _
      | exact ih4 _ _ _ _
      | exact ih5 _ _ _
      | exact ih6 _ _ _ _ _
      | exact ih7 _ _ _ _ _ _
      | exact drovewayref09_Ties.mono _ _ _
      | exact LeO.none _
      | refine LeO.ite ?_ ?_
      | refine LeO.bind ?_ (fun _ => ?_)
    · intro y0 y1 y2 y3
      unfold drovewaylaw09_FeudsGroups.l2
      repeat' first
      | (with_reducible exact ih0 _ _ _)
      | (with_reducible exact ih1 _ _ _ _ _ _)
      | (with_reducible exact ih2 _ _ _ _ _ _ _)
      | (with_reducible exact ih3 _ _ _ _ _ _ _)
      | (with_reducible exact ih4 _ _ _ _)
      | (with_reducible exact ih5 _ _ _)
      | (with_reducible exact ih6 _ _ _ _ _)
      | (with_reducible exact ih7 _ _ _ _ _ _)
      | (with_reducible exact drovewayref09_Ties.mono _ _ _)
      | (with_reducible exact LeO.refl _)
      | (with_reducible exact LeO.none _)
      | (with_reducible refine LeO.ite ?_ ?_)
      | (with_reducible refine LeO.bind ?_ (fun _ => ?_))
      | exact ih0 _ _ _
      | exact ih1 _ _ _ _ _ _
      | exact ih2 _ _ _ _ _ _ _
      | exact ih3 _ _ _ _ _ _ _
      | exact ih4 _ _ _ _
      | exact ih5 _ _ _
      | exact ih6 _ _ _ _ _
      | exact ih7 _ _ _ _ _ _
      | exact drovewayref09_Ties.mono _ _ _
      | exact LeO.none _
      | refine LeO.ite ?_ ?_
      | refine LeO.bind ?_ (fun _ => ?_)
    · intro y0 y1 y2
      unfold drovewaylaw09_FeudsGroups.l3
      repeat' first
      | (with_reducible exact ih0 _ _ _)
      | (with_reducible exact ih1 _ _ _ _ _ _)
      | (with_reducible exact ih2 _ _ _ _ _ _ _)
      | (with_reducible exact ih3 _ _ _ _ _ _ _)
      | (with_reducible exact ih4 _ _ _ _)
      | (with_reducible exact ih5 _ _ _)
      | (with_reducible exact ih6 _ _ _ _ _)
      | (with_reducible exact ih7 _ _ _ _ _ _)
      | (with_reducible exact drovewayref09_Ties.mono _ _ _)
      | (with_reducible exact LeO.refl _)
      | (with_reducible exact LeO.none _)
      | (with_reducible refine LeO.ite ?_ ?_)
      | (with_reducible refine LeO.bind ?_ (fun _ => ?_))
      | exact ih0 _ _ _
      | exact ih1 _ _ _ _ _ _
      | exact ih2 _ _ _ _ _ _ _
      | exact ih3 _ _ _ _ _ _ _
      | exact ih4 _ _ _ _
      | exact ih5 _ _ _
      | exact ih6 _ _ _ _ _
      | exact ih7 _ _ _ _ _ _
      | exact drovewayref09_Ties.mono _ _ _
      | exact LeO.none _
      | refine LeO.ite ?_ ?_
      | refine LeO.bind ?_ (fun _ => ?_)
    · intro y0 y1 y2 y3 y4
      unfold drovewaylaw09_FeudsGroups.l4
      repeat' first
      | (with_reducible exact ih0 _ _ _)
      | (with_reducible exact ih1 _ _ _ _ _ _)
      | (with_reducible exact ih2 _ _ _ _ _ _ _)
      | (with_reducible exact ih3 _ _ _ _ _ _ _)
      | (with_reducible exact ih4 _ _ _ _)
      | (with_reducible exact ih5 _ _ _)
      | (with_reducible exact ih6 _ _ _ _ _)
      | (with_reducible exact ih7 _ _ _ _ _ _)
      | (with_reducible exact drovewayref09_Ties.mono _ _ _)
      | (with_reducible exact LeO.refl _)
      | (with_reducible exact LeO.none _)
      | (with_reducible refine LeO.ite ?_ ?_)
      | (with_reducible refine LeO.bind ?_ (fun _ => ?_))
      | exact ih0 _ _ _
      | exact ih1 _ _ _ _ _ _
      | exact ih2 _ _ _ _ _ _ _
      | exact ih3 _ _ _ _ _ _ _
      | exact ih4 _ _ _ _
      | exact ih5 _ _ _
      | exact ih6 _ _ _ _ _
      | exact ih7 _ _ _ _ _ _
      | exact drovewayref09_Ties.mono _ _ _
      | exact LeO.none _
      | refine LeO.ite ?_ ?_
      | refine LeO.bind ?_ (fun _ => ?_)
    · intro y0 y1 y2 y3 y4 y5
      unfold drovewaylaw09_FeudsGroups.l5
      repeat' first
      | (with_reducible exact ih0 _ _ _)
      | (with_reducible exact ih1 _ _ _ _ _ _)
      | (with_reducible exact ih2 _ _ _ _ _ _ _)
      | (with_reducible exact ih3 _ _ _ _ _ _ _)
      | (with_reducible exact ih4 _ _ _ _)
      | (with_reducible exact ih5 _ _ _)
      | (with_reducible exact ih6 _ _ _ _ _)
      | (with_reducible exact ih7 _ _ _ _ _ _)
      | (with_reducible exact drovewayref09_Ties.mono _ _ _)
      | (with_reducible exact LeO.refl _)
      | (with_reducible exact LeO.none _)
      | (with_reducible refine LeO.ite ?_ ?_)
      | (with_reducible refine LeO.bind ?_ (fun _ => ?_))
      | exact ih0 _ _ _
      | exact ih1 _ _ _ _ _ _
      | exact ih2 _ _ _ _ _ _ _
      | exact ih3 _ _ _ _ _ _ _
      | exact ih4 _ _ _ _
      | exact ih5 _ _ _
      | exact ih6 _ _ _ _ _
      | exact ih7 _ _ _ _ _ _
      | exact drovewayref09_Ties.mono _ _ _
      | exact LeO.none _
      | refine LeO.ite ?_ ?_
      | refine LeO.bind ?_ (fun _ => ?_)
theorem drovewaylaw09_FeudsGroups.mono : ∀ a0 a1 k, LeO (drovewaylaw09_FeudsGroups.f k a0 a1) (drovewaylaw09_FeudsGroups.f (k + 1) a0 a1) := by
  intro a0 a1 k
  obtain ⟨ih0, ih1, ih2, ih3, ih4, ih5, ih6, ih7⟩ := drovewaylaw09_FeudsGroups.mono_l k
  unfold drovewaylaw09_FeudsGroups.f
  repeat' first
      | (with_reducible exact ih0 _ _ _)
      | (with_reducible exact ih1 _ _ _ _ _ _)
      | (with_reducible exact ih2 _ _ _ _ _ _ _)
      | (with_reducible exact ih3 _ _ _ _ _ _ _)
      | (with_reducible exact ih4 _ _ _ _)
      | (with_reducible exact ih5 _ _ _)
      | (with_reducible exact ih6 _ _ _ _ _)
      | (with_reducible exact ih7 _ _ _ _ _ _)
      | (with_reducible exact drovewayref09_Ties.mono _ _ _)
      | (with_reducible exact LeO.refl _)
      | (with_reducible exact LeO.none _)
      | (with_reducible refine LeO.ite ?_ ?_)
      | (with_reducible refine LeO.bind ?_ (fun _ => ?_))
      | exact ih0 _ _ _
      | exact ih1 _ _ _ _ _ _
      | exact ih2 _ _ _ _ _ _ _
      | exact ih3 _ _ _ _ _ _ _
      | exact ih4 _ _ _ _
      | exact ih5 _ _ _
      | exact ih6 _ _ _ _ _
      | exact ih7 _ _ _ _ _ _
      | exact drovewayref09_Ties.mono _ _ _
      | exact LeO.none _
      | refine LeO.ite ?_ ?_
      | refine LeO.bind ?_ (fun _ => ?_)
set_option maxHeartbeats 8000000 in
set_option maxRecDepth 100000 in
theorem drovewaylaw09_FeudsGroups.calls (k : Nat) (a0 : Int) (A1 : Option Addr) (c1 : Nat) (l1 : List (S39)) (r : Bool) (w : World) (hr1 : Kd.C k39 w A1 l1.length l1) (hc1 : l1.length ≤ c1) (h : drovewaylaw09_FeudsGroups.f k a0 l1 = some r) :
    Calls Try.prog 5 #[.int .i64 a0, .slice A1 l1.length c1] w fun e w' => e = .returned (.bool r) ∧ Below w.heap.size w w' := by
  have HR1 := Aside0.mk hr1
  have HC1 := Aside0.mk hc1
  clear hr1 hc1
  have HB := Aside0.mk (Below.refl w.heap.size w)
  have H : ((drovewaylaw09_few.f l1 ([] : List Int)).bind fun t101 => (if t101 = true then ((drovewayref09_Ties.f k a0 l1).bind fun t102 => (drovewaylaw09_FeudsGroups.j0 k a0 l1 (t102 != 0))) else (drovewaylaw09_FeudsGroups.j0 k a0 l1 true))) = some r := h
  clear h
  have HC3 := Aside0.mk H
  clear H
  go_enter Try.func5, Try.ntmps5
  go_upto_region 1 with (fail)
  repeat (go_quiet (fail); go_upto_region 1 with (fail))
  go_cut [26] (fun v26 wc => ∃ (kq : Nat) (x26_2 : Bool), v26 = .bool x26_2 ∧ Aside0 (drovewaylaw09_FeudsGroups.j0 kq a0 l1 x26_2 = some r) ∧ Aside0 (kq ≤ k) ∧ Aside0 (Below w.heap.size w wc))
  case first =>
    have H := HC3.out
    clear HC3
    replace H := Option.bind_eq_some_iff.mp H
    obtain ⟨t101, A40, H⟩ := H
    replace H : (if t101 = true then ((drovewayref09_Ties.f k a0 l1).bind fun t102 => (drovewaylaw09_FeudsGroups.j0 k a0 l1 (t102 != 0))) else (drovewaylaw09_FeudsGroups.j0 k a0 l1 true)) = some r := H
    have A4 := Aside0.mk A40
    clear A40
    by_cases c5 : t101 = true
    · subst c5
      have H1 : ((drovewayref09_Ties.f k a0 l1).bind fun t102 => (drovewaylaw09_FeudsGroups.j0 k a0 l1 (t102 != 0))) = some r := by rw [if_pos rfl] at H; exact H
      clear H
      have H := H1
      clear H1
      replace H := Option.bind_eq_some_iff.mp H
      obtain ⟨t102, A60, H⟩ := H
      replace H : (drovewaylaw09_FeudsGroups.j0 k a0 l1 (t102 != 0)) = some r := H
      have A6 := Aside0.mk A60
      clear A60
      have H' := Aside0.mk H
      clear H
      go_wp2_with (first | (go_at_call 16; (refine (drovewaylaw09_few.calls _ _ l1 _ _ ([] : List Int) true _ ?side1 ?side2 ?side3 ?side4 A4.out).mono ?_); (case side1 => repeat (first | exact (Kd.C_below HR1.out HB.out) | (with_reducible refine Kd.C_alloc ?_ _) | (with_reducible refine Kd.C_drewN ?_ _) | (with_reducible refine Kd.C_drew ?_))); (case side2 => exact HC1.out); (case side3 => exact Kd.C_nil _ _); (case side4 => exact Nat.le_refl _); rintro e w' ⟨rfl, ⟨nd, rfl⟩⟩; (try first | exact ⟨rfl, _, World.drewN_drewN _ _ _⟩ | exact ⟨rfl, _, Eq.trans (World.drewN_drewN _ _ _) (congrArg (World.drewN _) (Nat.add_assoc _ _ _))⟩)) | (go_at_call 24; (with_reducible refine (drovewayref09_Ties.calls k a0 _ _ l1 t102 _ ?side1 ?side2 A6.out).mono ?_); (case side1 => repeat (first | exact (Kd.C_below HR1.out (by repeat (first | (with_reducible first | exact HB.out | apply below_alloc | apply pw_below_drewN | apply below_drew1) | exact HB.out))) | (with_reducible refine Kd.C_alloc ?_ _) | (with_reducible refine Kd.C_drewN ?_ _) | (with_reducible refine Kd.C_drew ?_))); (case side2 => exact HC1.out); rintro e w' ⟨rfl, ⟨nd, rfl⟩⟩; (try first | exact ⟨rfl, _, World.drewN_drewN _ _ _⟩ | exact ⟨rfl, _, Eq.trans (World.drewN_drewN _ _ _) (congrArg (World.drewN _) (Nat.add_assoc _ _ _))⟩)))
      repeat (go_quiet (first | (go_at_call 16; (refine (drovewaylaw09_few.calls _ _ l1 _ _ ([] : List Int) true _ ?side1 ?side2 ?side3 ?side4 A4.out).mono ?_); (case side1 => repeat (first | exact (Kd.C_below HR1.out HB.out) | (with_reducible refine Kd.C_alloc ?_ _) | (with_reducible refine Kd.C_drewN ?_ _) | (with_reducible refine Kd.C_drew ?_))); (case side2 => exact HC1.out); (case side3 => exact Kd.C_nil _ _); (case side4 => exact Nat.le_refl _); rintro e w' ⟨rfl, ⟨nd, rfl⟩⟩; (try first | exact ⟨rfl, _, World.drewN_drewN _ _ _⟩ | exact ⟨rfl, _, Eq.trans (World.drewN_drewN _ _ _) (congrArg (World.drewN _) (Nat.add_assoc _ _ _))⟩)) | (go_at_call 24; (with_reducible refine (drovewayref09_Ties.calls k a0 _ _ l1 t102 _ ?side1 ?side2 A6.out).mono ?_); (case side1 => repeat (first | exact (Kd.C_below HR1.out (by repeat (first | (with_reducible first | exact HB.out | apply below_alloc | apply pw_below_drewN | apply below_drew1) | exact HB.out))) | (with_reducible refine Kd.C_alloc ?_ _) | (with_reducible refine Kd.C_drewN ?_ _) | (with_reducible refine Kd.C_drew ?_))); (case side2 => exact HC1.out); rintro e w' ⟨rfl, ⟨nd, rfl⟩⟩; (try first | exact ⟨rfl, _, World.drewN_drewN _ _ _⟩ | exact ⟨rfl, _, Eq.trans (World.drewN_drewN _ _ _) (congrArg (World.drewN _) (Nat.add_assoc _ _ _))⟩))); try go_wp2_with (first | (go_at_call 16; (refine (drovewaylaw09_few.calls _ _ l1 _ _ ([] : List Int) true _ ?side1 ?side2 ?side3 ?side4 A4.out).mono ?_); (case side1 => repeat (first | exact (Kd.C_below HR1.out HB.out) | (with_reducible refine Kd.C_alloc ?_ _) | (with_reducible refine Kd.C_drewN ?_ _) | (with_reducible refine Kd.C_drew ?_))); (case side2 => exact HC1.out); (case side3 => exact Kd.C_nil _ _); (case side4 => exact Nat.le_refl _); rintro e w' ⟨rfl, ⟨nd, rfl⟩⟩; (try first | exact ⟨rfl, _, World.drewN_drewN _ _ _⟩ | exact ⟨rfl, _, Eq.trans (World.drewN_drewN _ _ _) (congrArg (World.drewN _) (Nat.add_assoc _ _ _))⟩)) | (go_at_call 24; (with_reducible refine (drovewayref09_Ties.calls k a0 _ _ l1 t102 _ ?side1 ?side2 A6.out).mono ?_); (case side1 => repeat (first | exact (Kd.C_below HR1.out (by repeat (first | (with_reducible first | exact HB.out | apply below_alloc | apply pw_below_drewN | apply below_drew1) | exact HB.out))) | (with_reducible refine Kd.C_alloc ?_ _) | (with_reducible refine Kd.C_drewN ?_ _) | (with_reducible refine Kd.C_drew ?_))); (case side2 => exact HC1.out); rintro e w' ⟨rfl, ⟨nd, rfl⟩⟩; (try first | exact ⟨rfl, _, World.drewN_drewN _ _ _⟩ | exact ⟨rfl, _, Eq.trans (World.drewN_drewN _ _ _) (congrArg (World.drewN _) (Nat.add_assoc _ _ _))⟩))))
      go_meet
      case rel => exact ⟨_, ((t102 != 0)), (by first | rfl | (simp; done) | (simp [*]; done)), H', ⟨by first | omega | exact Nat.le_refl _⟩, ⟨by repeat (first | (with_reducible first | exact HB.out | apply below_alloc | apply pw_below_drewN | apply below_drew1) | exact HB.out)⟩⟩
    · replace c5 := Bool.eq_false_iff.mpr c5
      subst c5
      have H1 : (drovewaylaw09_FeudsGroups.j0 k a0 l1 true) = some r := by rw [if_neg (show ¬ (false = true) by decide)] at H; exact H
      clear H
      have H := H1
      clear H1
      have H' := Aside0.mk H
      clear H
      go_wp2_with (first | (go_at_call 16; (refine (drovewaylaw09_few.calls _ _ l1 _ _ ([] : List Int) false _ ?side1 ?side2 ?side3 ?side4 A4.out).mono ?_); (case side1 => repeat (first | exact (Kd.C_below HR1.out HB.out) | (with_reducible refine Kd.C_alloc ?_ _) | (with_reducible refine Kd.C_drewN ?_ _) | (with_reducible refine Kd.C_drew ?_))); (case side2 => exact HC1.out); (case side3 => exact Kd.C_nil _ _); (case side4 => exact Nat.le_refl _); rintro e w' ⟨rfl, ⟨nd, rfl⟩⟩; (try first | exact ⟨rfl, _, World.drewN_drewN _ _ _⟩ | exact ⟨rfl, _, Eq.trans (World.drewN_drewN _ _ _) (congrArg (World.drewN _) (Nat.add_assoc _ _ _))⟩)))
      repeat (go_quiet (first | (go_at_call 16; (refine (drovewaylaw09_few.calls _ _ l1 _ _ ([] : List Int) false _ ?side1 ?side2 ?side3 ?side4 A4.out).mono ?_); (case side1 => repeat (first | exact (Kd.C_below HR1.out HB.out) | (with_reducible refine Kd.C_alloc ?_ _) | (with_reducible refine Kd.C_drewN ?_ _) | (with_reducible refine Kd.C_drew ?_))); (case side2 => exact HC1.out); (case side3 => exact Kd.C_nil _ _); (case side4 => exact Nat.le_refl _); rintro e w' ⟨rfl, ⟨nd, rfl⟩⟩; (try first | exact ⟨rfl, _, World.drewN_drewN _ _ _⟩ | exact ⟨rfl, _, Eq.trans (World.drewN_drewN _ _ _) (congrArg (World.drewN _) (Nat.add_assoc _ _ _))⟩))); try go_wp2_with (first | (go_at_call 16; (refine (drovewaylaw09_few.calls _ _ l1 _ _ ([] : List Int) false _ ?side1 ?side2 ?side3 ?side4 A4.out).mono ?_); (case side1 => repeat (first | exact (Kd.C_below HR1.out HB.out) | (with_reducible refine Kd.C_alloc ?_ _) | (with_reducible refine Kd.C_drewN ?_ _) | (with_reducible refine Kd.C_drew ?_))); (case side2 => exact HC1.out); (case side3 => exact Kd.C_nil _ _); (case side4 => exact Nat.le_refl _); rintro e w' ⟨rfl, ⟨nd, rfl⟩⟩; (try first | exact ⟨rfl, _, World.drewN_drewN _ _ _⟩ | exact ⟨rfl, _, Eq.trans (World.drewN_drewN _ _ _) (congrArg (World.drewN _) (Nat.add_assoc _ _ _))⟩))))
      go_meet
      case rel => exact ⟨_, (true), (by first | rfl | (simp; done) | (simp [*]; done)), H', ⟨by first | omega | exact Nat.le_refl _⟩, ⟨by repeat (first | (with_reducible first | exact HB.out | apply below_alloc | apply pw_below_drewN | apply below_drew1) | exact HB.out)⟩⟩
  case rest =>
    clear HC3
    try clear c1
    try clear p2
    try clear c5
    obtain ⟨kq, x26_2, rfl, HA, HJ2, HB⟩ := hcut
    cases kq with
    | zero => exact absurd HA.out (by simp [drovewaylaw09_FeudsGroups.j0])
    | succ kj2 =>
      have H := HA.out
      clear HA
      simp only [drovewaylaw09_FeudsGroups.j0] at H
      by_cases c7 : x26_2 = true
      · subst c7
        have H1 : ((drovewaylaw09_alive.f).bind fun t103 => (some t103)) = some r := by rw [if_pos rfl] at H; exact H
        clear H
        have H := H1
        clear H1
        replace H := Option.bind_eq_some_iff.mp H
        obtain ⟨t103, A80, H⟩ := H
        replace H : (some t103) = some r := H
        have A8 := Aside0.mk A80
        clear A80
        obtain rfl := Option.some.inj H
        go_wp2_with (first | (go_at_call 17; (with_reducible refine (drovewaylaw09_alive.calls  t103 _ A8.out).mono ?_); rintro e w9 ⟨rfl, hb⟩; have n0_ := Aside0.mk (below_step (by repeat (first | (with_reducible first | exact HB.out | apply below_alloc | apply pw_below_drewN | apply below_drew1) | exact HB.out)) hb); clear HB; have HB := n0_; clear n0_; (try clear hb); (try clear hb2); (try clear hk); (try clear hi)))
        repeat (go_quiet (first | (go_at_call 17; (with_reducible refine (drovewaylaw09_alive.calls  t103 _ A8.out).mono ?_); rintro e w9 ⟨rfl, hb⟩; have n0_ := Aside0.mk (below_step (by repeat (first | (with_reducible first | exact HB.out | apply below_alloc | apply pw_below_drewN | apply below_drew1) | exact HB.out)) hb); clear HB; have HB := n0_; clear n0_; (try clear hb); (try clear hb2); (try clear hk); (try clear hi))); try go_wp2_with (first | (go_at_call 17; (with_reducible refine (drovewaylaw09_alive.calls  t103 _ A8.out).mono ?_); rintro e w9 ⟨rfl, hb⟩; have n0_ := Aside0.mk (below_step (by repeat (first | (with_reducible first | exact HB.out | apply below_alloc | apply pw_below_drewN | apply below_drew1) | exact HB.out)) hb); clear HB; have HB := n0_; clear n0_; (try clear hb); (try clear hb2); (try clear hk); (try clear hi))))
        go_ret
        exact ⟨by first | rfl | (simp [errW_none, errW_some] <;> rfl) | (simp [*, errW_none, errW_some] <;> rfl), by repeat (first | (with_reducible first | exact HB.out | apply below_alloc | apply pw_below_drewN | apply below_drew1) | exact HB.out)⟩
      · replace c7 := Bool.eq_false_iff.mpr c7
        subst c7
        have H1 : ((feuds_Clans.f a0 l1).bind fun bt104 => (if bt104.2 = 0 then (if 0 ≤ a0 then (if (a0 : Int).toNat ≤ 35184372088832 then (drovewaylaw09_FeudsGroups.l0 kj2 a0 l1 bt104.1 (List.replicate (a0 : Int).toNat 0) 0 0) else (none)) else (none)) else (if bt104.2 = 10 then (if (bt104.1.length : Int) = 0 then ((drovewaylaw09_alive.f).bind fun t108 => (some t108)) else (some false)) else (some false)))) = some r := by rw [if_neg (show ¬ (false = true) by decide)] at H; exact H
        clear H
        have H := H1
        clear H1
        replace H := Option.bind_eq_some_iff.mp H
        obtain ⟨⟨t104, t105⟩, A100, H⟩ := H
        replace H : (if t105 = 0 then (if 0 ≤ a0 then (if (a0 : Int).toNat ≤ 35184372088832 then (drovewaylaw09_FeudsGroups.l0 kj2 a0 l1 t104 (List.replicate (a0 : Int).toNat 0) 0 0) else (none)) else (none)) else (if t105 = 10 then (if (t104.length : Int) = 0 then ((drovewaylaw09_alive.f).bind fun t108 => (some t108)) else (some false)) else (some false))) = some r := H
        have A10 := Aside0.mk A100
        clear A100
        by_cases c11 : t105 = 0
        · rw [if_pos c11] at H
          have c11b0 : (t105 == 0) = true := beq_iff_eq.mpr c11
          have c11b1 : (t105 != 0) = false := bne_eq_false_iff_eq.mpr c11
          clear c11
          by_cases c12 : 0 ≤ a0
          · rw [if_pos c12] at H
            have c12b0 := eq_true c12
            have c12b1 : decide (0 ≤ a0) = true := decide_eq_true c12
            clear c12
            by_cases c13 : (a0 : Int).toNat ≤ 35184372088832
            · rw [if_pos c13] at H
              have c13b0 := eq_true c13
              have c13b1 : decide ((a0 : Int).toNat ≤ 35184372088832) = true := decide_eq_true c13
              clear c13
              obtain ⟨y109, hy109⟩ : ∃ y_ : List Int, y_ = (List.replicate (a0 : Int).toNat 0) := ⟨_, rfl⟩
              replace H : (drovewaylaw09_FeudsGroups.l0 kj2 a0 l1 t104 y109 0 0) = some r := by first | (rw [hy109]; with_reducible exact H) | (have H2_ := (Option.bind_some _ _).symm.trans H; rw [hy109]; with_reducible exact H2_) | (have H2_ := (Option.bind_some _ _).symm.trans H; with_reducible exact H2_) | with_reducible exact H | (rw [hy109]; exact H) | exact H
              have Ny109 := Aside0.mk hy109
              clear hy109
              have H' := Aside0.mk H
              clear H
              go_wp2_with (first | (go_at_call 26; (with_reducible refine (feuds_Clans.calls a0 _ _ l1 t104 t105 _ ?side1 ?side2 A10.out).mono ?_); (case side1 => repeat (first | exact (Kd.C_below HR1.out HB.out) | (with_reducible refine Kd.C_alloc ?_ _) | (with_reducible refine Kd.C_drewN ?_ _) | (with_reducible refine Kd.C_drew ?_))); (case side2 => exact HC1.out); rintro e w14 ⟨v106, rfl, ho0, hb⟩; have n0_ := Aside0.mk (Kd.R_lower ho0 (below_size (by repeat (first | (with_reducible first | exact HB.out | apply below_alloc | apply pw_below_drewN | apply below_drew1) | exact HB.out)))); have n1_ := Aside0.mk (below_step (by repeat (first | (with_reducible first | exact HB.out | apply below_alloc | apply pw_below_drewN | apply below_drew1) | exact HB.out)) hb); clear HB; have HO107 := n0_; have HB := n1_; clear n0_ n1_; (try clear hb); (try clear hb2); (try clear hk); (try clear hi); (try clear ho0)) | ((with_reducible refine gate_dst (N := 47) rfl ?_); (try (refine gate_guard (by rfl) ?_; dsimp only)); refine Kd.R_make (Kd.int .i64) _ 3 rfl (N := 47) rfl 28 _ _ rfl a0 rfl rfl Try.underlying28 (.int .i64 0) 8 info3 rfl (by decide) (by omega) 0 (ok := fun _ => True) (okp := fun _ => True) rfl (fun _ hk => hk) trivial (of_decide_eq_true (by first | (with_reducible assumption) | assumption)) (Nat.le_trans (Nat.mul_le_mul_right _ (of_decide_eq_true (by first | (with_reducible assumption) | assumption) : a0.toNat ≤ 35184372088832)) (by omega)) (Below.refl _ _) (Nat.le_refl _) ?_; intro v110 w15 ho16 hb hg_ hnew_; clear hg_ hnew_; (first | rw [← Ny109.out] at ho16 | (simp only [Int.reduceToNat] at ho16; rw [← Ny109.out] at ho16)); have n0_ := Aside0.mk (Kd.R_elder' (by (with_reducible repeat (first | apply Kd.R_alloc | apply Kd.R_drewN | apply Kd.R_drew)); exact HO107.out) (Kd.R_base ho16) hb); have n1_ := Aside0.mk (Kd.R_lower (Kd.R_new' ho16 (Kd.R_lt (by (with_reducible repeat (first | apply Kd.R_alloc | apply Kd.R_drewN | apply Kd.R_drew)); exact HO107.out))) (below_size (by repeat (first | (with_reducible first | exact HB.out | apply below_alloc | apply pw_below_drewN | apply below_drew1) | exact HB.out)))); have n2_ := Aside0.mk (below_step (by repeat (first | (with_reducible first | exact HB.out | apply below_alloc | apply pw_below_drewN | apply below_drew1) | exact HB.out)) hb); clear HO107; clear HB; have HO107 := n0_; have HO111 := n1_; have HB := n2_; clear n0_ n1_ n2_; clear hb ho16))
              repeat (go_quiet (first | (go_at_call 26; (with_reducible refine (feuds_Clans.calls a0 _ _ l1 t104 t105 _ ?side1 ?side2 A10.out).mono ?_); (case side1 => repeat (first | exact (Kd.C_below HR1.out HB.out) | (with_reducible refine Kd.C_alloc ?_ _) | (with_reducible refine Kd.C_drewN ?_ _) | (with_reducible refine Kd.C_drew ?_))); (case side2 => exact HC1.out); rintro e w14 ⟨v106, rfl, ho0, hb⟩; have n0_ := Aside0.mk (Kd.R_lower ho0 (below_size (by repeat (first | (with_reducible first | exact HB.out | apply below_alloc | apply pw_below_drewN | apply below_drew1) | exact HB.out)))); have n1_ := Aside0.mk (below_step (by repeat (first | (with_reducible first | exact HB.out | apply below_alloc | apply pw_below_drewN | apply below_drew1) | exact HB.out)) hb); clear HB; have HO107 := n0_; have HB := n1_; clear n0_ n1_; (try clear hb); (try clear hb2); (try clear hk); (try clear hi); (try clear ho0)) | ((with_reducible refine gate_dst (N := 47) rfl ?_); (try (refine gate_guard (by rfl) ?_; dsimp only)); refine Kd.R_make (Kd.int .i64) _ 3 rfl (N := 47) rfl 28 _ _ rfl a0 rfl rfl Try.underlying28 (.int .i64 0) 8 info3 rfl (by decide) (by omega) 0 (ok := fun _ => True) (okp := fun _ => True) rfl (fun _ hk => hk) trivial (of_decide_eq_true (by first | (with_reducible assumption) | assumption)) (Nat.le_trans (Nat.mul_le_mul_right _ (of_decide_eq_true (by first | (with_reducible assumption) | assumption) : a0.toNat ≤ 35184372088832)) (by omega)) (Below.refl _ _) (Nat.le_refl _) ?_; intro v110 w15 ho16 hb hg_ hnew_; clear hg_ hnew_; (first | rw [← Ny109.out] at ho16 | (simp only [Int.reduceToNat] at ho16; rw [← Ny109.out] at ho16)); have n0_ := Aside0.mk (Kd.R_elder' (by (with_reducible repeat (first | apply Kd.R_alloc | apply Kd.R_drewN | apply Kd.R_drew)); exact HO107.out) (Kd.R_base ho16) hb); have n1_ := Aside0.mk (Kd.R_lower (Kd.R_new' ho16 (Kd.R_lt (by (with_reducible repeat (first | apply Kd.R_alloc | apply Kd.R_drewN | apply Kd.R_drew)); exact HO107.out))) (below_size (by repeat (first | (with_reducible first | exact HB.out | apply below_alloc | apply pw_below_drewN | apply below_drew1) | exact HB.out)))); have n2_ := Aside0.mk (below_step (by repeat (first | (with_reducible first | exact HB.out | apply below_alloc | apply pw_below_drewN | apply below_drew1) | exact HB.out)) hb); clear HO107; clear HB; have HO107 := n0_; have HO111 := n1_; have HB := n2_; clear n0_ n1_ n2_; clear hb ho16)); try go_wp2_with (first | (go_at_call 26; (with_reducible refine (feuds_Clans.calls a0 _ _ l1 t104 t105 _ ?side1 ?side2 A10.out).mono ?_); (case side1 => repeat (first | exact (Kd.C_below HR1.out HB.out) | (with_reducible refine Kd.C_alloc ?_ _) | (with_reducible refine Kd.C_drewN ?_ _) | (with_reducible refine Kd.C_drew ?_))); (case side2 => exact HC1.out); rintro e w14 ⟨v106, rfl, ho0, hb⟩; have n0_ := Aside0.mk (Kd.R_lower ho0 (below_size (by repeat (first | (with_reducible first | exact HB.out | apply below_alloc | apply pw_below_drewN | apply below_drew1) | exact HB.out)))); have n1_ := Aside0.mk (below_step (by repeat (first | (with_reducible first | exact HB.out | apply below_alloc | apply pw_below_drewN | apply below_drew1) | exact HB.out)) hb); clear HB; have HO107 := n0_; have HB := n1_; clear n0_ n1_; (try clear hb); (try clear hb2); (try clear hk); (try clear hi); (try clear ho0)) | ((with_reducible refine gate_dst (N := 47) rfl ?_); (try (refine gate_guard (by rfl) ?_; dsimp only)); refine Kd.R_make (Kd.int .i64) _ 3 rfl (N := 47) rfl 28 _ _ rfl a0 rfl rfl Try.underlying28 (.int .i64 0) 8 info3 rfl (by decide) (by omega) 0 (ok := fun _ => True) (okp := fun _ => True) rfl (fun _ hk => hk) trivial (of_decide_eq_true (by first | (with_reducible assumption) | assumption)) (Nat.le_trans (Nat.mul_le_mul_right _ (of_decide_eq_true (by first | (with_reducible assumption) | assumption) : a0.toNat ≤ 35184372088832)) (by omega)) (Below.refl _ _) (Nat.le_refl _) ?_; intro v110 w15 ho16 hb hg_ hnew_; clear hg_ hnew_; (first | rw [← Ny109.out] at ho16 | (simp only [Int.reduceToNat] at ho16; rw [← Ny109.out] at ho16)); have n0_ := Aside0.mk (Kd.R_elder' (by (with_reducible repeat (first | apply Kd.R_alloc | apply Kd.R_drewN | apply Kd.R_drew)); exact HO107.out) (Kd.R_base ho16) hb); have n1_ := Aside0.mk (Kd.R_lower (Kd.R_new' ho16 (Kd.R_lt (by (with_reducible repeat (first | apply Kd.R_alloc | apply Kd.R_drewN | apply Kd.R_drew)); exact HO107.out))) (below_size (by repeat (first | (with_reducible first | exact HB.out | apply below_alloc | apply pw_below_drewN | apply below_drew1) | exact HB.out)))); have n2_ := Aside0.mk (below_step (by repeat (first | (with_reducible first | exact HB.out | apply below_alloc | apply pw_below_drewN | apply below_drew1) | exact HB.out)) hb); clear HO107; clear HB; have HO107 := n0_; have HO111 := n1_; have HB := n2_; clear n0_ n1_ n2_; clear hb ho16)))
              go_loopg [8, 9] kj2 (fun kq v8 v9 w' => ∃ (x7_2 : List Int) (x8_2 : Int) (x9_2 : Int), v8 = .int .i64 x8_2 ∧ v9 = .int .i64 x9_2 ∧ Aside0 (drovewaylaw09_FeudsGroups.l0 kq a0 l1 t104 x7_2 x8_2 x9_2 = some r) ∧ Aside0 (kq ≤ kj2) ∧ Aside0 (Kd.R (Kd.int .i64) 3 w' w.heap.size (fun k_ => some k_ ≠ (v110 : Value).ownBlock) v106 t104) ∧ Aside0 (Kd.R (Kd.int .i64) 3 w' w.heap.size (fun k_ => some k_ ≠ (v106 : Value).ownBlock) v110 x7_2) ∧ Aside0 (Below w.heap.size w w'))
              case atStart => exact ⟨(y109), (0), (0), (by first | rfl | (simp; done) | (simp [*]; done)), (by first | rfl | (simp; done) | (simp [*]; done)), H', ⟨Nat.le_refl _⟩, ⟨by (with_reducible repeat (first | apply Kd.R_alloc | apply Kd.R_drewN | apply Kd.R_drew)); exact Kd.R_mono HO107.out (fun _ hk => hk.2)⟩, ⟨by (with_reducible repeat (first | apply Kd.R_alloc | apply Kd.R_drewN | apply Kd.R_drew)); exact Kd.R_mono HO111.out (fun _ hk => hk.2)⟩, ⟨by repeat (first | (with_reducible first | exact HB.out | apply below_alloc | apply pw_below_drewN | apply below_drew1) | exact HB.out)⟩⟩
              case round => as_aux_lemma =>
                clear H'
                try clear c1
                try clear p2
                try clear c5
                try clear c7
                try clear c11
                try clear c11b0
                try clear c11b1
                try clear c12
                try clear c12b0
                try clear c12b1
                try clear c13
                try clear c13b0
                try clear c13b1
                try clear p2
                obtain ⟨x7_2, x8_2, x9_2, rfl, rfl, HA, HK2, HO_5, HO_7, HB⟩ := hrel
                cases gk with
                | zero => exact absurd HA.out (by simp [drovewaylaw09_FeudsGroups.l0])
                | succ k2 =>
                  have H := HA.out
                  clear HA
                  simp only [drovewaylaw09_FeudsGroups.l0] at H
                  by_cases c17 : x9_2 < (t104.length : Int)
                  · rw [if_pos c17] at H
                    have c17b0 : decide (x9_2 < (t104.length : Int)) = true := decide_eq_true c17
                    clear c17
                    have HC18 := Aside0.mk H
                    clear H
                    obtain ⟨Ao19, co19, eo19⟩ := Kd.R_slice HO_5.out
                    subst eo19
                    go_upto_region 11 with (fail)
                    repeat (go_quiet (fail); go_upto_region 11 with (fail))
                    go_cut [92] (fun v92 wc => ∃ (kq : Nat) (x92_17 : Bool), v92 = .bool x92_17 ∧ Aside0 (drovewaylaw09_FeudsGroups.j2 kq a0 l1 t104 x7_2 x8_2 x9_2 x92_17 = some r) ∧ Aside0 (kq ≤ k2) ∧ Aside0 (Kd.R (Kd.int .i64) 3 wc w.heap.size (fun k_ => some k_ ≠ (v110 : Value).ownBlock) (.slice Ao19 t104.length co19) t104) ∧ Aside0 (Kd.R (Kd.int .i64) 3 wc w.heap.size (fun k_ => some k_ ≠ ((.slice Ao19 t104.length co19) : Value).ownBlock) v110 x7_2) ∧ Aside0 (Below w.heap.size w wc))
                    case first =>
                      have H := HC18.out
                      clear HC18
                      by_cases c20 : 0 ≤ x9_2
                      · rw [if_pos c20] at H
                        have c20b0 : decide (0 ≤ x9_2) = true := decide_eq_true c20
                        clear c20
                        (first | rw [c20b0] | (simp only [i64_w, i32_w]; rw [c20b0]) | skip)
                        by_cases c21 : (rd t104 x9_2) < 1
                        · rw [if_pos c21] at H
                          have c21b0 : decide ((rd t104 x9_2) < 1) = true := decide_eq_true c21
                          clear c21
                          have H' := Aside0.mk H
                          clear H
                          have p112 : 0 ≤ (x9_2 : Int) := of_decide_eq_true (by first | (with_reducible assumption) | assumption)
                          have q112 : x9_2 < (t104.length : Int) := of_decide_eq_true (by first | (with_reducible assumption) | assumption)
                          obtain ⟨ad112, e112, hx112_0⟩ := Kd.at_int (Kd.R_reads' HO_5.out).2.2 x9_2 p112 q112
                          cases e112
                          replace p112 := eq_true p112
                          replace q112 := eq_true q112
                          go_wp2
                          repeat (go_quiet (fail); try go_wp2)
                          go_meet
                          case rel => exact ⟨_, (true), (by first | rfl | (simp; done) | (simp [*]; done)), H', ⟨by have := HJ2.out; have := HK2.out; first | omega | exact Nat.le_refl _⟩, ⟨by (with_reducible repeat (first | apply Kd.R_alloc | apply Kd.R_drewN | apply Kd.R_drew)); exact HO_5.out⟩, ⟨by (with_reducible repeat (first | apply Kd.R_alloc | apply Kd.R_drewN | apply Kd.R_drew)); exact HO_7.out⟩, ⟨by repeat (first | (with_reducible first | exact HB.out | apply below_alloc | apply pw_below_drewN | apply below_drew1) | exact HB.out)⟩⟩
                        · rw [if_neg c21] at H
                          have c21b0 : decide ((rd t104 x9_2) < 1) = false := decide_eq_false c21
                          clear c21
                          by_cases c22 : 0 ≤ a0
                          · rw [if_pos c22] at H
                            have c22b0 := eq_true c22
                            have c22b1 : decide (0 ≤ a0) = true := decide_eq_true c22
                            clear c22
                            obtain ⟨ji23, hji23⟩ : ∃ j_ : Int, (shl .i64 1 a0) = j_ := ⟨_, rfl⟩
                            replace H : (if (rd t104 x9_2) ≥ (ji23) then (drovewaylaw09_FeudsGroups.j2 k2 a0 l1 t104 x7_2 x8_2 x9_2 true) else (if (Go.bits .and .i64 x8_2 (rd t104 x9_2)) = 0 then (if x9_2 > 0 then (if 0 ≤ (wrap64 (x9_2 - 1)) then (if (wrap64 (x9_2 - 1)) < (t104.length : Int) then (drovewaylaw09_FeudsGroups.j2 k2 a0 l1 t104 x7_2 x8_2 x9_2 (decide ((rd t104 x9_2) ≤ (rd t104 (wrap64 (x9_2 - 1)))))) else (none)) else (none)) else (drovewaylaw09_FeudsGroups.j2 k2 a0 l1 t104 x7_2 x8_2 x9_2 false)) else (drovewaylaw09_FeudsGroups.j2 k2 a0 l1 t104 x7_2 x8_2 x9_2 true))) = some r := by first | (rw [hji23] at H; exact H) | (simp only [hji23] at H ⊢; exact H)
                            have hji23_ : (IntKind.i64.wrap (1 * 2 ^ min a0.toNat 64)) = ji23 := hji23
                            have hji23z : a0 ≤ 64 → (IntKind.i64.wrap (1 * 2 ^ a0.toNat)) = ji23 := shl_small hji23
                            have hji23u : (IntKind.i64.wrap (2 ^ min a0.toNat 64)) = ji23 := by have h_ := hji23_; rw [Int.one_mul] at h_; exact h_
                            have hji23v : a0 ≤ 64 → (IntKind.i64.wrap (2 ^ a0.toNat)) = ji23 := fun hle_ => by have h_ := hji23z hle_; rw [Int.one_mul] at h_; exact h_
                            have hji23y : (wrap64 (1 * 2 ^ min a0.toNat 64)) = ji23 := (i64_w _).symm.trans hji23_
                            have hji23x : a0 ≤ 64 → (wrap64 (1 * 2 ^ a0.toNat)) = ji23 := fun h_ => (i64_w _).symm.trans (hji23z h_)
                            by_cases c24 : (rd t104 x9_2) ≥ (ji23)
                            · rw [if_pos c24] at H
                              have c24b0 : decide ((ji23) ≤ (rd t104 x9_2)) = true := decide_eq_true c24
                              clear c24
                              have H' := Aside0.mk H
                              clear H
                              have p112 : 0 ≤ (x9_2 : Int) := of_decide_eq_true (by first | (with_reducible assumption) | assumption)
                              have q112 : x9_2 < (t104.length : Int) := of_decide_eq_true (by first | (with_reducible assumption) | assumption)
                              obtain ⟨ad112, e112, hx112_0⟩ := Kd.at_int (Kd.R_reads' HO_5.out).2.2 x9_2 p112 q112
                              cases e112
                              replace p112 := eq_true p112
                              replace q112 := eq_true q112
                              have p113 : 0 ≤ (x9_2 : Int) := of_decide_eq_true (by first | (with_reducible assumption) | assumption)
                              have q113 : x9_2 < (t104.length : Int) := of_decide_eq_true (by first | (with_reducible assumption) | assumption)
                              obtain ⟨ad113, e113, hx113_0⟩ := Kd.at_int (Kd.R_reads' HO_5.out).2.2 x9_2 p113 q113
                              obtain rfl : ad112 = ad113 := (by injection e113)
                              replace p113 := eq_true p113
                              replace q113 := eq_true q113
                              go_wp2
                              repeat (go_quiet (fail); try go_wp2)
                              go_meet
                              case rel => exact ⟨_, (true), (by first | rfl | (simp; done) | (simp [*]; done)), H', ⟨by have := HJ2.out; have := HK2.out; first | omega | exact Nat.le_refl _⟩, ⟨by (with_reducible repeat (first | apply Kd.R_alloc | apply Kd.R_drewN | apply Kd.R_drew)); exact HO_5.out⟩, ⟨by (with_reducible repeat (first | apply Kd.R_alloc | apply Kd.R_drewN | apply Kd.R_drew)); exact HO_7.out⟩, ⟨by repeat (first | (with_reducible first | exact HB.out | apply below_alloc | apply pw_below_drewN | apply below_drew1) | exact HB.out)⟩⟩
                            · rw [if_neg c24] at H
                              have c24b0 : decide ((ji23) ≤ (rd t104 x9_2)) = false := decide_eq_false c24
                              clear c24
                              by_cases c25 : (Go.bits .and .i64 x8_2 (rd t104 x9_2)) = 0
                              · rw [if_pos c25] at H
                                have c25b0 : ((Go.bits .and .i64 x8_2 (rd t104 x9_2)) == 0) = true := beq_iff_eq.mpr c25
                                have c25b1 : ((Go.bits .and .i64 x8_2 (rd t104 x9_2)) != 0) = false := bne_eq_false_iff_eq.mpr c25
                                clear c25
                                by_cases c26 : x9_2 > 0
                                · rw [if_pos c26] at H
                                  have c26b0 : decide (0 < x9_2) = true := decide_eq_true c26
                                  clear c26
                                  obtain ⟨ji27, hji27⟩ : ∃ j_ : Int, (wrap64 (x9_2 - 1)) = j_ := ⟨_, rfl⟩
                                  replace H : (if 0 ≤ (ji27) then (if (ji27) < (t104.length : Int) then (drovewaylaw09_FeudsGroups.j2 k2 a0 l1 t104 x7_2 x8_2 x9_2 (decide ((rd t104 x9_2) ≤ (rd t104 (ji27))))) else (none)) else (none)) = some r := by first | (rw [hji27] at H; exact H) | (simp only [hji27] at H ⊢; exact H)
                                  have hji27w : (IntKind.i64.wrap (x9_2 - 1)) = ji27 := (i64_w _).trans hji27
                                  by_cases c28 : 0 ≤ (ji27)
                                  · rw [if_pos c28] at H
                                    have c28b0 : decide (0 ≤ (ji27)) = true := decide_eq_true c28
                                    clear c28
                                    by_cases c29 : (ji27) < (t104.length : Int)
                                    · rw [if_pos c29] at H
                                      have c29b0 : decide ((ji27) < (t104.length : Int)) = true := decide_eq_true c29
                                      clear c29
                                      have H' := Aside0.mk H
                                      clear H
                                      have p112 : 0 ≤ (x9_2 : Int) := of_decide_eq_true (by first | (with_reducible assumption) | assumption)
                                      have q112 : x9_2 < (t104.length : Int) := of_decide_eq_true (by first | (with_reducible assumption) | assumption)
                                      obtain ⟨ad112, e112, hx112_0⟩ := Kd.at_int (Kd.R_reads' HO_5.out).2.2 x9_2 p112 q112
                                      cases e112
                                      replace p112 := eq_true p112
                                      replace q112 := eq_true q112
                                      have p113 : 0 ≤ (x9_2 : Int) := of_decide_eq_true (by first | (with_reducible assumption) | assumption)
                                      have q113 : x9_2 < (t104.length : Int) := of_decide_eq_true (by first | (with_reducible assumption) | assumption)
                                      obtain ⟨ad113, e113, hx113_0⟩ := Kd.at_int (Kd.R_reads' HO_5.out).2.2 x9_2 p113 q113
                                      obtain rfl : ad112 = ad113 := (by injection e113)
                                      replace p113 := eq_true p113
                                      replace q113 := eq_true q113
                                      have p114 : 0 ≤ (x9_2 : Int) := of_decide_eq_true (by first | (with_reducible assumption) | assumption)
                                      have q114 : x9_2 < (t104.length : Int) := of_decide_eq_true (by first | (with_reducible assumption) | assumption)
                                      obtain ⟨ad114, e114, hx114_0⟩ := Kd.at_int (Kd.R_reads' HO_5.out).2.2 x9_2 p114 q114
                                      obtain rfl : ad112 = ad114 := (by injection e114)
                                      replace p114 := eq_true p114
                                      replace q114 := eq_true q114
                                      have p115 : 0 ≤ (x9_2 : Int) := of_decide_eq_true (by first | (with_reducible assumption) | assumption)
                                      have q115 : x9_2 < (t104.length : Int) := of_decide_eq_true (by first | (with_reducible assumption) | assumption)
                                      obtain ⟨ad115, e115, hx115_0⟩ := Kd.at_int (Kd.R_reads' HO_5.out).2.2 x9_2 p115 q115
                                      obtain rfl : ad112 = ad115 := (by injection e115)
                                      replace p115 := eq_true p115
                                      replace q115 := eq_true q115
                                      have p116 : 0 ≤ ((ji27) : Int) := of_decide_eq_true (by first | (with_reducible assumption) | assumption)
                                      have q116 : (ji27) < (t104.length : Int) := of_decide_eq_true (by first | (with_reducible assumption) | assumption)
                                      obtain ⟨ad116, e116, hx116_0⟩ := Kd.at_int (Kd.R_reads' HO_5.out).2.2 (ji27) p116 q116
                                      obtain rfl : ad112 = ad116 := (by injection e116)
                                      replace p116 := eq_true p116
                                      replace q116 := eq_true q116
                                      go_wp2
                                      repeat (go_quiet (fail); try go_wp2)
                                      go_meet
                                      case rel => exact ⟨_, (decide ((rd t104 x9_2) ≤ (rd t104 (ji27)))), (by first | rfl | (simp; done) | (simp only [← hji27] <;> (first | rfl | simp)) | (simp [*]; done)), H', ⟨by have := HJ2.out; have := HK2.out; first | omega | exact Nat.le_refl _⟩, ⟨by (with_reducible repeat (first | apply Kd.R_alloc | apply Kd.R_drewN | apply Kd.R_drew)); exact HO_5.out⟩, ⟨by (with_reducible repeat (first | apply Kd.R_alloc | apply Kd.R_drewN | apply Kd.R_drew)); exact HO_7.out⟩, ⟨by repeat (first | (with_reducible first | exact HB.out | apply below_alloc | apply pw_below_drewN | apply below_drew1) | exact HB.out)⟩⟩
                                    · rw [if_neg c29] at H
                                      exact absurd H (by simp)
                                  · rw [if_neg c28] at H
                                    exact absurd H (by simp)
                                · rw [if_neg c26] at H
                                  have c26b0 : decide (0 < x9_2) = false := decide_eq_false c26
                                  clear c26
                                  have H' := Aside0.mk H
                                  clear H
                                  have p112 : 0 ≤ (x9_2 : Int) := of_decide_eq_true (by first | (with_reducible assumption) | assumption)
                                  have q112 : x9_2 < (t104.length : Int) := of_decide_eq_true (by first | (with_reducible assumption) | assumption)
                                  obtain ⟨ad112, e112, hx112_0⟩ := Kd.at_int (Kd.R_reads' HO_5.out).2.2 x9_2 p112 q112
                                  cases e112
                                  replace p112 := eq_true p112
                                  replace q112 := eq_true q112
                                  have p113 : 0 ≤ (x9_2 : Int) := of_decide_eq_true (by first | (with_reducible assumption) | assumption)
                                  have q113 : x9_2 < (t104.length : Int) := of_decide_eq_true (by first | (with_reducible assumption) | assumption)
                                  obtain ⟨ad113, e113, hx113_0⟩ := Kd.at_int (Kd.R_reads' HO_5.out).2.2 x9_2 p113 q113
                                  obtain rfl : ad112 = ad113 := (by injection e113)
                                  replace p113 := eq_true p113
                                  replace q113 := eq_true q113
                                  have p114 : 0 ≤ (x9_2 : Int) := of_decide_eq_true (by first | (with_reducible assumption) | assumption)
                                  have q114 : x9_2 < (t104.length : Int) := of_decide_eq_true (by first | (with_reducible assumption) | assumption)
                                  obtain ⟨ad114, e114, hx114_0⟩ := Kd.at_int (Kd.R_reads' HO_5.out).2.2 x9_2 p114 q114
                                  obtain rfl : ad112 = ad114 := (by injection e114)
                                  replace p114 := eq_true p114
                                  replace q114 := eq_true q114
                                  go_wp2
                                  repeat (go_quiet (fail); try go_wp2)
                                  go_meet
                                  case rel => exact ⟨_, (false), (by first | rfl | (simp; done) | (simp [*]; done)), H', ⟨by have := HJ2.out; have := HK2.out; first | omega | exact Nat.le_refl _⟩, ⟨by (with_reducible repeat (first | apply Kd.R_alloc | apply Kd.R_drewN | apply Kd.R_drew)); exact HO_5.out⟩, ⟨by (with_reducible repeat (first | apply Kd.R_alloc | apply Kd.R_drewN | apply Kd.R_drew)); exact HO_7.out⟩, ⟨by repeat (first | (with_reducible first | exact HB.out | apply below_alloc | apply pw_below_drewN | apply below_drew1) | exact HB.out)⟩⟩
                              · rw [if_neg c25] at H
                                have c25b0 : ((Go.bits .and .i64 x8_2 (rd t104 x9_2)) == 0) = false := beq_eq_false_iff_ne.mpr c25
                                have c25b1 : ((Go.bits .and .i64 x8_2 (rd t104 x9_2)) != 0) = true := bne_iff_ne.mpr c25
                                have H' := Aside0.mk H
                                clear H
                                have p112 : 0 ≤ (x9_2 : Int) := of_decide_eq_true (by first | (with_reducible assumption) | assumption)
                                have q112 : x9_2 < (t104.length : Int) := of_decide_eq_true (by first | (with_reducible assumption) | assumption)
                                obtain ⟨ad112, e112, hx112_0⟩ := Kd.at_int (Kd.R_reads' HO_5.out).2.2 x9_2 p112 q112
                                cases e112
                                replace p112 := eq_true p112
                                replace q112 := eq_true q112
                                have p113 : 0 ≤ (x9_2 : Int) := of_decide_eq_true (by first | (with_reducible assumption) | assumption)
                                have q113 : x9_2 < (t104.length : Int) := of_decide_eq_true (by first | (with_reducible assumption) | assumption)
                                obtain ⟨ad113, e113, hx113_0⟩ := Kd.at_int (Kd.R_reads' HO_5.out).2.2 x9_2 p113 q113
                                obtain rfl : ad112 = ad113 := (by injection e113)
                                replace p113 := eq_true p113
                                replace q113 := eq_true q113
                                have p114 : 0 ≤ (x9_2 : Int) := of_decide_eq_true (by first | (with_reducible assumption) | assumption)
                                have q114 : x9_2 < (t104.length : Int) := of_decide_eq_true (by first | (with_reducible assumption) | assumption)
                                obtain ⟨ad114, e114, hx114_0⟩ := Kd.at_int (Kd.R_reads' HO_5.out).2.2 x9_2 p114 q114
                                obtain rfl : ad112 = ad114 := (by injection e114)
                                replace p114 := eq_true p114
                                replace q114 := eq_true q114
                                go_wp2
                                repeat (go_quiet (fail); try go_wp2)
                                go_meet
                                case rel => exact ⟨_, (true), (by first | rfl | (simp; done) | (simp [*]; done)), H', ⟨by have := HJ2.out; have := HK2.out; first | omega | exact Nat.le_refl _⟩, ⟨by (with_reducible repeat (first | apply Kd.R_alloc | apply Kd.R_drewN | apply Kd.R_drew)); exact HO_5.out⟩, ⟨by (with_reducible repeat (first | apply Kd.R_alloc | apply Kd.R_drewN | apply Kd.R_drew)); exact HO_7.out⟩, ⟨by repeat (first | (with_reducible first | exact HB.out | apply below_alloc | apply pw_below_drewN | apply below_drew1) | exact HB.out)⟩⟩
                          · rw [if_neg c22] at H
                            exact absurd H (by simp)
                      · rw [if_neg c20] at H
                        exact absurd H (by simp)
                    case rest =>
                      clear HC18
                      try clear c1
                      try clear p1
                      try clear q1
                      try clear hx1
                      try clear c2
                      try clear p2
                      try clear c5
                      try clear p6
                      try clear c7
                      try clear c11
                      try clear c11b0
                      try clear c11b1
                      try clear p11
                      try clear q11
                      try clear hx11
                      try clear c12
                      try clear c12b0
                      try clear c12b1
                      try clear c13
                      try clear c13b0
                      try clear c13b1
                      try clear c17
                      try clear c17b0
                      try clear c20
                      try clear c20b0
                      try clear c21
                      try clear c21b0
                      try clear c22
                      try clear c22b0
                      try clear c22b1
                      try clear c24
                      try clear c24b0
                      try clear c25
                      try clear c25b0
                      try clear c25b1
                      try clear c26
                      try clear c26b0
                      try clear c28
                      try clear c28b0
                      try clear c29
                      try clear c29b0
                      try clear hx112_0
                      try clear hx113_0
                      try clear hx114_0
                      try clear hx115_0
                      try clear hx116_0
                      try clear p112
                      try clear p113
                      try clear p114
                      try clear p115
                      try clear p116
                      try clear p2
                      try clear q112
                      try clear q113
                      try clear q114
                      try clear q115
                      try clear q116
                      obtain ⟨kq, x92_17, rfl, HA, HJ17, HO_5, HO_7, HB⟩ := hcut
                      cases kq with
                      | zero => exact absurd HA.out (by simp [drovewaylaw09_FeudsGroups.j2])
                      | succ kj17 =>
                        have H := HA.out
                        clear HA
                        simp only [drovewaylaw09_FeudsGroups.j2] at H
                        by_cases c30 : x92_17 = true
                        · subst c30
                          have H1 : (some false) = some r := by rw [if_pos rfl] at H; exact H
                          clear H
                          have H := H1
                          clear H1
                          obtain rfl := Option.some.inj H
                          go_wp2
                          repeat (go_quiet (fail); try go_wp2)
                          go_ret
                          exact ⟨by first | rfl | (simp [errW_none, errW_some] <;> rfl) | (simp [*, errW_none, errW_some] <;> rfl), by repeat (first | (with_reducible first | exact HB.out | apply below_alloc | apply pw_below_drewN | apply below_drew1) | exact HB.out)⟩
                        · replace c30 := Bool.eq_false_iff.mpr c30
                          subst c30
                          have H1 : (if 0 ≤ x9_2 then (if x9_2 < (t104.length : Int) then (drovewaylaw09_FeudsGroups.l1 kj17 a0 l1 t104 x7_2 (Go.bits .or .i64 x8_2 (rd t104 x9_2)) x9_2 0) else (none)) else (none)) = some r := by rw [if_neg (show ¬ (false = true) by decide)] at H; exact H
                          clear H
                          have H := H1
                          clear H1
                          by_cases c31 : 0 ≤ x9_2
                          · rw [if_pos c31] at H
                            have c31b0 : decide (0 ≤ x9_2) = true := decide_eq_true c31
                            clear c31
                            by_cases c32 : x9_2 < (t104.length : Int)
                            · rw [if_pos c32] at H
                              have c32b0 : decide (x9_2 < (t104.length : Int)) = true := decide_eq_true c32
                              clear c32
                              have H' := Aside0.mk H
                              clear H
                              have p117 : 0 ≤ (x9_2 : Int) := of_decide_eq_true (by first | (with_reducible assumption) | assumption)
                              have q117 : x9_2 < (t104.length : Int) := of_decide_eq_true (by first | (with_reducible assumption) | assumption)
                              obtain ⟨ad117, e117, hx117_0⟩ := Kd.at_int (Kd.R_reads' HO_5.out).2.2 x9_2 p117 q117
                              cases e117
                              replace p117 := eq_true p117
                              replace q117 := eq_true q117
                              go_wp2
                              repeat (go_quiet (fail); try go_wp2)
                              go_loopg [10] kj17 (fun kq v10 w' => ∃ (x7_4 : List Int) (x10_4 : Int), v10 = .int .i64 x10_4 ∧ Aside0 (drovewaylaw09_FeudsGroups.l1 kq a0 l1 t104 x7_4 (Go.bits .or .i64 x8_2 (rd t104 x9_2)) x9_2 x10_4 = some r) ∧ Aside0 (kq ≤ kj17) ∧ Aside0 (Kd.R (Kd.int .i64) 3 w' w.heap.size (fun k_ => some k_ ≠ (v110 : Value).ownBlock) (.slice (some ad117) t104.length co19) t104) ∧ Aside0 (Kd.R (Kd.int .i64) 3 w' w.heap.size (fun k_ => some k_ ≠ ((.slice (some ad117) t104.length co19) : Value).ownBlock) v110 x7_4) ∧ Aside0 (Below w.heap.size w w'))
                              case atStart => exact ⟨(x7_2), (0), (by first | rfl | (simp; done) | (simp [*]; done)), H', ⟨Nat.le_refl _⟩, ⟨by (with_reducible repeat (first | apply Kd.R_alloc | apply Kd.R_drewN | apply Kd.R_drew)); exact HO_5.out⟩, ⟨by (with_reducible repeat (first | apply Kd.R_alloc | apply Kd.R_drewN | apply Kd.R_drew)); exact HO_7.out⟩, ⟨by repeat (first | (with_reducible first | exact HB.out | apply below_alloc | apply pw_below_drewN | apply below_drew1) | exact HB.out)⟩⟩
                              case round => as_aux_lemma =>
                                clear H'
                                try clear c1
                                try clear p1
                                try clear q1
                                try clear hx1
                                try clear c2
                                try clear p2
                                try clear c3
                                try clear c5
                                try clear p6
                                try clear c7
                                try clear c11
                                try clear c11b0
                                try clear c11b1
                                try clear p11
                                try clear q11
                                try clear hx11
                                try clear c12
                                try clear c12b0
                                try clear c12b1
                                try clear c13
                                try clear c13b0
                                try clear c13b1
                                try clear c17
                                try clear c17b0
                                try clear c20
                                try clear c20b0
                                try clear c21
                                try clear c21b0
                                try clear c22
                                try clear c22b0
                                try clear c22b1
                                try clear c24
                                try clear c24b0
                                try clear c25
                                try clear c25b0
                                try clear c25b1
                                try clear c26
                                try clear c26b0
                                try clear c28
                                try clear c28b0
                                try clear c29
                                try clear c29b0
                                try clear c30
                                try clear c31
                                try clear c31b0
                                try clear c32
                                try clear c32b0
                                try clear hx112_0
                                try clear hx113_0
                                try clear hx114_0
                                try clear hx115_0
                                try clear hx116_0
                                try clear hx117_0
                                try clear p1
                                try clear p11
                                try clear p112
                                try clear p113
                                try clear p114
                                try clear p115
                                try clear p116
                                try clear p117
                                try clear p2
                                try clear p6
                                try clear q1
                                try clear q11
                                try clear q112
                                try clear q113
                                try clear q114
                                try clear q115
                                try clear q116
                                try clear q117
                                obtain ⟨x7_4, x10_4, rfl, HA, HK4, HO_5, HO_7, HB⟩ := hrel
                                cases gk with
                                | zero => exact absurd HA.out (by simp [drovewaylaw09_FeudsGroups.l1])
                                | succ k4 =>
                                  have H := HA.out
                                  clear HA
                                  simp only [drovewaylaw09_FeudsGroups.l1] at H
                                  by_cases c33 : x10_4 < a0
                                  · rw [if_pos c33] at H
                                    have c33b0 : decide (x10_4 < a0) = true := decide_eq_true c33
                                    clear c33
                                    by_cases c34 : 0 ≤ x9_2
                                    · rw [if_pos c34] at H
                                      have c34b0 : decide (0 ≤ x9_2) = true := decide_eq_true c34
                                      clear c34
                                      by_cases c35 : x9_2 < (t104.length : Int)
                                      · rw [if_pos c35] at H
                                        have c35b0 : decide (x9_2 < (t104.length : Int)) = true := decide_eq_true c35
                                        clear c35
                                        by_cases c36 : 0 ≤ x10_4
                                        · rw [if_pos c36] at H
                                          have c36b0 := eq_true c36
                                          have c36b1 : decide (0 ≤ x10_4) = true := decide_eq_true c36
                                          clear c36
                                          obtain ⟨ji37, hji37⟩ : ∃ j_ : Int, (shr .i64 (rd t104 x9_2) x10_4) = j_ := ⟨_, rfl⟩
                                          replace H : (if (Int.tmod (ji37) 2) = 1 then (if x10_4 < (x7_4.length : Int) then (drovewaylaw09_FeudsGroups.l1 k4 a0 l1 t104 (x7_4.set (x10_4 : Int).toNat x9_2) (Go.bits .or .i64 x8_2 (rd t104 x9_2)) x9_2 (wrap64 (x10_4 + 1))) else (none)) else (drovewaylaw09_FeudsGroups.l1 k4 a0 l1 t104 x7_4 (Go.bits .or .i64 x8_2 (rd t104 x9_2)) x9_2 (wrap64 (x10_4 + 1)))) = some r := by first | (rw [hji37] at H; exact H) | (simp only [hji37] at H ⊢; exact H)
                                          have hji37_ : ((rd t104 x9_2) / 2 ^ min x10_4.toNat 64) = ji37 := hji37
                                          have hji37z : x10_4 ≤ 64 → ((rd t104 x9_2) / 2 ^ x10_4.toNat) = ji37 := shr_small hji37
                                          by_cases c38 : (Int.tmod (ji37) 2) = 1
                                          · rw [if_pos c38] at H
                                            have c38b0 : ((Int.tmod (ji37) 2) == 1) = true := beq_iff_eq.mpr c38
                                            have c38b1 : ((Int.tmod (ji37) 2) != 1) = false := bne_eq_false_iff_eq.mpr c38
                                            clear c38
                                            by_cases c39 : x10_4 < (x7_4.length : Int)
                                            · rw [if_pos c39] at H
                                              have c39b0 : decide (x10_4 < (x7_4.length : Int)) = true := decide_eq_true c39
                                              clear c39
                                              obtain ⟨y119, hy119⟩ : ∃ y_ : List Int, y_ = (x7_4.set (x10_4 : Int).toNat x9_2) := ⟨_, rfl⟩
                                              replace H : (drovewaylaw09_FeudsGroups.l1 k4 a0 l1 t104 y119 (Go.bits .or .i64 x8_2 (rd t104 x9_2)) x9_2 (wrap64 (x10_4 + 1))) = some r := by first | (rw [hy119]; with_reducible exact H) | (have H2_ := (Option.bind_some _ _).symm.trans H; rw [hy119]; with_reducible exact H2_) | (have H2_ := (Option.bind_some _ _).symm.trans H; with_reducible exact H2_) | with_reducible exact H | (rw [hy119]; exact H) | exact H
                                              have Ny119 := Aside0.mk hy119
                                              clear hy119
                                              have H' := Aside0.mk H
                                              clear H
                                              have p118 : 0 ≤ (x9_2 : Int) := of_decide_eq_true (by first | (with_reducible assumption) | assumption)
                                              have q118 : x9_2 < (t104.length : Int) := of_decide_eq_true (by first | (with_reducible assumption) | assumption)
                                              obtain ⟨ad118, e118, hx118_0⟩ := Kd.at_int (Kd.R_reads' HO_5.out).2.2 x9_2 p118 q118
                                              obtain rfl : ad117 = ad118 := (by injection e118)
                                              replace p118 := eq_true p118
                                              replace q118 := eq_true q118
                                              have p40 : 0 ≤ (x10_4 : Int) := of_decide_eq_true (by first | (with_reducible assumption) | assumption)
                                              have q40 : (x10_4 : Int) < ((x7_4.length : Int) : Int) := of_decide_eq_true (by first | (with_reducible assumption) | assumption)
                                              obtain ⟨go40, co40, eo40, gb40, gl40, cl40, HG40⟩ := Kd.R_form HO_7.out (by omega)
                                              (first | cases eo40 | (injection eo40 with ea_ en_ ec_; (first | subst ea_ | (injection ea_ with ea_; subst ea_)); subst ec_; clear en_))
                                              have GB40 := Aside0.mk gb40
                                              have GG40 := Aside0.mk HG40
                                              clear gb40 gl40 HG40
                                              obtain ⟨hx40_0, hf40_0⟩ := Kd.R_celln 0 HO_7.out (x10_4 : Int) p40 q40
                                              replace p40 := eq_true p40
                                              replace q40 := eq_true q40
                                              have HP41 := Kd.R_putg HO_7.out (x10_4 : Int) x9_2
                                              go_wp2_with (first | ((with_reducible refine gate_store (t := 3) (p := 115) rfl ?_); (try (rw [drewN_self wr]; generalize hq_ : World.drewN wr _ = wr; have n0_ := Aside0.mk (Kd.R_at hq_ HO_5.out); have n1_ := Aside0.mk (Kd.R_at hq_ HO_7.out); have n2_ := Aside0.mk (below_at hq_ HB.out); clear hq_ HO_5 HO_7 HB; have HO_5 := n0_; have HO_7 := n1_; have HB := n2_; clear n0_ n1_ n2_; (try (have HP41 := Kd.R_putg HO_7.out (x10_4 : Int) x9_2)))); refine store_event (t := 3) (p := 115) (v := ?vo_w42) (w1 := (wr.setCell ⟨go40, (x10_4 : Int).toNat, none⟩ (.int .i64 x9_2))) ?hg ?ho ?hn ?hr ?_; (case ho => rfl); (case hg => rfl); (case hn => rfl); (case hr => first | (go_simp; done) | (go_simp; rfl)); intro w42 hw; have hg : wr.grownBy w42 (some go40) := (by rw [hw]; exact HP41.2); have hp_ : Kd.R (Kd.int .i64) 3 w42 w.heap.size (fun k_ => some k_ ≠ (.slice (some ad117) t104.length co19 : Value).ownBlock) (.slice (some ⟨go40, 0, none⟩) x7_4.length co40) y119 := (by rw [hw, Ny119.out]; exact HP41.1); clear HP41; have n0_ := Aside0.mk (Kd.R_after (v := (.slice (some ⟨go40, 0, none⟩) x7_4.length co40)) (v1 := (.slice (some ⟨go40, 0, none⟩) x7_4.length co40)) (ok := (fun _ => True)) (by (with_reducible repeat (first | apply Kd.R_alloc | apply Kd.R_drewN | apply Kd.R_drew)); exact Kd.R_mono HO_5.out (fun _ hk => ⟨trivial, hk⟩)) hg (.inl rfl)); have n1_ := Aside0.mk (hp_); have n2_ := Aside0.mk ((by rw [hw]; exact below_set (HB.out) GB40.out : Below w.heap.size w w42)); clear HO_5; clear HO_7; clear HB; have HO_5 := n0_; have HO_7 := n1_; have HB := n2_; clear n0_ n1_ n2_; clear hg hw hp_))
                                              repeat (go_quiet (first | ((with_reducible refine gate_store (t := 3) (p := 115) rfl ?_); (try (rw [drewN_self wr]; generalize hq_ : World.drewN wr _ = wr; have n0_ := Aside0.mk (Kd.R_at hq_ HO_5.out); have n1_ := Aside0.mk (Kd.R_at hq_ HO_7.out); have n2_ := Aside0.mk (below_at hq_ HB.out); clear hq_ HO_5 HO_7 HB; have HO_5 := n0_; have HO_7 := n1_; have HB := n2_; clear n0_ n1_ n2_; (try (have HP41 := Kd.R_putg HO_7.out (x10_4 : Int) x9_2)))); refine store_event (t := 3) (p := 115) (v := ?vo_w42) (w1 := (wr.setCell ⟨go40, (x10_4 : Int).toNat, none⟩ (.int .i64 x9_2))) ?hg ?ho ?hn ?hr ?_; (case ho => rfl); (case hg => rfl); (case hn => rfl); (case hr => first | (go_simp; done) | (go_simp; rfl)); intro w42 hw; have hg : wr.grownBy w42 (some go40) := (by rw [hw]; exact HP41.2); have hp_ : Kd.R (Kd.int .i64) 3 w42 w.heap.size (fun k_ => some k_ ≠ (.slice (some ad117) t104.length co19 : Value).ownBlock) (.slice (some ⟨go40, 0, none⟩) x7_4.length co40) y119 := (by rw [hw, Ny119.out]; exact HP41.1); clear HP41; have n0_ := Aside0.mk (Kd.R_after (v := (.slice (some ⟨go40, 0, none⟩) x7_4.length co40)) (v1 := (.slice (some ⟨go40, 0, none⟩) x7_4.length co40)) (ok := (fun _ => True)) (by (with_reducible repeat (first | apply Kd.R_alloc | apply Kd.R_drewN | apply Kd.R_drew)); exact Kd.R_mono HO_5.out (fun _ hk => ⟨trivial, hk⟩)) hg (.inl rfl)); have n1_ := Aside0.mk (hp_); have n2_ := Aside0.mk ((by rw [hw]; exact below_set (HB.out) GB40.out : Below w.heap.size w w42)); clear HO_5; clear HO_7; clear HB; have HO_5 := n0_; have HO_7 := n1_; have HB := n2_; clear n0_ n1_ n2_; clear hg hw hp_)); try go_wp2_with (first | ((with_reducible refine gate_store (t := 3) (p := 115) rfl ?_); (try (rw [drewN_self wr]; generalize hq_ : World.drewN wr _ = wr; have n0_ := Aside0.mk (Kd.R_at hq_ HO_5.out); have n1_ := Aside0.mk (Kd.R_at hq_ HO_7.out); have n2_ := Aside0.mk (below_at hq_ HB.out); clear hq_ HO_5 HO_7 HB; have HO_5 := n0_; have HO_7 := n1_; have HB := n2_; clear n0_ n1_ n2_; (try (have HP41 := Kd.R_putg HO_7.out (x10_4 : Int) x9_2)))); refine store_event (t := 3) (p := 115) (v := ?vo_w42) (w1 := (wr.setCell ⟨go40, (x10_4 : Int).toNat, none⟩ (.int .i64 x9_2))) ?hg ?ho ?hn ?hr ?_; (case ho => rfl); (case hg => rfl); (case hn => rfl); (case hr => first | (go_simp; done) | (go_simp; rfl)); intro w42 hw; have hg : wr.grownBy w42 (some go40) := (by rw [hw]; exact HP41.2); have hp_ : Kd.R (Kd.int .i64) 3 w42 w.heap.size (fun k_ => some k_ ≠ (.slice (some ad117) t104.length co19 : Value).ownBlock) (.slice (some ⟨go40, 0, none⟩) x7_4.length co40) y119 := (by rw [hw, Ny119.out]; exact HP41.1); clear HP41; have n0_ := Aside0.mk (Kd.R_after (v := (.slice (some ⟨go40, 0, none⟩) x7_4.length co40)) (v1 := (.slice (some ⟨go40, 0, none⟩) x7_4.length co40)) (ok := (fun _ => True)) (by (with_reducible repeat (first | apply Kd.R_alloc | apply Kd.R_drewN | apply Kd.R_drew)); exact Kd.R_mono HO_5.out (fun _ hk => ⟨trivial, hk⟩)) hg (.inl rfl)); have n1_ := Aside0.mk (hp_); have n2_ := Aside0.mk ((by rw [hw]; exact below_set (HB.out) GB40.out : Below w.heap.size w w42)); clear HO_5; clear HO_7; clear HB; have HO_5 := n0_; have HO_7 := n1_; have HB := n2_; clear n0_ n1_ n2_; clear hg hw hp_)))
                                              go_roundg k4
                                              case measure => have := HJ2.out; have := HK2.out; have := HJ17.out; have := HK4.out; omega
                                              case rel => exact ⟨(y119), (wrap64 (x10_4 + 1)), (by first | rfl | (simp; done) | (simp [*]; done)), H', ⟨by have := HJ2.out; have := HK2.out; have := HJ17.out; have := HK4.out; omega⟩, ⟨by (with_reducible repeat (first | apply Kd.R_alloc | apply Kd.R_drewN | apply Kd.R_drew)); exact Kd.R_mono HO_5.out (fun _ hk => hk.2)⟩, ⟨by (with_reducible repeat (first | apply Kd.R_alloc | apply Kd.R_drewN | apply Kd.R_drew)); exact HO_7.out⟩, ⟨by repeat (first | (with_reducible first | exact HB.out | apply below_alloc | apply pw_below_drewN | apply below_drew1) | exact HB.out)⟩⟩
                                            · rw [if_neg c39] at H
                                              exact absurd H (by simp)
                                          · rw [if_neg c38] at H
                                            have c38b0 : ((Int.tmod (ji37) 2) == 1) = false := beq_eq_false_iff_ne.mpr c38
                                            have c38b1 : ((Int.tmod (ji37) 2) != 1) = true := bne_iff_ne.mpr c38
                                            have H' := Aside0.mk H
                                            clear H
                                            have p118 : 0 ≤ (x9_2 : Int) := of_decide_eq_true (by first | (with_reducible assumption) | assumption)
                                            have q118 : x9_2 < (t104.length : Int) := of_decide_eq_true (by first | (with_reducible assumption) | assumption)
                                            obtain ⟨ad118, e118, hx118_0⟩ := Kd.at_int (Kd.R_reads' HO_5.out).2.2 x9_2 p118 q118
                                            obtain rfl : ad117 = ad118 := (by injection e118)
                                            replace p118 := eq_true p118
                                            replace q118 := eq_true q118
                                            go_wp2
                                            repeat (go_quiet (fail); try go_wp2)
                                            go_roundg k4
                                            case measure => have := HJ2.out; have := HK2.out; have := HJ17.out; have := HK4.out; omega
                                            case rel => exact ⟨(x7_4), (wrap64 (x10_4 + 1)), (by first | rfl | (simp; done) | (simp [*]; done)), H', ⟨by have := HJ2.out; have := HK2.out; have := HJ17.out; have := HK4.out; omega⟩, ⟨by (with_reducible repeat (first | apply Kd.R_alloc | apply Kd.R_drewN | apply Kd.R_drew)); exact HO_5.out⟩, ⟨by (with_reducible repeat (first | apply Kd.R_alloc | apply Kd.R_drewN | apply Kd.R_drew)); exact HO_7.out⟩, ⟨by repeat (first | (with_reducible first | exact HB.out | apply below_alloc | apply pw_below_drewN | apply below_drew1) | exact HB.out)⟩⟩
                                        · rw [if_neg c36] at H
                                          exact absurd H (by simp)
                                      · rw [if_neg c35] at H
                                        exact absurd H (by simp)
                                    · rw [if_neg c34] at H
                                      exact absurd H (by simp)
                                  · rw [if_neg c33] at H
                                    have c33b0 : decide (x10_4 < a0) = false := decide_eq_false c33
                                    clear c33
                                    have H' := Aside0.mk H
                                    clear H
                                    go_wp2
                                    repeat (go_quiet (fail); try go_wp2)
                                    go_roundg k4
                                    case measure => have := HJ2.out; have := HK2.out; have := HJ17.out; have := HK4.out; omega
                                    case rel => exact ⟨(x7_4), ((Go.bits .or .i64 x8_2 (rd t104 x9_2))), (wrap64 (x9_2 + 1)), (by first | rfl | (simp; done) | (simp [*]; done)), (by first | rfl | (simp; done) | (simp [*]; done)), H', ⟨by have := HJ2.out; have := HK2.out; have := HJ17.out; have := HK4.out; omega⟩, ⟨by (with_reducible repeat (first | apply Kd.R_alloc | apply Kd.R_drewN | apply Kd.R_drew)); exact HO_5.out⟩, ⟨by (with_reducible repeat (first | apply Kd.R_alloc | apply Kd.R_drewN | apply Kd.R_drew)); exact HO_7.out⟩, ⟨by repeat (first | (with_reducible first | exact HB.out | apply below_alloc | apply pw_below_drewN | apply below_drew1) | exact HB.out)⟩⟩
                            · rw [if_neg c32] at H
                              exact absurd H (by simp)
                          · rw [if_neg c31] at H
                            exact absurd H (by simp)
                  · rw [if_neg c17] at H
                    have c17b0 : decide (x9_2 < (t104.length : Int)) = false := decide_eq_false c17
                    clear c17
                    by_cases c43 : 0 ≤ a0
                    · rw [if_pos c43] at H
                      have c43b0 := eq_true c43
                      have c43b1 : decide (0 ≤ a0) = true := decide_eq_true c43
                      clear c43
                      obtain ⟨ji44, hji44⟩ : ∃ j_ : Int, (shl .i64 1 a0) = j_ := ⟨_, rfl⟩
                      replace H : (if x8_2 = (wrap64 ((ji44) - 1)) then (drovewaylaw09_FeudsGroups.l2 k2 l1 t104 x7_2 0) else (some false)) = some r := by first | (rw [hji44] at H; exact H) | (simp only [hji44] at H ⊢; exact H)
                      have hji44_ : (IntKind.i64.wrap (1 * 2 ^ min a0.toNat 64)) = ji44 := hji44
                      have hji44z : a0 ≤ 64 → (IntKind.i64.wrap (1 * 2 ^ a0.toNat)) = ji44 := shl_small hji44
                      have hji44u : (IntKind.i64.wrap (2 ^ min a0.toNat 64)) = ji44 := by have h_ := hji44_; rw [Int.one_mul] at h_; exact h_
                      have hji44v : a0 ≤ 64 → (IntKind.i64.wrap (2 ^ a0.toNat)) = ji44 := fun hle_ => by have h_ := hji44z hle_; rw [Int.one_mul] at h_; exact h_
                      have hji44y : (wrap64 (1 * 2 ^ min a0.toNat 64)) = ji44 := (i64_w _).symm.trans hji44_
                      have hji44x : a0 ≤ 64 → (wrap64 (1 * 2 ^ a0.toNat)) = ji44 := fun h_ => (i64_w _).symm.trans (hji44z h_)
                      by_cases c45 : x8_2 = (wrap64 ((ji44) - 1))
                      · rw [if_pos c45] at H
                        have c45b0 : (x8_2 == (wrap64 ((ji44) - 1))) = true := beq_iff_eq.mpr c45
                        have c45b1 : (x8_2 != (wrap64 ((ji44) - 1))) = false := bne_eq_false_iff_eq.mpr c45
                        clear c45
                        have H' := Aside0.mk H
                        clear H
                        obtain ⟨Ao46, co46, eo46⟩ := Kd.R_slice HO_5.out
                        subst eo46
                        go_wp2
                        repeat (go_quiet (fail); try go_wp2)
                        go_loopg [11] k2 (fun kq v11 w' => ∃ (x11_3 : Int), v11 = .int .i64 x11_3 ∧ Aside0 (drovewaylaw09_FeudsGroups.l2 kq l1 t104 x7_2 x11_3 = some r) ∧ Aside0 (kq ≤ k2) ∧ Aside0 (Kd.R (Kd.int .i64) 3 w' w.heap.size (fun k_ => some k_ ≠ (v110 : Value).ownBlock) (.slice Ao46 t104.length co46) t104) ∧ Aside0 (Kd.R (Kd.int .i64) 3 w' w.heap.size (fun k_ => some k_ ≠ ((.slice Ao46 t104.length co46) : Value).ownBlock) v110 x7_2) ∧ Aside0 (Below w.heap.size w w'))
                        case atStart => exact ⟨(0), (by first | rfl | (simp; done) | (simp [*]; done)), H', ⟨Nat.le_refl _⟩, ⟨by (with_reducible repeat (first | apply Kd.R_alloc | apply Kd.R_drewN | apply Kd.R_drew)); exact HO_5.out⟩, ⟨by (with_reducible repeat (first | apply Kd.R_alloc | apply Kd.R_drewN | apply Kd.R_drew)); exact HO_7.out⟩, ⟨by repeat (first | (with_reducible first | exact HB.out | apply below_alloc | apply pw_below_drewN | apply below_drew1) | exact HB.out)⟩⟩
                        case round => as_aux_lemma =>
                          clear H'
                          try clear c1
                          try clear p1
                          try clear q1
                          try clear hx1
                          try clear c2
                          try clear p2
                          try clear c3
                          try clear c4
                          try clear p4
                          try clear q4
                          try clear hx4
                          try clear hf4
                          try clear c5
                          try clear p6
                          try clear c7
                          try clear c11
                          try clear c11b0
                          try clear c11b1
                          try clear p11
                          try clear q11
                          try clear hx11
                          try clear c12
                          try clear c12b0
                          try clear c12b1
                          try clear c13
                          try clear c13b0
                          try clear c13b1
                          try clear c17
                          try clear c17b0
                          try clear c20
                          try clear c20b0
                          try clear c21
                          try clear c21b0
                          try clear c22
                          try clear c22b0
                          try clear c22b1
                          try clear c24
                          try clear c24b0
                          try clear c25
                          try clear c25b0
                          try clear c25b1
                          try clear c26
                          try clear c26b0
                          try clear c28
                          try clear c28b0
                          try clear c29
                          try clear c29b0
                          try clear c30
                          try clear c31
                          try clear c31b0
                          try clear c32
                          try clear c32b0
                          try clear c33
                          try clear c33b0
                          try clear c34
                          try clear c34b0
                          try clear c35
                          try clear c35b0
                          try clear c36
                          try clear c36b0
                          try clear c36b1
                          try clear c38
                          try clear c38b0
                          try clear c38b1
                          try clear c39
                          try clear c39b0
                          try clear p40
                          try clear q40
                          try clear hx40
                          try clear hf40
                          try clear c43
                          try clear c43b0
                          try clear c43b1
                          try clear c45
                          try clear c45b0
                          try clear c45b1
                          try clear hx112_0
                          try clear hx113_0
                          try clear hx114_0
                          try clear hx115_0
                          try clear hx116_0
                          try clear hx117_0
                          try clear hx118_0
                          try clear hx40_0
                          try clear p1
                          try clear p11
                          try clear p112
                          try clear p113
                          try clear p114
                          try clear p115
                          try clear p116
                          try clear p117
                          try clear p118
                          try clear p2
                          try clear p40
                          try clear p6
                          try clear q1
                          try clear q11
                          try clear q112
                          try clear q113
                          try clear q114
                          try clear q115
                          try clear q116
                          try clear q117
                          try clear q118
                          try clear q40
                          obtain ⟨x11_3, rfl, HA, HK3, HO_5, HO_7, HB⟩ := hrel
                          cases gk with
                          | zero => exact absurd HA.out (by simp [drovewaylaw09_FeudsGroups.l2])
                          | succ k3 =>
                            have H := HA.out
                            clear HA
                            simp only [drovewaylaw09_FeudsGroups.l2] at H
                            by_cases c47 : x11_3 < (l1.length : Int)
                            · rw [if_pos c47] at H
                              have c47b0 : decide (x11_3 < (l1.length : Int)) = true := decide_eq_true c47
                              clear c47
                              by_cases c48 : 0 ≤ x11_3
                              · rw [if_pos c48] at H
                                have c48b0 : decide (0 ≤ x11_3) = true := decide_eq_true c48
                                clear c48
                                by_cases c49 : 0 ≤ ((rd_T39 l1 x11_3).f0)
                                · rw [if_pos c49] at H
                                  have c49b0 : decide (0 ≤ ((rd_T39 l1 x11_3).f0)) = true := decide_eq_true c49
                                  clear c49
                                  by_cases c50 : ((rd_T39 l1 x11_3).f0) < (x7_2.length : Int)
                                  · rw [if_pos c50] at H
                                    have c50b0 : decide (((rd_T39 l1 x11_3).f0) < (x7_2.length : Int)) = true := decide_eq_true c50
                                    clear c50
                                    by_cases c51 : 0 ≤ ((rd_T39 l1 x11_3).f1)
                                    · rw [if_pos c51] at H
                                      have c51b0 : decide (0 ≤ ((rd_T39 l1 x11_3).f1)) = true := decide_eq_true c51
                                      clear c51
                                      by_cases c52 : ((rd_T39 l1 x11_3).f1) < (x7_2.length : Int)
                                      · rw [if_pos c52] at H
                                        have c52b0 : decide (((rd_T39 l1 x11_3).f1) < (x7_2.length : Int)) = true := decide_eq_true c52
                                        clear c52
                                        by_cases c53 : (((rd x7_2 ((rd_T39 l1 x11_3).f0)) == (rd x7_2 ((rd_T39 l1 x11_3).f1))) == ((rd_T39 l1 x11_3).f2)) = true
                                        · rw [if_pos c53] at H
                                          have c53b0 : (((rd x7_2 ((rd_T39 l1 x11_3).f0)) == (rd x7_2 ((rd_T39 l1 x11_3).f1))) == ((rd_T39 l1 x11_3).f2)) = true := c53
                                          (try (have c53b1 : decide (((rd x7_2 ((rd_T39 l1 x11_3).f0)) == (rd x7_2 ((rd_T39 l1 x11_3).f1))) = ((rd_T39 l1 x11_3).f2)) = true := by simpa using c53))
                                          (try (have c53b2 : (((rd x7_2 ((rd_T39 l1 x11_3).f0)) == (rd x7_2 ((rd_T39 l1 x11_3).f1))) == ((rd_T39 l1 x11_3).f2)) = true := by simpa using c53))
                                          clear c53
                                          obtain rfl := Option.some.inj H
                                          have p120 : 0 ≤ (x11_3 : Int) := of_decide_eq_true (by first | (with_reducible assumption) | assumption)
                                          have q120 : x11_3 < (l1.length : Int) := of_decide_eq_true (by first | (with_reducible assumption) | assumption)
                                          obtain ⟨ad120, e120, hx120_0, hx120_1, hx120_2⟩ := at_T39 HR1.out x11_3 p120 q120
                                          cases e120
                                          replace hx120_0 := (HB.out.cell (World.block_lt_of_cell? w _ hx120_0)).trans hx120_0
                                          replace hx120_1 := (HB.out.cell (World.block_lt_of_cell? w _ hx120_1)).trans hx120_1
                                          replace hx120_2 := (HB.out.cell (World.block_lt_of_cell? w _ hx120_2)).trans hx120_2
                                          replace p120 := eq_true p120
                                          replace q120 := eq_true q120
                                          obtain ⟨Ao54, co54, eo54⟩ := Kd.R_slice HO_7.out
                                          subst eo54
                                          have p121 : 0 ≤ (((rd_T39 l1 x11_3).f0) : Int) := of_decide_eq_true (by first | (with_reducible assumption) | assumption)
                                          have q121 : ((rd_T39 l1 x11_3).f0) < (x7_2.length : Int) := of_decide_eq_true (by first | (with_reducible assumption) | assumption)
                                          obtain ⟨ad121, e121, hx121_0⟩ := Kd.at_int (Kd.R_reads' HO_7.out).2.2 ((rd_T39 l1 x11_3).f0) p121 q121
                                          cases e121
                                          replace p121 := eq_true p121
                                          replace q121 := eq_true q121
                                          have p122 : 0 ≤ (x11_3 : Int) := of_decide_eq_true (by first | (with_reducible assumption) | assumption)
                                          have q122 : x11_3 < (l1.length : Int) := of_decide_eq_true (by first | (with_reducible assumption) | assumption)
                                          obtain ⟨ad122, e122, hx122_0, hx122_1, hx122_2⟩ := at_T39 HR1.out x11_3 p122 q122
                                          obtain rfl : ad120 = ad122 := (by injection e122)
                                          replace hx122_0 := (HB.out.cell (World.block_lt_of_cell? w _ hx122_0)).trans hx122_0
                                          replace hx122_1 := (HB.out.cell (World.block_lt_of_cell? w _ hx122_1)).trans hx122_1
                                          replace hx122_2 := (HB.out.cell (World.block_lt_of_cell? w _ hx122_2)).trans hx122_2
                                          replace p122 := eq_true p122
                                          replace q122 := eq_true q122
                                          have p123 : 0 ≤ (((rd_T39 l1 x11_3).f1) : Int) := of_decide_eq_true (by first | (with_reducible assumption) | assumption)
                                          have q123 : ((rd_T39 l1 x11_3).f1) < (x7_2.length : Int) := of_decide_eq_true (by first | (with_reducible assumption) | assumption)
                                          obtain ⟨ad123, e123, hx123_0⟩ := Kd.at_int (Kd.R_reads' HO_7.out).2.2 ((rd_T39 l1 x11_3).f1) p123 q123
                                          obtain rfl : ad121 = ad123 := (by injection e123)
                                          replace p123 := eq_true p123
                                          replace q123 := eq_true q123
                                          have p124 : 0 ≤ (x11_3 : Int) := of_decide_eq_true (by first | (with_reducible assumption) | assumption)
                                          have q124 : x11_3 < (l1.length : Int) := of_decide_eq_true (by first | (with_reducible assumption) | assumption)
                                          obtain ⟨ad124, e124, hx124_0, hx124_1, hx124_2⟩ := at_T39 HR1.out x11_3 p124 q124
                                          obtain rfl : ad120 = ad124 := (by injection e124)
                                          replace hx124_0 := (HB.out.cell (World.block_lt_of_cell? w _ hx124_0)).trans hx124_0
                                          replace hx124_1 := (HB.out.cell (World.block_lt_of_cell? w _ hx124_1)).trans hx124_1
                                          replace hx124_2 := (HB.out.cell (World.block_lt_of_cell? w _ hx124_2)).trans hx124_2
                                          replace p124 := eq_true p124
                                          replace q124 := eq_true q124
                                          go_wp2
                                          repeat (go_quiet (fail); try go_wp2)
                                          go_ret
                                          exact ⟨by first | rfl | (simp [errW_none, errW_some] <;> rfl) | (simp only [← hji44]; first | rfl | (simp [errW_none, errW_some] <;> rfl)) | (simp [*, errW_none, errW_some] <;> rfl), by repeat (first | (with_reducible first | exact HB.out | apply below_alloc | apply pw_below_drewN | apply below_drew1) | exact HB.out)⟩
                                        · rw [if_neg c53] at H
                                          have c53b0 : (((rd x7_2 ((rd_T39 l1 x11_3).f0)) == (rd x7_2 ((rd_T39 l1 x11_3).f1))) == ((rd_T39 l1 x11_3).f2)) = false := by simpa using c53
                                          (try (have c53b1 : decide (((rd x7_2 ((rd_T39 l1 x11_3).f0)) == (rd x7_2 ((rd_T39 l1 x11_3).f1))) = ((rd_T39 l1 x11_3).f2)) = false := by simpa using c53))
                                          (try (have c53b2 : (((rd x7_2 ((rd_T39 l1 x11_3).f0)) == (rd x7_2 ((rd_T39 l1 x11_3).f1))) == ((rd_T39 l1 x11_3).f2)) = false := by simpa using c53))
                                          (try (have c53b3 : ¬ (((rd x7_2 ((rd_T39 l1 x11_3).f0)) == (rd x7_2 ((rd_T39 l1 x11_3).f1))) = ((rd_T39 l1 x11_3).f2)) := by simpa using c53))
                                          clear c53
                                          have H' := Aside0.mk H
                                          clear H
                                          have p120 : 0 ≤ (x11_3 : Int) := of_decide_eq_true (by first | (with_reducible assumption) | assumption)
                                          have q120 : x11_3 < (l1.length : Int) := of_decide_eq_true (by first | (with_reducible assumption) | assumption)
                                          obtain ⟨ad120, e120, hx120_0, hx120_1, hx120_2⟩ := at_T39 HR1.out x11_3 p120 q120
                                          cases e120
                                          replace hx120_0 := (HB.out.cell (World.block_lt_of_cell? w _ hx120_0)).trans hx120_0
                                          replace hx120_1 := (HB.out.cell (World.block_lt_of_cell? w _ hx120_1)).trans hx120_1
                                          replace hx120_2 := (HB.out.cell (World.block_lt_of_cell? w _ hx120_2)).trans hx120_2
                                          replace p120 := eq_true p120
                                          replace q120 := eq_true q120
                                          obtain ⟨Ao55, co55, eo55⟩ := Kd.R_slice HO_7.out
                                          subst eo55
                                          have p121 : 0 ≤ (((rd_T39 l1 x11_3).f0) : Int) := of_decide_eq_true (by first | (with_reducible assumption) | assumption)
                                          have q121 : ((rd_T39 l1 x11_3).f0) < (x7_2.length : Int) := of_decide_eq_true (by first | (with_reducible assumption) | assumption)
                                          obtain ⟨ad121, e121, hx121_0⟩ := Kd.at_int (Kd.R_reads' HO_7.out).2.2 ((rd_T39 l1 x11_3).f0) p121 q121
                                          cases e121
                                          replace p121 := eq_true p121
                                          replace q121 := eq_true q121
                                          have p122 : 0 ≤ (x11_3 : Int) := of_decide_eq_true (by first | (with_reducible assumption) | assumption)
                                          have q122 : x11_3 < (l1.length : Int) := of_decide_eq_true (by first | (with_reducible assumption) | assumption)
                                          obtain ⟨ad122, e122, hx122_0, hx122_1, hx122_2⟩ := at_T39 HR1.out x11_3 p122 q122
                                          obtain rfl : ad120 = ad122 := (by injection e122)
                                          replace hx122_0 := (HB.out.cell (World.block_lt_of_cell? w _ hx122_0)).trans hx122_0
                                          replace hx122_1 := (HB.out.cell (World.block_lt_of_cell? w _ hx122_1)).trans hx122_1
                                          replace hx122_2 := (HB.out.cell (World.block_lt_of_cell? w _ hx122_2)).trans hx122_2
                                          replace p122 := eq_true p122
                                          replace q122 := eq_true q122
                                          have p123 : 0 ≤ (((rd_T39 l1 x11_3).f1) : Int) := of_decide_eq_true (by first | (with_reducible assumption) | assumption)
                                          have q123 : ((rd_T39 l1 x11_3).f1) < (x7_2.length : Int) := of_decide_eq_true (by first | (with_reducible assumption) | assumption)
                                          obtain ⟨ad123, e123, hx123_0⟩ := Kd.at_int (Kd.R_reads' HO_7.out).2.2 ((rd_T39 l1 x11_3).f1) p123 q123
                                          obtain rfl : ad121 = ad123 := (by injection e123)
                                          replace p123 := eq_true p123
                                          replace q123 := eq_true q123
                                          have p124 : 0 ≤ (x11_3 : Int) := of_decide_eq_true (by first | (with_reducible assumption) | assumption)
                                          have q124 : x11_3 < (l1.length : Int) := of_decide_eq_true (by first | (with_reducible assumption) | assumption)
                                          obtain ⟨ad124, e124, hx124_0, hx124_1, hx124_2⟩ := at_T39 HR1.out x11_3 p124 q124
                                          obtain rfl : ad120 = ad124 := (by injection e124)
                                          replace hx124_0 := (HB.out.cell (World.block_lt_of_cell? w _ hx124_0)).trans hx124_0
                                          replace hx124_1 := (HB.out.cell (World.block_lt_of_cell? w _ hx124_1)).trans hx124_1
                                          replace hx124_2 := (HB.out.cell (World.block_lt_of_cell? w _ hx124_2)).trans hx124_2
                                          replace p124 := eq_true p124
                                          replace q124 := eq_true q124
                                          go_wp2
                                          repeat (go_quiet (fail); try go_wp2)
                                          go_roundg k3
                                          case measure => have := HJ2.out; have := HK2.out; have := HK3.out; omega
                                          case rel => exact ⟨(wrap64 (x11_3 + 1)), (by first | rfl | (simp; done) | (simp [*]; done)), H', ⟨by have := HJ2.out; have := HK2.out; have := HK3.out; omega⟩, ⟨by (with_reducible repeat (first | apply Kd.R_alloc | apply Kd.R_drewN | apply Kd.R_drew)); exact HO_5.out⟩, ⟨by (with_reducible repeat (first | apply Kd.R_alloc | apply Kd.R_drewN | apply Kd.R_drew)); exact HO_7.out⟩, ⟨by repeat (first | (with_reducible first | exact HB.out | apply below_alloc | apply pw_below_drewN | apply below_drew1) | exact HB.out)⟩⟩
                                      · rw [if_neg c52] at H
                                        exact absurd H (by simp)
                                    · rw [if_neg c51] at H
                                      exact absurd H (by simp)
                                  · rw [if_neg c50] at H
                                    exact absurd H (by simp)
                                · rw [if_neg c49] at H
                                  exact absurd H (by simp)
                              · rw [if_neg c48] at H
                                exact absurd H (by simp)
                            · rw [if_neg c47] at H
                              have c47b0 : decide (x11_3 < (l1.length : Int)) = false := decide_eq_false c47
                              clear c47
                              have H' := Aside0.mk H
                              clear H
                              go_wp2
                              repeat (go_quiet (fail); try go_wp2)
                              go_loopg [12] k3 (fun kq v12 w' => ∃ (x12_4 : Int), v12 = .int .i64 x12_4 ∧ Aside0 (drovewaylaw09_FeudsGroups.l3 kq l1 t104 x12_4 = some r) ∧ Aside0 (kq ≤ k3) ∧ Aside0 (Kd.R (Kd.int .i64) 3 w' w.heap.size (fun _ => True) (.slice Ao46 t104.length co46) t104) ∧ Aside0 (Below w.heap.size w w'))
                              case atStart => exact ⟨(0), (by first | rfl | (simp; done) | (simp [*]; done)), H', ⟨Nat.le_refl _⟩, ⟨by (with_reducible repeat (first | apply Kd.R_alloc | apply Kd.R_drewN | apply Kd.R_drew)); exact Kd.R_mono HO_5.out (fun _ hk => trivial)⟩, ⟨by repeat (first | (with_reducible first | exact HB.out | apply below_alloc | apply pw_below_drewN | apply below_drew1) | exact HB.out)⟩⟩
                              case round => as_aux_lemma =>
                                clear H'
                                try clear c1
                                try clear p1
                                try clear q1
                                try clear hx1
                                try clear c2
                                try clear p2
                                try clear c3
                                try clear c4
                                try clear p4
                                try clear q4
                                try clear hx4
                                try clear hf4
                                try clear c5
                                try clear p6
                                try clear c7
                                try clear c11
                                try clear c11b0
                                try clear c11b1
                                try clear p11
                                try clear q11
                                try clear hx11
                                try clear c12
                                try clear c12b0
                                try clear c12b1
                                try clear p12
                                try clear q12
                                try clear hx12
                                try clear c13
                                try clear c13b0
                                try clear c13b1
                                try clear c17
                                try clear c17b0
                                try clear c20
                                try clear c20b0
                                try clear c21
                                try clear c21b0
                                try clear c22
                                try clear c22b0
                                try clear c22b1
                                try clear c24
                                try clear c24b0
                                try clear c25
                                try clear c25b0
                                try clear c25b1
                                try clear c26
                                try clear c26b0
                                try clear c28
                                try clear c28b0
                                try clear c29
                                try clear c29b0
                                try clear c30
                                try clear c31
                                try clear c31b0
                                try clear c32
                                try clear c32b0
                                try clear c33
                                try clear c33b0
                                try clear c34
                                try clear c34b0
                                try clear c35
                                try clear c35b0
                                try clear c36
                                try clear c36b0
                                try clear c36b1
                                try clear c38
                                try clear c38b0
                                try clear c38b1
                                try clear c39
                                try clear c39b0
                                try clear p40
                                try clear q40
                                try clear hx40
                                try clear hf40
                                try clear c43
                                try clear c43b0
                                try clear c43b1
                                try clear c45
                                try clear c45b0
                                try clear c45b1
                                try clear c47
                                try clear c47b0
                                try clear c48
                                try clear c48b0
                                try clear c49
                                try clear c49b0
                                try clear c50
                                try clear c50b0
                                try clear c51
                                try clear c51b0
                                try clear c52
                                try clear c52b0
                                try clear c53
                                try clear c53b0
                                try clear c53b1
                                try clear c53b2
                                try clear hx112_0
                                try clear hx113_0
                                try clear hx114_0
                                try clear hx115_0
                                try clear hx116_0
                                try clear hx117_0
                                try clear hx118_0
                                try clear hx120_0
                                try clear hx120_1
                                try clear hx120_2
                                try clear hx121_0
                                try clear hx122_0
                                try clear hx122_1
                                try clear hx122_2
                                try clear hx123_0
                                try clear hx124_0
                                try clear hx124_1
                                try clear hx124_2
                                try clear hx40_0
                                try clear p1
                                try clear p11
                                try clear p112
                                try clear p113
                                try clear p114
                                try clear p115
                                try clear p116
                                try clear p117
                                try clear p118
                                try clear p120
                                try clear p121
                                try clear p122
                                try clear p123
                                try clear p124
                                try clear p2
                                try clear p4
                                try clear p40
                                try clear p6
                                try clear q1
                                try clear q11
                                try clear q112
                                try clear q113
                                try clear q114
                                try clear q115
                                try clear q116
                                try clear q117
                                try clear q118
                                try clear q120
                                try clear q121
                                try clear q122
                                try clear q123
                                try clear q124
                                try clear q4
                                try clear q40
                                obtain ⟨x12_4, rfl, HA, HK4, HO_5, HB⟩ := hrel
                                cases gk with
                                | zero => exact absurd HA.out (by simp [drovewaylaw09_FeudsGroups.l3])
                                | succ k4 =>
                                  have H := HA.out
                                  clear HA
                                  simp only [drovewaylaw09_FeudsGroups.l3] at H
                                  by_cases c56 : x12_4 < (t104.length : Int)
                                  · rw [if_pos c56] at H
                                    have c56b0 : decide (x12_4 < (t104.length : Int)) = true := decide_eq_true c56
                                    clear c56
                                    by_cases c57 : 0 ≤ x12_4
                                    · rw [if_pos c57] at H
                                      have c57b0 : decide (0 ≤ x12_4) = true := decide_eq_true c57
                                      clear c57
                                      have H' := Aside0.mk H
                                      clear H
                                      have p126 : 0 ≤ (x12_4 : Int) := of_decide_eq_true (by first | (with_reducible assumption) | assumption)
                                      have q126 : x12_4 < (t104.length : Int) := of_decide_eq_true (by first | (with_reducible assumption) | assumption)
                                      obtain ⟨ad126, e126, hx126_0⟩ := Kd.at_int (Kd.R_reads' HO_5.out).2.2 x12_4 p126 q126
                                      cases e126
                                      replace p126 := eq_true p126
                                      replace q126 := eq_true q126
                                      have p127 : 0 ≤ (x12_4 : Int) := of_decide_eq_true (by first | (with_reducible assumption) | assumption)
                                      have q127 : x12_4 < (t104.length : Int) := of_decide_eq_true (by first | (with_reducible assumption) | assumption)
                                      obtain ⟨ad127, e127, hx127_0⟩ := Kd.at_int (Kd.R_reads' HO_5.out).2.2 x12_4 p127 q127
                                      obtain rfl : ad126 = ad127 := (by injection e127)
                                      replace p127 := eq_true p127
                                      replace q127 := eq_true q127
                                      go_wp2
                                      repeat (go_quiet (fail); try go_wp2)
                                      go_loopg [13, 14] k4 (fun kq v13 v14 w' => ∃ (x13_5 : Int) (x14_5 : Bool), v13 = .int .i64 x13_5 ∧ v14 = .bool x14_5 ∧ Aside0 (drovewaylaw09_FeudsGroups.l4 kq l1 t104 x12_4 x13_5 x14_5 = some r) ∧ Aside0 (kq ≤ k4) ∧ Aside0 (Kd.R (Kd.int .i64) 3 w' w.heap.size (fun _ => True) (.slice (some ad126) t104.length co46) t104) ∧ Aside0 (Below w.heap.size w w'))
                                      case atStart => exact ⟨(Go.bits .and .i64 (rd t104 x12_4) (wrap64 (-(rd t104 x12_4)))), (true), (by first | rfl | (simp; done) | (simp [*]; done)), (by first | rfl | (simp; done) | (simp [*]; done)), H', ⟨Nat.le_refl _⟩, ⟨by (with_reducible repeat (first | apply Kd.R_alloc | apply Kd.R_drewN | apply Kd.R_drew)); exact HO_5.out⟩, ⟨by repeat (first | (with_reducible first | exact HB.out | apply below_alloc | apply pw_below_drewN | apply below_drew1) | exact HB.out)⟩⟩
                                      case round => as_aux_lemma =>
                                        clear H'
                                        try clear c1
                                        try clear p1
                                        try clear q1
                                        try clear hx1
                                        try clear c2
                                        try clear p2
                                        try clear c3
                                        try clear c4
                                        try clear p4
                                        try clear q4
                                        try clear hx4
                                        try clear hf4
                                        try clear c5
                                        try clear p6
                                        try clear c7
                                        try clear c11
                                        try clear c11b0
                                        try clear c11b1
                                        try clear p11
                                        try clear q11
                                        try clear hx11
                                        try clear c12
                                        try clear c12b0
                                        try clear c12b1
                                        try clear p12
                                        try clear q12
                                        try clear hx12
                                        try clear c13
                                        try clear c13b0
                                        try clear c13b1
                                        try clear c17
                                        try clear c17b0
                                        try clear c20
                                        try clear c20b0
                                        try clear c21
                                        try clear c21b0
                                        try clear c22
                                        try clear c22b0
                                        try clear c22b1
                                        try clear c24
                                        try clear c24b0
                                        try clear c25
                                        try clear c25b0
                                        try clear c25b1
                                        try clear c26
                                        try clear c26b0
                                        try clear c28
                                        try clear c28b0
                                        try clear c29
                                        try clear c29b0
                                        try clear c30
                                        try clear c31
                                        try clear c31b0
                                        try clear c32
                                        try clear c32b0
                                        try clear c33
                                        try clear c33b0
                                        try clear c34
                                        try clear c34b0
                                        try clear c35
                                        try clear c35b0
                                        try clear c36
                                        try clear c36b0
                                        try clear c36b1
                                        try clear c38
                                        try clear c38b0
                                        try clear c38b1
                                        try clear c39
                                        try clear c39b0
                                        try clear p40
                                        try clear q40
                                        try clear hx40
                                        try clear hf40
                                        try clear c43
                                        try clear c43b0
                                        try clear c43b1
                                        try clear c45
                                        try clear c45b0
                                        try clear c45b1
                                        try clear c47
                                        try clear c47b0
                                        try clear c48
                                        try clear c48b0
                                        try clear c49
                                        try clear c49b0
                                        try clear c50
                                        try clear c50b0
                                        try clear c51
                                        try clear c51b0
                                        try clear c52
                                        try clear c52b0
                                        try clear c53
                                        try clear c53b0
                                        try clear c53b1
                                        try clear c53b2
                                        try clear c56
                                        try clear c56b0
                                        try clear c57
                                        try clear c57b0
                                        try clear hx112_0
                                        try clear hx113_0
                                        try clear hx114_0
                                        try clear hx115_0
                                        try clear hx116_0
                                        try clear hx117_0
                                        try clear hx118_0
                                        try clear hx120_0
                                        try clear hx120_1
                                        try clear hx120_2
                                        try clear hx121_0
                                        try clear hx122_0
                                        try clear hx122_1
                                        try clear hx122_2
                                        try clear hx123_0
                                        try clear hx124_0
                                        try clear hx124_1
                                        try clear hx124_2
                                        try clear hx126_0
                                        try clear hx127_0
                                        try clear hx40_0
                                        try clear p1
                                        try clear p11
                                        try clear p112
                                        try clear p113
                                        try clear p114
                                        try clear p115
                                        try clear p116
                                        try clear p117
                                        try clear p118
                                        try clear p12
                                        try clear p120
                                        try clear p121
                                        try clear p122
                                        try clear p123
                                        try clear p124
                                        try clear p126
                                        try clear p127
                                        try clear p2
                                        try clear p4
                                        try clear p40
                                        try clear p6
                                        try clear q1
                                        try clear q11
                                        try clear q112
                                        try clear q113
                                        try clear q114
                                        try clear q115
                                        try clear q116
                                        try clear q117
                                        try clear q118
                                        try clear q12
                                        try clear q120
                                        try clear q121
                                        try clear q122
                                        try clear q123
                                        try clear q124
                                        try clear q126
                                        try clear q127
                                        try clear q4
                                        try clear q40
                                        obtain ⟨x13_5, x14_5, rfl, rfl, HA, HK5, HO_5, HB⟩ := hrel
                                        cases gk with
                                        | zero => exact absurd HA.out (by simp [drovewaylaw09_FeudsGroups.l4])
                                        | succ k5 =>
                                          have H := HA.out
                                          clear HA
                                          simp only [drovewaylaw09_FeudsGroups.l4] at H
                                          by_cases c58 : x14_5 = true
                                          · subst c58
                                            have H1 : (drovewaylaw09_FeudsGroups.l5 k5 l1 t104 x12_4 x13_5 false 0) = some r := by rw [if_pos rfl] at H; exact H
                                            clear H
                                            have H := H1
                                            clear H1
                                            have H' := Aside0.mk H
                                            clear H
                                            go_wp2
                                            repeat (go_quiet (fail); try go_wp2)
                                            go_loopg [13, 14, 15] k5 (fun kq v13 v14 v15 w' => ∃ (x13_6 : Int) (x14_6 : Bool) (x15_6 : Int), v13 = .int .i64 x13_6 ∧ v14 = .bool x14_6 ∧ v15 = .int .i64 x15_6 ∧ Aside0 (drovewaylaw09_FeudsGroups.l5 kq l1 t104 x12_4 x13_6 x14_6 x15_6 = some r) ∧ Aside0 (kq ≤ k5) ∧ Aside0 (Kd.R (Kd.int .i64) 3 w' w.heap.size (fun _ => True) (.slice (some ad126) t104.length co46) t104) ∧ Aside0 (Below w.heap.size w w'))
                                            case atStart => exact ⟨(x13_5), (false), (0), (by first | rfl | (simp; done) | (simp [*]; done)), (by first | rfl | (simp; done) | (simp [*]; done)), (by first | rfl | (simp; done) | (simp [*]; done)), H', ⟨Nat.le_refl _⟩, ⟨by (with_reducible repeat (first | apply Kd.R_alloc | apply Kd.R_drewN | apply Kd.R_drew)); exact HO_5.out⟩, ⟨by repeat (first | (with_reducible first | exact HB.out | apply below_alloc | apply pw_below_drewN | apply below_drew1) | exact HB.out)⟩⟩
                                            case round => as_aux_lemma =>
                                              clear H'
                                              try clear c1
                                              try clear p1
                                              try clear q1
                                              try clear hx1
                                              try clear c2
                                              try clear p2
                                              try clear c3
                                              try clear c4
                                              try clear p4
                                              try clear q4
                                              try clear hx4
                                              try clear hf4
                                              try clear c5
                                              try clear p6
                                              try clear c7
                                              try clear c11
                                              try clear c11b0
                                              try clear c11b1
                                              try clear p11
                                              try clear q11
                                              try clear hx11
                                              try clear c12
                                              try clear c12b0
                                              try clear c12b1
                                              try clear p12
                                              try clear q12
                                              try clear hx12
                                              try clear c13
                                              try clear c13b0
                                              try clear c13b1
                                              try clear c17
                                              try clear c17b0
                                              try clear c20
                                              try clear c20b0
                                              try clear c21
                                              try clear c21b0
                                              try clear c22
                                              try clear c22b0
                                              try clear c22b1
                                              try clear c24
                                              try clear c24b0
                                              try clear c25
                                              try clear c25b0
                                              try clear c25b1
                                              try clear c26
                                              try clear c26b0
                                              try clear c28
                                              try clear c28b0
                                              try clear c29
                                              try clear c29b0
                                              try clear c30
                                              try clear c31
                                              try clear c31b0
                                              try clear c32
                                              try clear c32b0
                                              try clear c33
                                              try clear c33b0
                                              try clear c34
                                              try clear c34b0
                                              try clear c35
                                              try clear c35b0
                                              try clear c36
                                              try clear c36b0
                                              try clear c36b1
                                              try clear c38
                                              try clear c38b0
                                              try clear c38b1
                                              try clear c39
                                              try clear c39b0
                                              try clear p40
                                              try clear q40
                                              try clear hx40
                                              try clear hf40
                                              try clear c43
                                              try clear c43b0
                                              try clear c43b1
                                              try clear c45
                                              try clear c45b0
                                              try clear c45b1
                                              try clear c47
                                              try clear c47b0
                                              try clear c48
                                              try clear c48b0
                                              try clear c49
                                              try clear c49b0
                                              try clear c50
                                              try clear c50b0
                                              try clear c51
                                              try clear c51b0
                                              try clear c52
                                              try clear c52b0
                                              try clear c53
                                              try clear c53b0
                                              try clear c53b1
                                              try clear c53b2
                                              try clear c56
                                              try clear c56b0
                                              try clear c57
                                              try clear c57b0
                                              try clear c58
                                              try clear hx112_0
                                              try clear hx113_0
                                              try clear hx114_0
                                              try clear hx115_0
                                              try clear hx116_0
                                              try clear hx117_0
                                              try clear hx118_0
                                              try clear hx120_0
                                              try clear hx120_1
                                              try clear hx120_2
                                              try clear hx121_0
                                              try clear hx122_0
                                              try clear hx122_1
                                              try clear hx122_2
                                              try clear hx123_0
                                              try clear hx124_0
                                              try clear hx124_1
                                              try clear hx124_2
                                              try clear hx126_0
                                              try clear hx127_0
                                              try clear hx40_0
                                              try clear p1
                                              try clear p11
                                              try clear p112
                                              try clear p113
                                              try clear p114
                                              try clear p115
                                              try clear p116
                                              try clear p117
                                              try clear p118
                                              try clear p12
                                              try clear p120
                                              try clear p121
                                              try clear p122
                                              try clear p123
                                              try clear p124
                                              try clear p126
                                              try clear p127
                                              try clear p2
                                              try clear p4
                                              try clear p40
                                              try clear p6
                                              try clear q1
                                              try clear q11
                                              try clear q112
                                              try clear q113
                                              try clear q114
                                              try clear q115
                                              try clear q116
                                              try clear q117
                                              try clear q118
                                              try clear q12
                                              try clear q120
                                              try clear q121
                                              try clear q122
                                              try clear q123
                                              try clear q124
                                              try clear q126
                                              try clear q127
                                              try clear q4
                                              try clear q40
                                              obtain ⟨x13_6, x14_6, x15_6, rfl, rfl, rfl, HA, HK6, HO_5, HB⟩ := hrel
                                              cases gk with
                                              | zero => exact absurd HA.out (by simp [drovewaylaw09_FeudsGroups.l5])
                                              | succ k6 =>
                                                have H := HA.out
                                                clear HA
                                                simp only [drovewaylaw09_FeudsGroups.l5] at H
                                                by_cases c59 : x15_6 < (l1.length : Int)
                                                · rw [if_pos c59] at H
                                                  have c59b0 : decide (x15_6 < (l1.length : Int)) = true := decide_eq_true c59
                                                  clear c59
                                                  by_cases c60 : 0 ≤ x15_6
                                                  · rw [if_pos c60] at H
                                                    have c60b0 : decide (0 ≤ x15_6) = true := decide_eq_true c60
                                                    clear c60
                                                    by_cases c61 : 0 ≤ ((rd_T39 l1 x15_6).f0)
                                                    · rw [if_pos c61] at H
                                                      have c61b0 := eq_true c61
                                                      have c61b1 : decide (0 ≤ ((rd_T39 l1 x15_6).f0)) = true := decide_eq_true c61
                                                      clear c61
                                                      obtain ⟨ji62, hji62⟩ : ∃ j_ : Int, (shr .i64 x13_6 ((rd_T39 l1 x15_6).f0)) = j_ := ⟨_, rfl⟩
                                                      replace H : (if 0 ≤ ((rd_T39 l1 x15_6).f1) then (if ((rd_T39 l1 x15_6).f2 = true) then (drovewaylaw09_FeudsGroups.l5 k6 l1 t104 x12_4 x13_6 x14_6 (wrap64 (x15_6 + 1))) else (if (Int.tmod (ji62) 2) = (Int.tmod (shr .i64 x13_6 ((rd_T39 l1 x15_6).f1)) 2) then (drovewaylaw09_FeudsGroups.l5 k6 l1 t104 x12_4 x13_6 x14_6 (wrap64 (x15_6 + 1))) else (drovewaylaw09_FeudsGroups.l5 k6 l1 t104 x12_4 (Go.bits .or .i64 (Go.bits .or .i64 x13_6 (shl .i64 1 ((rd_T39 l1 x15_6).f0))) (shl .i64 1 ((rd_T39 l1 x15_6).f1))) true (wrap64 (x15_6 + 1))))) else (none)) = some r := by first | (rw [hji62] at H; exact H) | (simp only [hji62] at H ⊢; exact H)
                                                      have hji62_ : (x13_6 / 2 ^ min ((rd_T39 l1 x15_6).f0).toNat 64) = ji62 := hji62
                                                      have hji62z : ((rd_T39 l1 x15_6).f0) ≤ 64 → (x13_6 / 2 ^ ((rd_T39 l1 x15_6).f0).toNat) = ji62 := shr_small hji62
                                                      by_cases c63 : 0 ≤ ((rd_T39 l1 x15_6).f1)
                                                      · rw [if_pos c63] at H
                                                        have c63b0 := eq_true c63
                                                        have c63b1 : decide (0 ≤ ((rd_T39 l1 x15_6).f1)) = true := decide_eq_true c63
                                                        clear c63
                                                        obtain ⟨ji64, hji64⟩ : ∃ j_ : Int, (shr .i64 x13_6 ((rd_T39 l1 x15_6).f1)) = j_ := ⟨_, rfl⟩
                                                        replace H : (if ((rd_T39 l1 x15_6).f2 = true) then (drovewaylaw09_FeudsGroups.l5 k6 l1 t104 x12_4 x13_6 x14_6 (wrap64 (x15_6 + 1))) else (if (Int.tmod (ji62) 2) = (Int.tmod (ji64) 2) then (drovewaylaw09_FeudsGroups.l5 k6 l1 t104 x12_4 x13_6 x14_6 (wrap64 (x15_6 + 1))) else (drovewaylaw09_FeudsGroups.l5 k6 l1 t104 x12_4 (Go.bits .or .i64 (Go.bits .or .i64 x13_6 (shl .i64 1 ((rd_T39 l1 x15_6).f0))) (shl .i64 1 ((rd_T39 l1 x15_6).f1))) true (wrap64 (x15_6 + 1))))) = some r := by first | (rw [hji64] at H; exact H) | (simp only [hji64] at H ⊢; exact H)
                                                        have hji64_ : (x13_6 / 2 ^ min ((rd_T39 l1 x15_6).f1).toNat 64) = ji64 := hji64
                                                        have hji64z : ((rd_T39 l1 x15_6).f1) ≤ 64 → (x13_6 / 2 ^ ((rd_T39 l1 x15_6).f1).toNat) = ji64 := shr_small hji64
                                                        obtain ⟨bq65, hbq65⟩ : ∃ b_ : Bool, b_ = ((rd_T39 l1 x15_6).f2) := ⟨_, rfl⟩
                                                        replace H : (if (bq65 = true) then (drovewaylaw09_FeudsGroups.l5 k6 l1 t104 x12_4 x13_6 x14_6 (wrap64 (x15_6 + 1))) else (if (Int.tmod (ji62) 2) = (Int.tmod (ji64) 2) then (drovewaylaw09_FeudsGroups.l5 k6 l1 t104 x12_4 x13_6 x14_6 (wrap64 (x15_6 + 1))) else (drovewaylaw09_FeudsGroups.l5 k6 l1 t104 x12_4 (Go.bits .or .i64 (Go.bits .or .i64 x13_6 (shl .i64 1 ((rd_T39 l1 x15_6).f0))) (shl .i64 1 ((rd_T39 l1 x15_6).f1))) true (wrap64 (x15_6 + 1))))) = some r := by rw [← hbq65] at H; exact H
                                                        have Nbq65 := Aside0.mk hbq65
                                                        clear hbq65
                                                        by_cases c66 : (bq65 = true)
                                                        · subst c66
                                                          have H1 : (drovewaylaw09_FeudsGroups.l5 k6 l1 t104 x12_4 x13_6 x14_6 (wrap64 (x15_6 + 1))) = some r := by rw [if_pos rfl] at H; exact H
                                                          clear H
                                                          have H := H1
                                                          clear H1
                                                          have H' := Aside0.mk H
                                                          clear H
                                                          have p129 : 0 ≤ (x15_6 : Int) := of_decide_eq_true (by first | (with_reducible assumption) | assumption)
                                                          have q129 : x15_6 < (l1.length : Int) := of_decide_eq_true (by first | (with_reducible assumption) | assumption)
                                                          obtain ⟨ad129, e129, hx129_0, hx129_1, hx129_2⟩ := at_T39 HR1.out x15_6 p129 q129
                                                          (try rw [← Nbq65.out] at hx129_2)
                                                          cases e129
                                                          replace hx129_0 := (HB.out.cell (World.block_lt_of_cell? w _ hx129_0)).trans hx129_0
                                                          replace hx129_1 := (HB.out.cell (World.block_lt_of_cell? w _ hx129_1)).trans hx129_1
                                                          replace hx129_2 := (HB.out.cell (World.block_lt_of_cell? w _ hx129_2)).trans hx129_2
                                                          replace p129 := eq_true p129
                                                          replace q129 := eq_true q129
                                                          have p130 : 0 ≤ (x15_6 : Int) := of_decide_eq_true (by first | (with_reducible assumption) | assumption)
                                                          have q130 : x15_6 < (l1.length : Int) := of_decide_eq_true (by first | (with_reducible assumption) | assumption)
                                                          obtain ⟨ad130, e130, hx130_0, hx130_1, hx130_2⟩ := at_T39 HR1.out x15_6 p130 q130
                                                          (try rw [← Nbq65.out] at hx130_2)
                                                          obtain rfl : ad129 = ad130 := (by injection e130)
                                                          replace hx130_0 := (HB.out.cell (World.block_lt_of_cell? w _ hx130_0)).trans hx130_0
                                                          replace hx130_1 := (HB.out.cell (World.block_lt_of_cell? w _ hx130_1)).trans hx130_1
                                                          replace hx130_2 := (HB.out.cell (World.block_lt_of_cell? w _ hx130_2)).trans hx130_2
                                                          replace p130 := eq_true p130
                                                          replace q130 := eq_true q130
                                                          have p131 : 0 ≤ (x15_6 : Int) := of_decide_eq_true (by first | (with_reducible assumption) | assumption)
                                                          have q131 : x15_6 < (l1.length : Int) := of_decide_eq_true (by first | (with_reducible assumption) | assumption)
                                                          obtain ⟨ad131, e131, hx131_0, hx131_1, hx131_2⟩ := at_T39 HR1.out x15_6 p131 q131
                                                          (try rw [← Nbq65.out] at hx131_2)
                                                          obtain rfl : ad129 = ad131 := (by injection e131)
                                                          replace hx131_0 := (HB.out.cell (World.block_lt_of_cell? w _ hx131_0)).trans hx131_0
                                                          replace hx131_1 := (HB.out.cell (World.block_lt_of_cell? w _ hx131_1)).trans hx131_1
                                                          replace hx131_2 := (HB.out.cell (World.block_lt_of_cell? w _ hx131_2)).trans hx131_2
                                                          replace p131 := eq_true p131
                                                          replace q131 := eq_true q131
                                                          go_wp2
                                                          repeat (go_quiet (fail); try go_wp2)
                                                          go_roundg k6
                                                          case measure => have := HJ2.out; have := HK2.out; have := HK3.out; have := HK4.out; have := HK5.out; have := HK6.out; omega
                                                          case rel => exact ⟨(x13_6), (x14_6), (wrap64 (x15_6 + 1)), (by first | rfl | (simp; done) | (simp [*]; done)), (by first | rfl | (simp; done) | (simp [*]; done)), (by first | rfl | (simp; done) | (simp [*]; done)), H', ⟨by have := HJ2.out; have := HK2.out; have := HK3.out; have := HK4.out; have := HK5.out; have := HK6.out; omega⟩, ⟨by (with_reducible repeat (first | apply Kd.R_alloc | apply Kd.R_drewN | apply Kd.R_drew)); exact HO_5.out⟩, ⟨by repeat (first | (with_reducible first | exact HB.out | apply below_alloc | apply pw_below_drewN | apply below_drew1) | exact HB.out)⟩⟩
                                                        · replace c66 := Bool.eq_false_iff.mpr c66
                                                          subst c66
                                                          have H1 : (if (Int.tmod (ji62) 2) = (Int.tmod (ji64) 2) then (drovewaylaw09_FeudsGroups.l5 k6 l1 t104 x12_4 x13_6 x14_6 (wrap64 (x15_6 + 1))) else (drovewaylaw09_FeudsGroups.l5 k6 l1 t104 x12_4 (Go.bits .or .i64 (Go.bits .or .i64 x13_6 (shl .i64 1 ((rd_T39 l1 x15_6).f0))) (shl .i64 1 ((rd_T39 l1 x15_6).f1))) true (wrap64 (x15_6 + 1)))) = some r := by rw [if_neg (show ¬ (false = true) by decide)] at H; exact H
                                                          clear H
                                                          have H := H1
                                                          clear H1
                                                          by_cases c67 : (Int.tmod (ji62) 2) = (Int.tmod (ji64) 2)
                                                          · rw [if_pos c67] at H
                                                            have c67b0 : ((Int.tmod (ji62) 2) == (Int.tmod (ji64) 2)) = true := beq_iff_eq.mpr c67
                                                            have c67b1 : ((Int.tmod (ji62) 2) != (Int.tmod (ji64) 2)) = false := bne_eq_false_iff_eq.mpr c67
                                                            clear c67
                                                            have H' := Aside0.mk H
                                                            clear H
                                                            have p129 : 0 ≤ (x15_6 : Int) := of_decide_eq_true (by first | (with_reducible assumption) | assumption)
                                                            have q129 : x15_6 < (l1.length : Int) := of_decide_eq_true (by first | (with_reducible assumption) | assumption)
                                                            obtain ⟨ad129, e129, hx129_0, hx129_1, hx129_2⟩ := at_T39 HR1.out x15_6 p129 q129
                                                            (try rw [← Nbq65.out] at hx129_2)
                                                            cases e129
                                                            replace hx129_0 := (HB.out.cell (World.block_lt_of_cell? w _ hx129_0)).trans hx129_0
                                                            replace hx129_1 := (HB.out.cell (World.block_lt_of_cell? w _ hx129_1)).trans hx129_1
                                                            replace hx129_2 := (HB.out.cell (World.block_lt_of_cell? w _ hx129_2)).trans hx129_2
                                                            replace p129 := eq_true p129
                                                            replace q129 := eq_true q129
                                                            have p130 : 0 ≤ (x15_6 : Int) := of_decide_eq_true (by first | (with_reducible assumption) | assumption)
                                                            have q130 : x15_6 < (l1.length : Int) := of_decide_eq_true (by first | (with_reducible assumption) | assumption)
                                                            obtain ⟨ad130, e130, hx130_0, hx130_1, hx130_2⟩ := at_T39 HR1.out x15_6 p130 q130
                                                            (try rw [← Nbq65.out] at hx130_2)
                                                            obtain rfl : ad129 = ad130 := (by injection e130)
                                                            replace hx130_0 := (HB.out.cell (World.block_lt_of_cell? w _ hx130_0)).trans hx130_0
                                                            replace hx130_1 := (HB.out.cell (World.block_lt_of_cell? w _ hx130_1)).trans hx130_1
                                                            replace hx130_2 := (HB.out.cell (World.block_lt_of_cell? w _ hx130_2)).trans hx130_2
                                                            replace p130 := eq_true p130
                                                            replace q130 := eq_true q130
                                                            have p131 : 0 ≤ (x15_6 : Int) := of_decide_eq_true (by first | (with_reducible assumption) | assumption)
                                                            have q131 : x15_6 < (l1.length : Int) := of_decide_eq_true (by first | (with_reducible assumption) | assumption)
                                                            obtain ⟨ad131, e131, hx131_0, hx131_1, hx131_2⟩ := at_T39 HR1.out x15_6 p131 q131
                                                            (try rw [← Nbq65.out] at hx131_2)
                                                            obtain rfl : ad129 = ad131 := (by injection e131)
                                                            replace hx131_0 := (HB.out.cell (World.block_lt_of_cell? w _ hx131_0)).trans hx131_0
                                                            replace hx131_1 := (HB.out.cell (World.block_lt_of_cell? w _ hx131_1)).trans hx131_1
                                                            replace hx131_2 := (HB.out.cell (World.block_lt_of_cell? w _ hx131_2)).trans hx131_2
                                                            replace p131 := eq_true p131
                                                            replace q131 := eq_true q131
                                                            go_wp2
                                                            repeat (go_quiet (fail); try go_wp2)
                                                            go_roundg k6
                                                            case measure => have := HJ2.out; have := HK2.out; have := HK3.out; have := HK4.out; have := HK5.out; have := HK6.out; omega
                                                            case rel => exact ⟨(x13_6), (x14_6), (wrap64 (x15_6 + 1)), (by first | rfl | (simp; done) | (simp [*]; done)), (by first | rfl | (simp; done) | (simp [*]; done)), (by first | rfl | (simp; done) | (simp [*]; done)), H', ⟨by have := HJ2.out; have := HK2.out; have := HK3.out; have := HK4.out; have := HK5.out; have := HK6.out; omega⟩, ⟨by (with_reducible repeat (first | apply Kd.R_alloc | apply Kd.R_drewN | apply Kd.R_drew)); exact HO_5.out⟩, ⟨by repeat (first | (with_reducible first | exact HB.out | apply below_alloc | apply pw_below_drewN | apply below_drew1) | exact HB.out)⟩⟩
                                                          · rw [if_neg c67] at H
                                                            have c67b0 : ((Int.tmod (ji62) 2) == (Int.tmod (ji64) 2)) = false := beq_eq_false_iff_ne.mpr c67
                                                            have c67b1 : ((Int.tmod (ji62) 2) != (Int.tmod (ji64) 2)) = true := bne_iff_ne.mpr c67
                                                            have c68b0 := eq_true (of_decide_eq_true (by first | (with_reducible assumption) | assumption) : 0 ≤ ((rd_T39 l1 x15_6).f0))
                                                            obtain ⟨ji69, hji69⟩ : ∃ j_ : Int, (shl .i64 1 ((rd_T39 l1 x15_6).f0)) = j_ := ⟨_, rfl⟩
                                                            replace H : (drovewaylaw09_FeudsGroups.l5 k6 l1 t104 x12_4 (Go.bits .or .i64 (Go.bits .or .i64 x13_6 (ji69)) (shl .i64 1 ((rd_T39 l1 x15_6).f1))) true (wrap64 (x15_6 + 1))) = some r := by first | (rw [hji69] at H; exact H) | (simp only [hji69] at H ⊢; exact H)
                                                            have hji69_ : (IntKind.i64.wrap (1 * 2 ^ min ((rd_T39 l1 x15_6).f0).toNat 64)) = ji69 := hji69
                                                            have hji69z : ((rd_T39 l1 x15_6).f0) ≤ 64 → (IntKind.i64.wrap (1 * 2 ^ ((rd_T39 l1 x15_6).f0).toNat)) = ji69 := shl_small hji69
                                                            have hji69u : (IntKind.i64.wrap (2 ^ min ((rd_T39 l1 x15_6).f0).toNat 64)) = ji69 := by have h_ := hji69_; rw [Int.one_mul] at h_; exact h_
                                                            have hji69v : ((rd_T39 l1 x15_6).f0) ≤ 64 → (IntKind.i64.wrap (2 ^ ((rd_T39 l1 x15_6).f0).toNat)) = ji69 := fun hle_ => by have h_ := hji69z hle_; rw [Int.one_mul] at h_; exact h_
                                                            have hji69y : (wrap64 (1 * 2 ^ min ((rd_T39 l1 x15_6).f0).toNat 64)) = ji69 := (i64_w _).symm.trans hji69_
                                                            have hji69x : ((rd_T39 l1 x15_6).f0) ≤ 64 → (wrap64 (1 * 2 ^ ((rd_T39 l1 x15_6).f0).toNat)) = ji69 := fun h_ => (i64_w _).symm.trans (hji69z h_)
                                                            have c70b0 := eq_true (of_decide_eq_true (by first | (with_reducible assumption) | assumption) : 0 ≤ ((rd_T39 l1 x15_6).f1))
                                                            obtain ⟨ji71, hji71⟩ : ∃ j_ : Int, (shl .i64 1 ((rd_T39 l1 x15_6).f1)) = j_ := ⟨_, rfl⟩
                                                            replace H : (drovewaylaw09_FeudsGroups.l5 k6 l1 t104 x12_4 (Go.bits .or .i64 (Go.bits .or .i64 x13_6 (ji69)) (ji71)) true (wrap64 (x15_6 + 1))) = some r := by first | (rw [hji71] at H; exact H) | (simp only [hji71] at H ⊢; exact H)
                                                            have hji71_ : (IntKind.i64.wrap (1 * 2 ^ min ((rd_T39 l1 x15_6).f1).toNat 64)) = ji71 := hji71
                                                            have hji71z : ((rd_T39 l1 x15_6).f1) ≤ 64 → (IntKind.i64.wrap (1 * 2 ^ ((rd_T39 l1 x15_6).f1).toNat)) = ji71 := shl_small hji71
                                                            have hji71u : (IntKind.i64.wrap (2 ^ min ((rd_T39 l1 x15_6).f1).toNat 64)) = ji71 := by have h_ := hji71_; rw [Int.one_mul] at h_; exact h_
                                                            have hji71v : ((rd_T39 l1 x15_6).f1) ≤ 64 → (IntKind.i64.wrap (2 ^ ((rd_T39 l1 x15_6).f1).toNat)) = ji71 := fun hle_ => by have h_ := hji71z hle_; rw [Int.one_mul] at h_; exact h_
                                                            have hji71y : (wrap64 (1 * 2 ^ min ((rd_T39 l1 x15_6).f1).toNat 64)) = ji71 := (i64_w _).symm.trans hji71_
                                                            have hji71x : ((rd_T39 l1 x15_6).f1) ≤ 64 → (wrap64 (1 * 2 ^ ((rd_T39 l1 x15_6).f1).toNat)) = ji71 := fun h_ => (i64_w _).symm.trans (hji71z h_)
                                                            have H' := Aside0.mk H
                                                            clear H
                                                            have p129 : 0 ≤ (x15_6 : Int) := of_decide_eq_true (by first | (with_reducible assumption) | assumption)
                                                            have q129 : x15_6 < (l1.length : Int) := of_decide_eq_true (by first | (with_reducible assumption) | assumption)
                                                            obtain ⟨ad129, e129, hx129_0, hx129_1, hx129_2⟩ := at_T39 HR1.out x15_6 p129 q129
                                                            (try rw [← Nbq65.out] at hx129_2)
                                                            cases e129
                                                            replace hx129_0 := (HB.out.cell (World.block_lt_of_cell? w _ hx129_0)).trans hx129_0
                                                            replace hx129_1 := (HB.out.cell (World.block_lt_of_cell? w _ hx129_1)).trans hx129_1
                                                            replace hx129_2 := (HB.out.cell (World.block_lt_of_cell? w _ hx129_2)).trans hx129_2
                                                            replace p129 := eq_true p129
                                                            replace q129 := eq_true q129
                                                            have p130 : 0 ≤ (x15_6 : Int) := of_decide_eq_true (by first | (with_reducible assumption) | assumption)
                                                            have q130 : x15_6 < (l1.length : Int) := of_decide_eq_true (by first | (with_reducible assumption) | assumption)
                                                            obtain ⟨ad130, e130, hx130_0, hx130_1, hx130_2⟩ := at_T39 HR1.out x15_6 p130 q130
                                                            (try rw [← Nbq65.out] at hx130_2)
                                                            obtain rfl : ad129 = ad130 := (by injection e130)
                                                            replace hx130_0 := (HB.out.cell (World.block_lt_of_cell? w _ hx130_0)).trans hx130_0
                                                            replace hx130_1 := (HB.out.cell (World.block_lt_of_cell? w _ hx130_1)).trans hx130_1
                                                            replace hx130_2 := (HB.out.cell (World.block_lt_of_cell? w _ hx130_2)).trans hx130_2
                                                            replace p130 := eq_true p130
                                                            replace q130 := eq_true q130
                                                            have p131 : 0 ≤ (x15_6 : Int) := of_decide_eq_true (by first | (with_reducible assumption) | assumption)
                                                            have q131 : x15_6 < (l1.length : Int) := of_decide_eq_true (by first | (with_reducible assumption) | assumption)
                                                            obtain ⟨ad131, e131, hx131_0, hx131_1, hx131_2⟩ := at_T39 HR1.out x15_6 p131 q131
                                                            (try rw [← Nbq65.out] at hx131_2)
                                                            obtain rfl : ad129 = ad131 := (by injection e131)
                                                            replace hx131_0 := (HB.out.cell (World.block_lt_of_cell? w _ hx131_0)).trans hx131_0
                                                            replace hx131_1 := (HB.out.cell (World.block_lt_of_cell? w _ hx131_1)).trans hx131_1
                                                            replace hx131_2 := (HB.out.cell (World.block_lt_of_cell? w _ hx131_2)).trans hx131_2
                                                            replace p131 := eq_true p131
                                                            replace q131 := eq_true q131
                                                            have p132 : 0 ≤ (x15_6 : Int) := of_decide_eq_true (by first | (with_reducible assumption) | assumption)
                                                            have q132 : x15_6 < (l1.length : Int) := of_decide_eq_true (by first | (with_reducible assumption) | assumption)
                                                            obtain ⟨ad132, e132, hx132_0, hx132_1, hx132_2⟩ := at_T39 HR1.out x15_6 p132 q132
                                                            (try rw [← Nbq65.out] at hx132_2)
                                                            obtain rfl : ad129 = ad132 := (by injection e132)
                                                            replace hx132_0 := (HB.out.cell (World.block_lt_of_cell? w _ hx132_0)).trans hx132_0
                                                            replace hx132_1 := (HB.out.cell (World.block_lt_of_cell? w _ hx132_1)).trans hx132_1
                                                            replace hx132_2 := (HB.out.cell (World.block_lt_of_cell? w _ hx132_2)).trans hx132_2
                                                            replace p132 := eq_true p132
                                                            replace q132 := eq_true q132
                                                            have p133 : 0 ≤ (x15_6 : Int) := of_decide_eq_true (by first | (with_reducible assumption) | assumption)
                                                            have q133 : x15_6 < (l1.length : Int) := of_decide_eq_true (by first | (with_reducible assumption) | assumption)
                                                            obtain ⟨ad133, e133, hx133_0, hx133_1, hx133_2⟩ := at_T39 HR1.out x15_6 p133 q133
                                                            (try rw [← Nbq65.out] at hx133_2)
                                                            obtain rfl : ad129 = ad133 := (by injection e133)
                                                            replace hx133_0 := (HB.out.cell (World.block_lt_of_cell? w _ hx133_0)).trans hx133_0
                                                            replace hx133_1 := (HB.out.cell (World.block_lt_of_cell? w _ hx133_1)).trans hx133_1
                                                            replace hx133_2 := (HB.out.cell (World.block_lt_of_cell? w _ hx133_2)).trans hx133_2
                                                            replace p133 := eq_true p133
                                                            replace q133 := eq_true q133
                                                            go_wp2
                                                            repeat (go_quiet (fail); try go_wp2)
                                                            go_roundg k6
                                                            case measure => have := HJ2.out; have := HK2.out; have := HK3.out; have := HK4.out; have := HK5.out; have := HK6.out; omega
                                                            case rel => exact ⟨(Go.bits .or .i64 (Go.bits .or .i64 x13_6 (ji69)) (ji71)), (true), (wrap64 (x15_6 + 1)), (by first | rfl | (simp; done) | (simp only [← hji69, ← hji71] <;> (first | rfl | simp)) | (simp [*]; done)), (by first | rfl | (simp; done) | (simp [*]; done)), (by first | rfl | (simp; done) | (simp [*]; done)), H', ⟨by have := HJ2.out; have := HK2.out; have := HK3.out; have := HK4.out; have := HK5.out; have := HK6.out; omega⟩, ⟨by (with_reducible repeat (first | apply Kd.R_alloc | apply Kd.R_drewN | apply Kd.R_drew)); exact HO_5.out⟩, ⟨by repeat (first | (with_reducible first | exact HB.out | apply below_alloc | apply pw_below_drewN | apply below_drew1) | exact HB.out)⟩⟩
                                                      · rw [if_neg c63] at H
                                                        exact absurd H (by simp)
                                                    · rw [if_neg c61] at H
                                                      exact absurd H (by simp)
                                                  · rw [if_neg c60] at H
                                                    exact absurd H (by simp)
                                                · rw [if_neg c59] at H
                                                  have c59b0 : decide (x15_6 < (l1.length : Int)) = false := decide_eq_false c59
                                                  clear c59
                                                  have H' := Aside0.mk H
                                                  clear H
                                                  go_wp2
                                                  repeat (go_quiet (fail); try go_wp2)
                                                  go_roundg k6
                                                  case measure => have := HJ2.out; have := HK2.out; have := HK3.out; have := HK4.out; have := HK5.out; have := HK6.out; omega
                                                  case rel => exact ⟨(x13_6), (x14_6), (by first | rfl | (simp; done) | (simp [*]; done)), (by first | rfl | (simp; done) | (simp [*]; done)), H', ⟨by have := HJ2.out; have := HK2.out; have := HK3.out; have := HK4.out; have := HK5.out; have := HK6.out; omega⟩, ⟨by (with_reducible repeat (first | apply Kd.R_alloc | apply Kd.R_drewN | apply Kd.R_drew)); exact HO_5.out⟩, ⟨by repeat (first | (with_reducible first | exact HB.out | apply below_alloc | apply pw_below_drewN | apply below_drew1) | exact HB.out)⟩⟩
                                          · replace c58 := Bool.eq_false_iff.mpr c58
                                            subst c58
                                            have H1 : (if 0 ≤ x12_4 then (if x12_4 < (t104.length : Int) then (if x13_5 = (rd t104 x12_4) then (drovewaylaw09_FeudsGroups.l3 k5 l1 t104 (wrap64 (x12_4 + 1))) else (some false)) else (none)) else (none)) = some r := by rw [if_neg (show ¬ (false = true) by decide)] at H; exact H
                                            clear H
                                            have H := H1
                                            clear H1
                                            by_cases c72 : 0 ≤ x12_4
                                            · rw [if_pos c72] at H
                                              have c72b0 : decide (0 ≤ x12_4) = true := decide_eq_true c72
                                              clear c72
                                              by_cases c73 : x12_4 < (t104.length : Int)
                                              · rw [if_pos c73] at H
                                                have c73b0 : decide (x12_4 < (t104.length : Int)) = true := decide_eq_true c73
                                                clear c73
                                                by_cases c74 : x13_5 = (rd t104 x12_4)
                                                · rw [if_pos c74] at H
                                                  have c74b0 : (x13_5 == (rd t104 x12_4)) = true := beq_iff_eq.mpr c74
                                                  have c74b1 : (x13_5 != (rd t104 x12_4)) = false := bne_eq_false_iff_eq.mpr c74
                                                  clear c74
                                                  have H' := Aside0.mk H
                                                  clear H
                                                  have p128 : 0 ≤ (x12_4 : Int) := of_decide_eq_true (by first | (with_reducible assumption) | assumption)
                                                  have q128 : x12_4 < (t104.length : Int) := of_decide_eq_true (by first | (with_reducible assumption) | assumption)
                                                  obtain ⟨ad128, e128, hx128_0⟩ := Kd.at_int (Kd.R_reads' HO_5.out).2.2 x12_4 p128 q128
                                                  obtain rfl : ad126 = ad128 := (by injection e128)
                                                  replace p128 := eq_true p128
                                                  replace q128 := eq_true q128
                                                  go_wp2
                                                  repeat (go_quiet (fail); try go_wp2)
                                                  go_roundg k5
                                                  case measure => have := HJ2.out; have := HK2.out; have := HK3.out; have := HK4.out; have := HK5.out; omega
                                                  case rel => exact ⟨(wrap64 (x12_4 + 1)), (by first | rfl | (simp; done) | (simp [*]; done)), H', ⟨by have := HJ2.out; have := HK2.out; have := HK3.out; have := HK4.out; have := HK5.out; omega⟩, ⟨by (with_reducible repeat (first | apply Kd.R_alloc | apply Kd.R_drewN | apply Kd.R_drew)); exact HO_5.out⟩, ⟨by repeat (first | (with_reducible first | exact HB.out | apply below_alloc | apply pw_below_drewN | apply below_drew1) | exact HB.out)⟩⟩
                                                · rw [if_neg c74] at H
                                                  have c74b0 : (x13_5 == (rd t104 x12_4)) = false := beq_eq_false_iff_ne.mpr c74
                                                  have c74b1 : (x13_5 != (rd t104 x12_4)) = true := bne_iff_ne.mpr c74
                                                  obtain rfl := Option.some.inj H
                                                  have p128 : 0 ≤ (x12_4 : Int) := of_decide_eq_true (by first | (with_reducible assumption) | assumption)
                                                  have q128 : x12_4 < (t104.length : Int) := of_decide_eq_true (by first | (with_reducible assumption) | assumption)
                                                  obtain ⟨ad128, e128, hx128_0⟩ := Kd.at_int (Kd.R_reads' HO_5.out).2.2 x12_4 p128 q128
                                                  obtain rfl : ad126 = ad128 := (by injection e128)
                                                  replace p128 := eq_true p128
                                                  replace q128 := eq_true q128
                                                  go_wp2
                                                  repeat (go_quiet (fail); try go_wp2)
                                                  go_ret
                                                  exact ⟨by first | rfl | (simp [errW_none, errW_some] <;> rfl) | (simp only [← hji44]; first | rfl | (simp [errW_none, errW_some] <;> rfl)) | (simp [*, errW_none, errW_some] <;> rfl), by repeat (first | (with_reducible first | exact HB.out | apply below_alloc | apply pw_below_drewN | apply below_drew1) | exact HB.out)⟩
                                              · rw [if_neg c73] at H
                                                exact absurd H (by simp)
                                            · rw [if_neg c72] at H
                                              exact absurd H (by simp)
                                    · rw [if_neg c57] at H
                                      exact absurd H (by simp)
                                  · rw [if_neg c56] at H
                                    have c56b0 : decide (x12_4 < (t104.length : Int)) = false := decide_eq_false c56
                                    clear c56
                                    replace H := Option.bind_eq_some_iff.mp H
                                    obtain ⟨t125, A750, H⟩ := H
                                    replace H : (some t125) = some r := H
                                    have A75 := Aside0.mk A750
                                    clear A750
                                    obtain rfl := Option.some.inj H
                                    go_wp2_with (first | (go_at_call 17; (with_reducible refine (drovewaylaw09_alive.calls  t125 _ A75.out).mono ?_); rintro e w76 ⟨rfl, hb⟩; have n0_ := Aside0.mk (Kd.R_below (by (with_reducible repeat (first | apply Kd.R_alloc | apply Kd.R_drewN | apply Kd.R_drew)); exact HO_5.out) hb); have n1_ := Aside0.mk (below_step (by repeat (first | (with_reducible first | exact HB.out | apply below_alloc | apply pw_below_drewN | apply below_drew1) | exact HB.out)) hb); clear HO_5; clear HB; have HO_5 := n0_; have HB := n1_; clear n0_ n1_; (try clear hb); (try clear hb2); (try clear hk); (try clear hi)))
                                    repeat (go_quiet (first | (go_at_call 17; (with_reducible refine (drovewaylaw09_alive.calls  t125 _ A75.out).mono ?_); rintro e w76 ⟨rfl, hb⟩; have n0_ := Aside0.mk (Kd.R_below (by (with_reducible repeat (first | apply Kd.R_alloc | apply Kd.R_drewN | apply Kd.R_drew)); exact HO_5.out) hb); have n1_ := Aside0.mk (below_step (by repeat (first | (with_reducible first | exact HB.out | apply below_alloc | apply pw_below_drewN | apply below_drew1) | exact HB.out)) hb); clear HO_5; clear HB; have HO_5 := n0_; have HB := n1_; clear n0_ n1_; (try clear hb); (try clear hb2); (try clear hk); (try clear hi))); try go_wp2_with (first | (go_at_call 17; (with_reducible refine (drovewaylaw09_alive.calls  t125 _ A75.out).mono ?_); rintro e w76 ⟨rfl, hb⟩; have n0_ := Aside0.mk (Kd.R_below (by (with_reducible repeat (first | apply Kd.R_alloc | apply Kd.R_drewN | apply Kd.R_drew)); exact HO_5.out) hb); have n1_ := Aside0.mk (below_step (by repeat (first | (with_reducible first | exact HB.out | apply below_alloc | apply pw_below_drewN | apply below_drew1) | exact HB.out)) hb); clear HO_5; clear HB; have HO_5 := n0_; have HB := n1_; clear n0_ n1_; (try clear hb); (try clear hb2); (try clear hk); (try clear hi))))
                                    go_ret
                                    exact ⟨by first | rfl | (simp [errW_none, errW_some] <;> rfl) | (simp only [← hji44]; first | rfl | (simp [errW_none, errW_some] <;> rfl)) | (simp [*, errW_none, errW_some] <;> rfl), by repeat (first | (with_reducible first | exact HB.out | apply below_alloc | apply pw_below_drewN | apply below_drew1) | exact HB.out)⟩
                      · rw [if_neg c45] at H
                        have c45b0 : (x8_2 == (wrap64 ((ji44) - 1))) = false := beq_eq_false_iff_ne.mpr c45
                        have c45b1 : (x8_2 != (wrap64 ((ji44) - 1))) = true := bne_iff_ne.mpr c45
                        obtain rfl := Option.some.inj H
                        obtain ⟨Ao77, co77, eo77⟩ := Kd.R_slice HO_5.out
                        subst eo77
                        go_wp2
                        repeat (go_quiet (fail); try go_wp2)
                        go_ret
                        exact ⟨by first | rfl | (simp [errW_none, errW_some] <;> rfl) | (simp only [← hji44]; first | rfl | (simp [errW_none, errW_some] <;> rfl)) | (simp [*, errW_none, errW_some] <;> rfl), by repeat (first | (with_reducible first | exact HB.out | apply below_alloc | apply pw_below_drewN | apply below_drew1) | exact HB.out)⟩
                    · rw [if_neg c43] at H
                      exact absurd H (by simp)
            · rw [if_neg c13] at H
              exact absurd H (by simp)
          · rw [if_neg c12] at H
            exact absurd H (by simp)
        · rw [if_neg c11] at H
          have c11b0 : (t105 == 0) = false := beq_eq_false_iff_ne.mpr c11
          have c11b1 : (t105 != 0) = true := bne_iff_ne.mpr c11
          by_cases c78 : t105 = 10
          · rw [if_pos c78] at H
            have c78b0 : (t105 == 10) = true := beq_iff_eq.mpr c78
            have c78b1 : (t105 != 10) = false := bne_eq_false_iff_eq.mpr c78
            clear c78
            by_cases c79 : (t104.length : Int) = 0
            · rw [if_pos c79] at H
              have c79b0 : ((t104.length : Int) == 0) = true := beq_iff_eq.mpr c79
              have c79b1 : ((t104.length : Int) != 0) = false := bne_eq_false_iff_eq.mpr c79
              clear c79
              replace H := Option.bind_eq_some_iff.mp H
              obtain ⟨t108, A800, H⟩ := H
              replace H : (some t108) = some r := H
              have A80 := Aside0.mk A800
              clear A800
              obtain rfl := Option.some.inj H
              go_wp2_with (first | (go_at_call 26; (with_reducible refine (feuds_Clans.calls a0 _ _ l1 t104 t105 _ ?side1 ?side2 A10.out).mono ?_); (case side1 => repeat (first | exact (Kd.C_below HR1.out HB.out) | (with_reducible refine Kd.C_alloc ?_ _) | (with_reducible refine Kd.C_drewN ?_ _) | (with_reducible refine Kd.C_drew ?_))); (case side2 => exact HC1.out); rintro e w81 ⟨v106, rfl, ho0, hb⟩; have n0_ := Aside0.mk (Kd.R_lower ho0 (below_size (by repeat (first | (with_reducible first | exact HB.out | apply below_alloc | apply pw_below_drewN | apply below_drew1) | exact HB.out)))); have n1_ := Aside0.mk (below_step (by repeat (first | (with_reducible first | exact HB.out | apply below_alloc | apply pw_below_drewN | apply below_drew1) | exact HB.out)) hb); clear HB; have HO107 := n0_; have HB := n1_; clear n0_ n1_; (try clear hb); (try clear hb2); (try clear hk); (try clear hi); (try clear ho0); obtain ⟨Ao82, co82, eo82⟩ := Kd.R_slice HO107.out; subst eo82) | (go_at_call 17; (with_reducible refine (drovewaylaw09_alive.calls  t108 _ A80.out).mono ?_); rintro e w83 ⟨rfl, hb⟩; have n0_ := Aside0.mk (Kd.R_below (by (with_reducible repeat (first | apply Kd.R_alloc | apply Kd.R_drewN | apply Kd.R_drew)); exact HO107.out) hb); have n1_ := Aside0.mk (below_step (by repeat (first | (with_reducible first | exact HB.out | apply below_alloc | apply pw_below_drewN | apply below_drew1) | exact HB.out)) hb); clear HO107; clear HB; have HO107 := n0_; have HB := n1_; clear n0_ n1_; (try clear hb); (try clear hb2); (try clear hk); (try clear hi)))
              repeat (go_quiet (first | (go_at_call 26; (with_reducible refine (feuds_Clans.calls a0 _ _ l1 t104 t105 _ ?side1 ?side2 A10.out).mono ?_); (case side1 => repeat (first | exact (Kd.C_below HR1.out HB.out) | (with_reducible refine Kd.C_alloc ?_ _) | (with_reducible refine Kd.C_drewN ?_ _) | (with_reducible refine Kd.C_drew ?_))); (case side2 => exact HC1.out); rintro e w81 ⟨v106, rfl, ho0, hb⟩; have n0_ := Aside0.mk (Kd.R_lower ho0 (below_size (by repeat (first | (with_reducible first | exact HB.out | apply below_alloc | apply pw_below_drewN | apply below_drew1) | exact HB.out)))); have n1_ := Aside0.mk (below_step (by repeat (first | (with_reducible first | exact HB.out | apply below_alloc | apply pw_below_drewN | apply below_drew1) | exact HB.out)) hb); clear HB; have HO107 := n0_; have HB := n1_; clear n0_ n1_; (try clear hb); (try clear hb2); (try clear hk); (try clear hi); (try clear ho0); obtain ⟨Ao82, co82, eo82⟩ := Kd.R_slice HO107.out; subst eo82) | (go_at_call 17; (with_reducible refine (drovewaylaw09_alive.calls  t108 _ A80.out).mono ?_); rintro e w83 ⟨rfl, hb⟩; have n0_ := Aside0.mk (Kd.R_below (by (with_reducible repeat (first | apply Kd.R_alloc | apply Kd.R_drewN | apply Kd.R_drew)); exact HO107.out) hb); have n1_ := Aside0.mk (below_step (by repeat (first | (with_reducible first | exact HB.out | apply below_alloc | apply pw_below_drewN | apply below_drew1) | exact HB.out)) hb); clear HO107; clear HB; have HO107 := n0_; have HB := n1_; clear n0_ n1_; (try clear hb); (try clear hb2); (try clear hk); (try clear hi))); try go_wp2_with (first | (go_at_call 26; (with_reducible refine (feuds_Clans.calls a0 _ _ l1 t104 t105 _ ?side1 ?side2 A10.out).mono ?_); (case side1 => repeat (first | exact (Kd.C_below HR1.out HB.out) | (with_reducible refine Kd.C_alloc ?_ _) | (with_reducible refine Kd.C_drewN ?_ _) | (with_reducible refine Kd.C_drew ?_))); (case side2 => exact HC1.out); rintro e w81 ⟨v106, rfl, ho0, hb⟩; have n0_ := Aside0.mk (Kd.R_lower ho0 (below_size (by repeat (first | (with_reducible first | exact HB.out | apply below_alloc | apply pw_below_drewN | apply below_drew1) | exact HB.out)))); have n1_ := Aside0.mk (below_step (by repeat (first | (with_reducible first | exact HB.out | apply below_alloc | apply pw_below_drewN | apply below_drew1) | exact HB.out)) hb); clear HB; have HO107 := n0_; have HB := n1_; clear n0_ n1_; (try clear hb); (try clear hb2); (try clear hk); (try clear hi); (try clear ho0); obtain ⟨Ao82, co82, eo82⟩ := Kd.R_slice HO107.out; subst eo82) | (go_at_call 17; (with_reducible refine (drovewaylaw09_alive.calls  t108 _ A80.out).mono ?_); rintro e w83 ⟨rfl, hb⟩; have n0_ := Aside0.mk (Kd.R_below (by (with_reducible repeat (first | apply Kd.R_alloc | apply Kd.R_drewN | apply Kd.R_drew)); exact HO107.out) hb); have n1_ := Aside0.mk (below_step (by repeat (first | (with_reducible first | exact HB.out | apply below_alloc | apply pw_below_drewN | apply below_drew1) | exact HB.out)) hb); clear HO107; clear HB; have HO107 := n0_; have HB := n1_; clear n0_ n1_; (try clear hb); (try clear hb2); (try clear hk); (try clear hi))))
              go_ret
              exact ⟨by first | rfl | (simp [errW_none, errW_some] <;> rfl) | (simp [*, errW_none, errW_some] <;> rfl), by repeat (first | (with_reducible first | exact HB.out | apply below_alloc | apply pw_below_drewN | apply below_drew1) | exact HB.out)⟩
            · rw [if_neg c79] at H
              have c79b0 : ((t104.length : Int) == 0) = false := beq_eq_false_iff_ne.mpr c79
              have c79b1 : ((t104.length : Int) != 0) = true := bne_iff_ne.mpr c79
              have c79b2 : ¬ (t104 = []) := fun h_ => c79 (by rw [h_]; rfl)
              obtain rfl := Option.some.inj H
              go_wp2_with (first | (go_at_call 26; (with_reducible refine (feuds_Clans.calls a0 _ _ l1 t104 t105 _ ?side1 ?side2 A10.out).mono ?_); (case side1 => repeat (first | exact (Kd.C_below HR1.out HB.out) | (with_reducible refine Kd.C_alloc ?_ _) | (with_reducible refine Kd.C_drewN ?_ _) | (with_reducible refine Kd.C_drew ?_))); (case side2 => exact HC1.out); rintro e w84 ⟨v106, rfl, ho0, hb⟩; have n0_ := Aside0.mk (Kd.R_lower ho0 (below_size (by repeat (first | (with_reducible first | exact HB.out | apply below_alloc | apply pw_below_drewN | apply below_drew1) | exact HB.out)))); have n1_ := Aside0.mk (below_step (by repeat (first | (with_reducible first | exact HB.out | apply below_alloc | apply pw_below_drewN | apply below_drew1) | exact HB.out)) hb); clear HB; have HO107 := n0_; have HB := n1_; clear n0_ n1_; (try clear hb); (try clear hb2); (try clear hk); (try clear hi); (try clear ho0); obtain ⟨Ao85, co85, eo85⟩ := Kd.R_slice HO107.out; subst eo85))
              repeat (go_quiet (first | (go_at_call 26; (with_reducible refine (feuds_Clans.calls a0 _ _ l1 t104 t105 _ ?side1 ?side2 A10.out).mono ?_); (case side1 => repeat (first | exact (Kd.C_below HR1.out HB.out) | (with_reducible refine Kd.C_alloc ?_ _) | (with_reducible refine Kd.C_drewN ?_ _) | (with_reducible refine Kd.C_drew ?_))); (case side2 => exact HC1.out); rintro e w84 ⟨v106, rfl, ho0, hb⟩; have n0_ := Aside0.mk (Kd.R_lower ho0 (below_size (by repeat (first | (with_reducible first | exact HB.out | apply below_alloc | apply pw_below_drewN | apply below_drew1) | exact HB.out)))); have n1_ := Aside0.mk (below_step (by repeat (first | (with_reducible first | exact HB.out | apply below_alloc | apply pw_below_drewN | apply below_drew1) | exact HB.out)) hb); clear HB; have HO107 := n0_; have HB := n1_; clear n0_ n1_; (try clear hb); (try clear hb2); (try clear hk); (try clear hi); (try clear ho0); obtain ⟨Ao85, co85, eo85⟩ := Kd.R_slice HO107.out; subst eo85)); try go_wp2_with (first | (go_at_call 26; (with_reducible refine (feuds_Clans.calls a0 _ _ l1 t104 t105 _ ?side1 ?side2 A10.out).mono ?_); (case side1 => repeat (first | exact (Kd.C_below HR1.out HB.out) | (with_reducible refine Kd.C_alloc ?_ _) | (with_reducible refine Kd.C_drewN ?_ _) | (with_reducible refine Kd.C_drew ?_))); (case side2 => exact HC1.out); rintro e w84 ⟨v106, rfl, ho0, hb⟩; have n0_ := Aside0.mk (Kd.R_lower ho0 (below_size (by repeat (first | (with_reducible first | exact HB.out | apply below_alloc | apply pw_below_drewN | apply below_drew1) | exact HB.out)))); have n1_ := Aside0.mk (below_step (by repeat (first | (with_reducible first | exact HB.out | apply below_alloc | apply pw_below_drewN | apply below_drew1) | exact HB.out)) hb); clear HB; have HO107 := n0_; have HB := n1_; clear n0_ n1_; (try clear hb); (try clear hb2); (try clear hk); (try clear hi); (try clear ho0); obtain ⟨Ao85, co85, eo85⟩ := Kd.R_slice HO107.out; subst eo85)))
              go_ret
              exact ⟨by first | rfl | (simp [errW_none, errW_some] <;> rfl) | (simp [*, errW_none, errW_some] <;> rfl), by repeat (first | (with_reducible first | exact HB.out | apply below_alloc | apply pw_below_drewN | apply below_drew1) | exact HB.out)⟩
          · rw [if_neg c78] at H
            have c78b0 : (t105 == 10) = false := beq_eq_false_iff_ne.mpr c78
            have c78b1 : (t105 != 10) = true := bne_iff_ne.mpr c78
            obtain rfl := Option.some.inj H
            go_wp2_with (first | (go_at_call 26; (with_reducible refine (feuds_Clans.calls a0 _ _ l1 t104 t105 _ ?side1 ?side2 A10.out).mono ?_); (case side1 => repeat (first | exact (Kd.C_below HR1.out HB.out) | (with_reducible refine Kd.C_alloc ?_ _) | (with_reducible refine Kd.C_drewN ?_ _) | (with_reducible refine Kd.C_drew ?_))); (case side2 => exact HC1.out); rintro e w86 ⟨v106, rfl, ho0, hb⟩; have n0_ := Aside0.mk (Kd.R_lower ho0 (below_size (by repeat (first | (with_reducible first | exact HB.out | apply below_alloc | apply pw_below_drewN | apply below_drew1) | exact HB.out)))); have n1_ := Aside0.mk (below_step (by repeat (first | (with_reducible first | exact HB.out | apply below_alloc | apply pw_below_drewN | apply below_drew1) | exact HB.out)) hb); clear HB; have HO107 := n0_; have HB := n1_; clear n0_ n1_; (try clear hb); (try clear hb2); (try clear hk); (try clear hi); (try clear ho0)))
            repeat (go_quiet (first | (go_at_call 26; (with_reducible refine (feuds_Clans.calls a0 _ _ l1 t104 t105 _ ?side1 ?side2 A10.out).mono ?_); (case side1 => repeat (first | exact (Kd.C_below HR1.out HB.out) | (with_reducible refine Kd.C_alloc ?_ _) | (with_reducible refine Kd.C_drewN ?_ _) | (with_reducible refine Kd.C_drew ?_))); (case side2 => exact HC1.out); rintro e w86 ⟨v106, rfl, ho0, hb⟩; have n0_ := Aside0.mk (Kd.R_lower ho0 (below_size (by repeat (first | (with_reducible first | exact HB.out | apply below_alloc | apply pw_below_drewN | apply below_drew1) | exact HB.out)))); have n1_ := Aside0.mk (below_step (by repeat (first | (with_reducible first | exact HB.out | apply below_alloc | apply pw_below_drewN | apply below_drew1) | exact HB.out)) hb); clear HB; have HO107 := n0_; have HB := n1_; clear n0_ n1_; (try clear hb); (try clear hb2); (try clear hk); (try clear hi); (try clear ho0))); try go_wp2_with (first | (go_at_call 26; (with_reducible refine (feuds_Clans.calls a0 _ _ l1 t104 t105 _ ?side1 ?side2 A10.out).mono ?_); (case side1 => repeat (first | exact (Kd.C_below HR1.out HB.out) | (with_reducible refine Kd.C_alloc ?_ _) | (with_reducible refine Kd.C_drewN ?_ _) | (with_reducible refine Kd.C_drew ?_))); (case side2 => exact HC1.out); rintro e w86 ⟨v106, rfl, ho0, hb⟩; have n0_ := Aside0.mk (Kd.R_lower ho0 (below_size (by repeat (first | (with_reducible first | exact HB.out | apply below_alloc | apply pw_below_drewN | apply below_drew1) | exact HB.out)))); have n1_ := Aside0.mk (below_step (by repeat (first | (with_reducible first | exact HB.out | apply below_alloc | apply pw_below_drewN | apply below_drew1) | exact HB.out)) hb); clear HB; have HO107 := n0_; have HB := n1_; clear n0_ n1_; (try clear hb); (try clear hb2); (try clear hk); (try clear hi); (try clear ho0))))
            go_ret
            exact ⟨by first | rfl | (simp [errW_none, errW_some] <;> rfl) | (simp [*, errW_none, errW_some] <;> rfl), by repeat (first | (with_reducible first | exact HB.out | apply below_alloc | apply pw_below_drewN | apply below_drew1) | exact HB.out)⟩

end Go.Proofs.Ytaegldcifhgnmaa.PFeudsGroups

-- Printed by hprint.py (this claim's own program, over the kit's print.py) out of the translation and contracts by hand. Not trusted: Lean checks it.
namespace Go.Proofs.Ytaegldcifhgnmaa.PFeudsGroups
open Go.Proofs.Ytaegldcifhgnmaa.A Go.Proofs.Ytaegldcifhgnmaa.B
open Go.RowKit Go.Proofs.YtaegldcifhgnmaaW.PrintWords Go.Proofs.YtaegldcifhgnmaaW.PrintLast Go.Proofs.YtaegldcifhgnmaaW.PrintMore
attribute [local go_sem] max2_int min2_int max_two min_two max_three min_three max_four min_four   -- for this text's walks alone
set_option linter.unusedVariables false
set_option linter.unusedSimpArgs false

end Go.Proofs.Ytaegldcifhgnmaa.PFeudsGroups

/- FeudsGroups, plain. -/
namespace Go.Proofs.Ytaegldcifhgnmaa.Pure
open Go.Proofs.Ytaegldcifhgnmaa.A Go.Proofs.Ytaegldcifhgnmaa.B Go.Proofs.Ytaegldcifhgnmaa.PFeudsGroups
open Go.RowKit Go.Proofs.YtaegldcifhgnmaaW.PrintWords Go.Proofs.YtaegldcifhgnmaaW.PrintMore

theorem alive_is : ((drovewaylaw09_alive.f).bind fun t => (some t : Option Bool)) = some true := rfl
section
variable {l : List S39} {n : Nat}
/-- The clans. -/
def clL (n : Nat) (l : List S39) : List Int := sortI (groupsF friendB n l)
theorem rd_cl (h8 : n ≤ 8) (hl : okN n l) {i : Nat} (hi : i < (clL n l).length) : rd (clL n l) (i : Int) = (clanN friendB n l i : Int) := by
  obtain ⟨_, _, _, _, e⟩ := clan_is (q := friendB) h8 hl hi
  unfold rd
  rw [Int.toNat_natCast]
  exact e
/-! ### reached: one pass over the ties -/
theorem friend_step {x : Nat} {t : S39} (hf : t.f2 = false) :
    addT friendB t x = if x.testBit t.f0.toNat = x.testBit t.f1.toNat then x else x ||| 2 ^ t.f0.toNat ||| 2 ^ t.f1.toNat := by
  refine ext_bits fun i => ?_
  rw [addT_bit]
  have hfr : friendB t = true := by unfold friendB; rw [hf]; rfl
  by_cases e : x.testBit t.f0.toNat = x.testBit t.f1.toNat
  · rw [if_pos e]
    constructor
    · rintro (h | ⟨_, h2, h3⟩)
      · exact h
      · rcases h2 with h2 | h2 <;> rcases h3 with h3 | h3 <;> rw [h3]
        · exact h2
        · rw [← e]; exact h2
        · rw [e]; exact h2
        · exact h2
    · exact Or.inl
  · rw [if_neg e, or_bit, or_bit, Bool.or_eq_true, Bool.or_eq_true, decide_eq_true_iff, decide_eq_true_iff]
    have hor : x.testBit t.f0.toNat = true ∨ x.testBit t.f1.toNat = true := by
      cases h : x.testBit t.f0.toNat with
      | true => exact Or.inl rfl
      | false =>
        cases h' : x.testBit t.f1.toNat with
        | true => exact Or.inr rfl
        | false => rw [h, h'] at e; exact absurd rfl e
    constructor
    · rintro (h | ⟨_, _, h3 | h3⟩)
      · exact Or.inl (Or.inl h)
      · exact Or.inl (Or.inr h3)
      · exact Or.inr h3
    · rintro ((h | h) | h)
      · exact Or.inl h
      · exact Or.inr ⟨hfr, hor, Or.inl h⟩
      · exact Or.inr ⟨hfr, hor, Or.inr h⟩
theorem feud_step {x : Nat} {t : S39} (hf : t.f2 = true) : addT friendB t x = x := by
  unfold addT friendB
  rw [hf, if_neg (fun h => by cases h.1)]
theorem grow_ne {x : Nat} {k : Nat} (h : addK friendB l x (k + 1) ≠ addK friendB l x k) : addK friendB l x (k + 1) ≠ x := fun e => h (by
  refine ext_bits fun i => ⟨fun hi => ?_, fun hi => addK_mono (Nat.le_succ k) i hi⟩
  rw [e] at hi
  exact addK_sup hi k)
theorem shr_eq {x : Nat} {a b : Int} (ha : 0 ≤ a ∧ a < 60) (hb : 0 ≤ b ∧ b < 60) : (Int.tmod (shr .i64 (x : Int) a) 2 = Int.tmod (shr .i64 (x : Int) b) 2) ↔ x.testBit a.toNat = x.testBit b.toNat := by
  obtain ⟨u, rfl⟩ := Int.eq_ofNat_of_zero_le ha.1
  obtain ⟨v, rfl⟩ := Int.eq_ofNat_of_zero_le hb.1
  rw [shr_mod x u (by omega), shr_mod x v (by omega), Int.toNat_natCast, Int.toNat_natCast]
  cases x.testBit u <;> cases x.testBit v <;> simp
theorem or_two {x : Nat} {a b : Int} (ha : 0 ≤ a ∧ a < 60) (hb : 0 ≤ b ∧ b < 60) (hx : x < 2 ^ 60) : Go.bits .or .i64 (Go.bits .or .i64 (x : Int) (shl .i64 1 a)) (shl .i64 1 b) = ((x ||| 2 ^ a.toNat ||| 2 ^ b.toNat : Nat) : Int) := by
  obtain ⟨u, rfl⟩ := Int.eq_ofNat_of_zero_le ha.1
  obtain ⟨v, rfl⟩ := Int.eq_ofNat_of_zero_le hb.1
  have h1 : 2 ^ u < 2 ^ 60 := Nat.pow_lt_pow_right (by decide) (by omega)
  have h2 : 2 ^ v < 2 ^ 60 := Nat.pow_lt_pow_right (by decide) (by omega)
  have h3 := or_lt hx h1
  rw [shl_one (by omega), shl_one (by omega), or64 _ _ (by omega) (by omega), or64 _ _ (by omega) (by omega), Int.toNat_natCast, Int.toNat_natCast]
theorem fg_l5 (hg : goodT l) (h8 : n ≤ 8) (hl : okN n l) (hlen : l.length ≤ 1000) {C : List Int} {j : Int} {x : Nat} (hx : x < 2 ^ n) {R : Bool}
    (h : Ev (fun k => drovewaylaw09_FeudsGroups.l4 k l C j (addK friendB l x l.length : Int) (addK friendB l x l.length != x)) R) :
    ∀ m i, l.length - i = m → i ≤ l.length → Ev (fun k => drovewaylaw09_FeudsGroups.l5 k l C j (addK friendB l x i : Int) (addK friendB l x i != x) (i : Int)) R := by
  have h60 : (2 : Nat) ^ n ≤ 2 ^ 60 := Nat.pow_le_pow_right (by decide) (by omega)
  intro m
  induction m with
  | zero =>
    intro i hm hi
    obtain rfl : i = l.length := by omega
    exact Ev.step (fun k => by rw [drovewaylaw09_FeudsGroups.l5, if_neg (by omega)]) h
  | succ m ih =>
    intro i hm hi
    have hil : i < l.length := by omega
    have gi := hg _ (getD_mem z39 hil)
    have hk := addK_lt (q := friendB) hl hx i hi
    refine Ev.step (fun k => ?_) (ih (i + 1) (by omega) (by omega))
    rw [drovewaylaw09_FeudsGroups.l5, if_pos (by omega), if_pos (by omega), rdT, if_pos (by omega), if_pos (by omega), wrapS hil (by omega)]
    cases hf : (l.getD i z39).f2 with
    | true =>
      rw [if_pos rfl]
      have e : addK friendB l x (i + 1) = addK friendB l x i := feud_step hf
      rw [e]
    | false =>
      rw [if_neg (by decide)]
      have e : addK friendB l x (i + 1) = _ := friend_step (x := addK friendB l x i) (t := l.getD i z39) hf
      by_cases hs : (addK friendB l x i).testBit (l.getD i z39).f0.toNat = (addK friendB l x i).testBit (l.getD i z39).f1.toNat
      · rw [if_pos hs] at e
        rw [if_pos ((shr_eq (by omega) (by omega)).mpr hs), e]
      · rw [if_neg hs] at e
        rw [if_neg (fun h => hs ((shr_eq (by omega) (by omega)).mp h)), or_two (by omega) (by omega) (by omega), ← e]
        have hne : addK friendB l x (i + 1) ≠ addK friendB l x i := fun e2 => hs (by
          have e3 := e.symm.trans e2
          have b0 : (addK friendB l x i).testBit (l.getD i z39).f0.toNat = true := by rw [← e3, or_bit, or_bit, decide_eq_true (p := (l.getD i z39).f0.toNat = (l.getD i z39).f0.toNat) rfl, Bool.or_true]; rfl
          have b1 : (addK friendB l x i).testBit (l.getD i z39).f1.toNat = true := by rw [← e3, or_bit, decide_eq_true (p := (l.getD i z39).f1.toNat = (l.getD i z39).f1.toNat) rfl, Bool.or_true]
          rw [b0, b1])
        rw [show (addK friendB l x (i + 1) != x) = true from by rw [bne_iff_ne]; exact grow_ne hne]
theorem fg_l4 (hg : goodT l) (h8 : n ≤ 8) (hl : okN n l) (hlen : l.length ≤ 1000) {i v : Nat} (hi : i < (clL n l).length) (hv : v < n) (hle : clanN friendB n l i = classN friendB n l v) {R : Bool}
    (h : Ev (fun k => drovewaylaw09_FeudsGroups.l3 k l (clL n l) ((i + 1 : Nat) : Int)) R) :
    ∀ (m x : Nat) (b : Bool), 2 * (n - card n x) + (if b = true then 1 else 0) = m → x < 2 ^ n → x.testBit v = true → (∀ u, x.testBit u = true → Conn friendB l v u) → (b = false → CloN friendB l x) →
    Ev (fun k => drovewaylaw09_FeudsGroups.l4 k l (clL n l) (i : Int) (x : Int) b) R := by
  have hcl : (clL n l).length ≤ 8 := by
    have := sortI_len (groupsF friendB n l)
    have h2 : (groupsF friendB n l).length ≤ n := by
      rw [groups_eq h8 hl]
      unfold groupsC
      rw [List.length_map]
      have := List.length_filter_le (leastB friendB n l) (List.range' 0 (n - 0))
      rw [List.length_range'] at this
      omega
    unfold clL
    omega
  intro m
  induction m using Nat.strongRecOn with
  | _ m ih =>
    intro x b hm hx hxv hxc hb
    cases b with
    | false =>
      have e : x = clanN friendB n l i := ext_bits fun u => by
        rw [hle, class_bit hl hv]
        exact ⟨hxc u, fun hc => hc _ (hb rfl) hxv⟩
      refine Ev.step (fun k => ?_) h
      rw [drovewaylaw09_FeudsGroups.l4, if_neg (by decide), if_pos (by omega), if_pos (by omega), rd_cl h8 hl hi, if_pos (by rw [e]), wrapS hi (by omega)]
    | true =>
      have hx' := addK_lt (q := friendB) hl hx l.length (Nat.le_refl _)
      have hxc' : ∀ u, (addK friendB l x l.length).testBit u = true → Conn friendB l v u := by
        have key : ∀ k, k ≤ l.length → ∀ u, (addK friendB l x k).testBit u = true → Conn friendB l v u := by
          intro k
          induction k with
          | zero => exact fun _ u hu => hxc u hu
          | succ k ihk =>
            intro hk u hu
            rcases (addT_bit _ _ u).mp hu with h1 | ⟨h1, h2, h3⟩
            · exact ihk (by omega) u h1
            · have ht := getD_mem (l := l) z39 (show k < l.length by omega)
              have hc := clo_conn (q := friendB) (l := l) v _ ht h1
              have h0 : Conn friendB l v (l.getD k z39).f0.toNat := h2.elim (ihk (by omega) _) fun h => hc.mpr (ihk (by omega) _ h)
              rcases h3 with e | e
              · rw [e]; exact h0
              · rw [e]; exact hc.mp h0
        exact key l.length (Nat.le_refl _)
      refine Ev.step (f := fun k => drovewaylaw09_FeudsGroups.l5 k l (clL n l) (i : Int) (addK friendB l x 0 : Int) (addK friendB l x 0 != x) 0) (fun k => ?_) ?_
      · rw [drovewaylaw09_FeudsGroups.l4, if_pos rfl, addK, bne_self_eq_false]
      · refine fg_l5 hg h8 hl hlen hx ?_ l.length 0 (by omega) (Nat.zero_le _)
        by_cases e : addK friendB l x l.length = x
        · rw [e, bne_self_eq_false]
          exact ih (2 * (n - card n x) + 0) (by rw [if_pos rfl] at hm; omega) x false (by rw [if_neg (by decide)]) hx hxv hxc fun _ => clo_of_fix e
        · rw [show (addK friendB l x l.length != x) = true from by rw [bne_iff_ne]; exact e]
          have hc := card_lt (n := n) (x := x) (y := addK friendB l x l.length) (fun u hu => addK_sup hu _) hx' (Ne.symm e)
          have hcn := card_le n (addK friendB l x l.length)
          exact ih (2 * (n - card n (addK friendB l x l.length)) + 1) (by rw [if_pos rfl] at hm; omega) _ true (by rw [if_pos rfl]) hx' (addK_sup hxv _) hxc' (fun h => by cases h)
theorem cl_len (h8 : n ≤ 8) (hl : okN n l) : (clL n l).length ≤ 8 := by
  have := sortI_len (groupsF friendB n l)
  have h2 : (groupsF friendB n l).length ≤ n := by
    rw [groups_eq h8 hl]
    unfold groupsC
    rw [List.length_map]
    have := List.length_filter_le (leastB friendB n l) (List.range' 0 (n - 0))
    rw [List.length_range'] at this
    omega
  unfold clL
  omega
theorem fg_l3 (hg : goodT l) (h8 : n ≤ 8) (hl : okN n l) (hlen : l.length ≤ 1000) : ∀ m i, (clL n l).length - i = m → i ≤ (clL n l).length → Ev (fun k => drovewaylaw09_FeudsGroups.l3 k l (clL n l) (i : Int)) true := by
  have hcl := cl_len h8 hl
  intro m
  induction m with
  | zero =>
    intro i hm hi
    refine Ev.step (f := fun _ => some true) (fun k => ?_) (Ev.now _)
    rw [drovewaylaw09_FeudsGroups.l3, if_neg (by omega)]
    exact alive_is
  | succ m ih =>
    intro i hm hi
    have hil : i < (clL n l).length := by omega
    obtain ⟨v, hv, h1, h2, _⟩ := clan_is (q := friendB) h8 hl hil
    have hlt := clan_lt (q := friendB) h8 hl hil
    have h256 := pow8 h8
    have hlow := low_class h8 hl hv h1 h2
    refine Ev.step (fun k => ?_) (fg_l4 hg h8 hl hlen hil hv h2 (ih (i + 1) (by omega) (by omega)) _ (2 ^ v) true rfl (Nat.pow_lt_pow_right (by decide) hv) (by rw [tb_two]; simp) (fun u hu => ?_) (fun h => by cases h))
    · rw [drovewaylaw09_FeudsGroups.l3, if_pos (by omega), if_pos (by omega), rd_cl h8 hl hil, wrap64_id (by omega) (by omega), low_ask (by omega), hlow]
    · rw [tb_two, beq_iff_eq] at hu
      rw [hu]; exact conn_refl v
theorem fg_l2 (ht : tiesE n l = 0) (hc : clashB l (clL n l) l.length = false) : ∀ m i, l.length - i = m → i ≤ l.length → Ev (fun k => drovewaylaw09_FeudsGroups.l2 k l (clL n l) (tabL n (inF friendB n l (clL n l).length)) (i : Int)) true := by
  have h1 := tiesE_parts ht
  have h8 : n ≤ 8 := by omega
  have hl := tiesE_ok ht
  have hg := tiesE_good ht
  intro m
  induction m with
  | zero =>
    intro i hm hi
    refine Ev.step (fun k => ?_) (fg_l3 hg h8 hl (by omega) (clL n l).length 0 (by omega) (Nat.zero_le _))
    rw [drovewaylaw09_FeudsGroups.l2, if_neg (by omega)]; rfl
  | succ m ih =>
    intro i hm hi
    have hil : i < l.length := by omega
    have hti := hl _ (getD_mem z39 hil)
    refine Ev.step (fun k => ?_) (ih (i + 1) (by omega) (by omega))
    have r0 := rd_tab (n := n) (f := inF friendB n l (clL n l).length) (v := (l.getD i z39).f0.toNat) (by omega)
    have r1 := rd_tab (n := n) (f := inF friendB n l (clL n l).length) (v := (l.getD i z39).f1.toNat) (by omega)
    rw [Int.toNat_of_nonneg (by omega)] at r0 r1
    have hne : ((((inF friendB n l (clL n l).length (l.getD i z39).f0.toNat : Nat) : Int) == ((inF friendB n l (clL n l).length (l.getD i z39).f1.toNat : Nat) : Int)) == (l.getD i z39).f2) = false := by
      have hin := in_conn (q := friendB) h8 hl (u := (l.getD i z39).f0.toNat) (v := (l.getD i z39).f1.toNat) (by omega) (by omega)
      cases hf : (l.getD i z39).f2 with
      | false =>
        have hcn : Conn friendB l (l.getD i z39).f0.toNat (l.getD i z39).f1.toNat := conn_tie (getD_mem z39 hil) (by unfold friendB; rw [hf]; rfl)
        have := hin.mpr hcn
        unfold clL
        rw [this, beq_self_eq_true]; rfl
      | true =>
        have hno : ¬ Conn friendB l (l.getD i z39).f0.toNat (l.getD i z39).f1.toNat := fun hcn => by
          have := (clash_iff ht).mpr ⟨i, hil, hf, hcn⟩
          unfold clL at hc
          rw [hc] at this; cases this
        have : ((((inF friendB n l (clL n l).length (l.getD i z39).f0.toNat : Nat) : Int) == ((inF friendB n l (clL n l).length (l.getD i z39).f1.toNat : Nat) : Int))) = false := by
          rw [beq_eq_false_iff_ne]
          intro e
          exact hno (hin.mp (by unfold clL at e; exact_mod_cast e))
        rw [this]; rfl
    rw [drovewaylaw09_FeudsGroups.l2, if_pos (by omega), if_pos (by omega), rdT, if_pos (by omega), tab_len, if_pos (by omega), if_pos (by omega), if_pos (by omega), r0, r1, hne, if_neg (by decide), wrapS hil (by omega)]
/-- The row in the midst of a clan's round. -/
def midC (n : Nat) (l : List S39) (i v u : Nat) : Nat := if u < v then inF friendB n l (i + 1) u else inF friendB n l i u
theorem fg_l1 (h8 : n ≤ 8) (hl : okN n l) {i : Nat} (hi : i < (clL n l).length) {R : Bool} {m' : Int} (h : Ev (fun k => drovewaylaw09_FeudsGroups.l0 k n l (clL n l) (tabL n (inF friendB n l (i + 1))) m' ((i + 1 : Nat) : Int)) R) :
    ∀ m v, n - v = m → v ≤ n → Ev (fun k => drovewaylaw09_FeudsGroups.l1 k n l (clL n l) (tabL n (midC n l i v)) m' (i : Int) (v : Int)) R := by
  have hcl := cl_len h8 hl
  intro m
  induction m with
  | zero =>
    intro v hm hv
    obtain rfl : v = n := by omega
    refine Ev.step (fun k => ?_) h
    rw [drovewaylaw09_FeudsGroups.l1, if_neg (by omega), wrapS hi (by omega)]
    congr 1
    exact tab_congr fun u hu => by unfold midC; rw [if_pos hu]
  | succ m ih =>
    intro v hm hv
    have hvn : v < n := by omega
    have hlt := clan_lt (q := friendB) h8 hl hi
    have hb : (Int.tmod (shr .i64 (clanN friendB n l i : Int) (v : Int)) 2 = 1) ↔ (clanN friendB n l i).testBit v = true := by
      rw [shr_mod _ v (by omega)]
      cases (clanN friendB n l i).testBit v <;> simp
    refine Ev.step (fun k => ?_) (ih (v + 1) (by omega) (by omega))
    rw [drovewaylaw09_FeudsGroups.l1, if_pos (by omega), if_pos (by omega), if_pos (by omega), if_pos (by omega), rd_cl h8 hl hi, tab_len, Int.toNat_natCast, wrapS (show v < 100 by omega) (by omega), set_tab]
    by_cases e : (clanN friendB n l i).testBit v = true
    · rw [if_pos (hb.mpr e), if_pos (by omega)]
      congr 1
      refine tab_congr fun u _ => ?_
      unfold midC
      by_cases hu : u = v
      · rw [if_pos hu, if_pos (by omega), hu, inF, if_pos e]
      · rw [if_neg hu]
        by_cases h1 : u < v
        · rw [if_pos h1, if_pos (by omega)]
        · rw [if_neg h1, if_neg (by omega)]
    · rw [if_neg (fun h => e (hb.mp h))]
      congr 1
      refine tab_congr fun u _ => ?_
      unfold midC
      by_cases hu : u = v
      · rw [if_neg (by omega), if_pos (by omega), hu, inF, if_neg e]
      · by_cases h1 : u < v
        · rw [if_pos h1, if_pos (by omega)]
        · rw [if_neg h1, if_neg (by omega)]
theorem fg_l0 (ht : tiesE n l = 0) (hc : clashB l (clL n l) l.length = false) : ∀ m i, (clL n l).length - i = m → i ≤ (clL n l).length → Ev (fun k => drovewaylaw09_FeudsGroups.l0 k n l (clL n l) (tabL n (inF friendB n l i)) (metF friendB n l i : Int) (i : Int)) true := by
  have h1 := tiesE_parts ht
  have h8 : n ≤ 8 := by omega
  have hl := tiesE_ok ht
  have hcl := cl_len h8 hl
  have h256 := pow8 h8
  have hpos := Nat.two_pow_pos n
  intro m
  induction m with
  | zero =>
    intro i hm hi
    obtain rfl : i = (clL n l).length := by omega
    refine Ev.step (fun k => ?_) (fg_l2 ht hc l.length 0 (by omega) (Nat.zero_le _))
    have hma := met_all (q := friendB) h8 hl
    rw [drovewaylaw09_FeudsGroups.l0, if_neg (by omega), if_pos (by omega), shl_one (by omega), wrap64_id (by omega) (by omega), if_pos]
    · rfl
    · unfold clL
      rw [hma]; omega
  | succ m ih =>
    intro i hm hi
    have hil : i < (clL n l).length := by omega
    have hlt := clan_lt (q := friendB) h8 hl hil
    have hml := met_lt (q := friendB) h8 hl i (by unfold clL at hil; omega)
    have hand := met_and (q := friendB) h8 hl hil
    have ha : Go.bits .and .i64 (metF friendB n l i : Int) (clanN friendB n l i : Int) = 0 := by
      rw [and64 _ _ (by omega) (by omega), hand]; rfl
    have hgo : ∀ k, drovewaylaw09_FeudsGroups.l0 (k + 1) n l (clL n l) (tabL n (inF friendB n l i)) (metF friendB n l i : Int) (i : Int) = drovewaylaw09_FeudsGroups.j2 k n l (clL n l) (tabL n (inF friendB n l i)) (metF friendB n l i : Int) (i : Int) false := by
      intro k
      rw [drovewaylaw09_FeudsGroups.l0, if_pos (by omega), if_pos (by omega), rd_cl h8 hl hil, if_neg (by omega), if_pos (by omega), shl_one (by omega), if_neg (by omega), ha, if_pos rfl]
      by_cases hi0 : (i : Int) > 0
      · obtain ⟨j, rfl⟩ : ∃ j, i = j + 1 := ⟨i - 1, by omega⟩
        have hw : wrap64 (((j + 1 : Nat) : Int) - 1) = (j : Int) := by rw [wrap64_id (by omega) (by omega)]; omega
        have hasc := clan_asc (q := friendB) h8 hl (show j < j + 1 by omega) hil
        rw [if_pos hi0, hw, if_pos (by omega), if_pos (by omega), rd_cl h8 hl (show j < (clL n l).length by omega), decide_eq_false (by omega)]
      · rw [if_neg hi0]
    refine Ev.step hgo ?_
    refine Ev.step (fun k => ?_) (fg_l1 h8 hl hil (m' := (metF friendB n l (i + 1) : Int)) (ih (i + 1) (by omega) (by omega)) n 0 (by omega) (Nat.zero_le _))
    rw [drovewaylaw09_FeudsGroups.j2, if_neg (by decide), if_pos (by omega), if_pos (by omega), rd_cl h8 hl hil, or64 _ _ (by omega) (by omega)]
    rfl
end
theorem FeudsGroups (a0 : Int) (l1 : List S39) : ∃ k, drovewaylaw09_FeudsGroups.f k a0 l1 = some true := by
  refine Ev.rounds ?_
  unfold drovewaylaw09_FeudsGroups.f
  rw [few_eq]
  simp only [Option.bind_some]
  have hal : Ev (fun k => drovewaylaw09_FeudsGroups.j0 k a0 l1 true) true :=
    Ev.step (f := fun _ => some true) (fun k => by rw [drovewaylaw09_FeudsGroups.j0, if_pos rfl]; exact alive_is) (Ev.now _)
  by_cases h60 : l1.length ≤ 60
  · rw [show decide (l1.length ≤ 60 ∧ ([] : List Int).length ≤ 60) = true from decide_eq_true ⟨h60, by decide⟩]
    refine Ev.congr (f := fun k => (drovewayref09_Ties.f k a0 l1).bind fun t102 => (drovewaylaw09_FeudsGroups.j0 k a0 l1 (t102 != 0))) (fun k => if_pos rfl) ?_
    refine Ev.bind (f := fun k t102 => (drovewaylaw09_FeudsGroups.j0 k a0 l1 (t102 != 0))) (Ties_ev (n := a0) (l := l1) (by omega)) ?_
    by_cases ht : tiesE a0 l1 = 0
    · have h1 := tiesE_parts ht
      obtain ⟨n, rfl⟩ : ∃ n : Nat, a0 = n := ⟨a0.toNat, by omega⟩
      rw [ht, bne_self_eq_false]
      cases hc : clashB l1 (sortI (groupsF friendB n l1)) l1.length with
      | true =>
        have hcl : feuds_Clans.f n l1 = some ([], 10) := by
          unfold feuds_Clans.f clansF
          rw [if_pos ht, Int.toNat_natCast, if_pos hc]
        refine Ev.step (f := fun _ => some true) (fun k => ?_) (Ev.now _)
        rw [drovewaylaw09_FeudsGroups.j0, if_neg (by decide), hcl]
        rfl
      | false =>
        have hcl : feuds_Clans.f n l1 = some (clL n l1, 0) := by
          unfold feuds_Clans.f clansF
          rw [if_pos ht, Int.toNat_natCast, if_neg (by rw [hc]; decide)]
          rfl
        refine Ev.step (fun k => ?_) (fg_l0 ht hc (clL n l1).length 0 (by omega) (Nat.zero_le _))
        rw [drovewaylaw09_FeudsGroups.j0, if_neg (by decide), hcl]
        simp only [Option.bind_some]
        rw [if_pos trivial, if_pos (by omega), if_pos (by omega), Int.toNat_natCast, tab_zero]
        rfl
    · rw [show (tiesE a0 l1 != 0) = true from by rw [bne_iff_ne]; exact ht]
      exact hal
  · rw [show decide (l1.length ≤ 60 ∧ ([] : List Int).length ≤ 60) = false from decide_eq_false fun h => h60 h.1]
    exact Ev.congr (fun k => if_neg (by decide)) hal
end Go.Proofs.Ytaegldcifhgnmaa.Pure

/- FeudsGroups, as it is called. -/
namespace Go.Proofs.Ytaegldcifhgnmaa.B
open Go.Proofs.Ytaegldcifhgnmaa.A
open Go.RowKit Go.Proofs.YtaegldcifhgnmaaW.PrintWords Go.Proofs.YtaegldcifhgnmaaW.PrintMore
theorem fgroups_any (a0 : Int) (A1 : Option Addr) (c1 : Nat) (l1 : List S39) (w : World) (hr1 : Kd.C k39 w A1 l1.length l1) (hc1 : l1.length ≤ c1) :
    Calls Try.prog 5 #[.int .i64 a0, .slice A1 l1.length c1] w fun e w' => e = .returned (.bool true) ∧ Below w.heap.size w w' := by
  obtain ⟨k, h⟩ := Pure.FeudsGroups a0 l1
  exact PFeudsGroups.drovewaylaw09_FeudsGroups.calls k a0 A1 c1 l1 true w hr1 hc1 h
end Go.Proofs.Ytaegldcifhgnmaa.B

/- An argument that is a slice of ties, opened to a row of cells. -/
namespace Go.Proofs.Ytaegldcifhgnmaa.A
open Go.ChangeShapes Go.WideShapes Go.Deep
open Go.RowKit Go.Proofs.YtaegldcifhgnmaaW.PrintWords

theorem list_of {α : Type} {P : Nat → α → Prop} : ∀ n, (∀ i, i < n → ∃ x, P i x) → ∃ l : List α, l.length = n ∧ ∀ (i : Nat) (x : α), l[i]? = some x → P i x := by
  intro n
  induction n with
  | zero => exact fun _ => ⟨[], rfl, fun i x h => by simp at h⟩
  | succ n ih =>
    intro h
    obtain ⟨l, hl, hp⟩ := ih (fun i hi => h i (by omega))
    obtain ⟨x, hx⟩ := h n (by omega)
    refine ⟨l ++ [x], by simp [hl], fun i y hy => ?_⟩
    by_cases hi : i < l.length
    · rw [List.getElem?_append_left hi] at hy
      exact hp i y hy
    · have e : i = n := by
        have := (List.getElem?_eq_some_iff.1 hy).1
        rw [List.length_append, List.length_singleton] at this
        omega
      subst e
      have : x = y := by simpa [← hl] using hy
      subst this
      exact hx

set_option maxRecDepth 100000 in
theorem open_ties {H : Type} {enc : TypeId × Value → H} {W : World} {a : Option Addr} {len cap : Nat} {d : DataW H} {p : List MemPlace} (h : DataW.Trod enc Try.prog W 0 (fun _ => true) true 22 (.slice a len cap) d p) :
    ∃ ps : List S39, ps.length = len ∧ len ≤ cap ∧ cap ≤ maxLen ∧ Kd.C k39 W a len ps := by
  obtain ⟨fuel, hf⟩ := h
  rcases open_slice Try.underlying22 hf with ⟨hcs, _⟩ | ⟨x, l, c, m, n, D, Pl, hcs, _, hl, hm, hmm, _, hi⟩
  · simp [Value.cells] at hcs
    obtain ⟨rfl, rfl, rfl⟩ := hcs
    exact ⟨[], rfl, Nat.le_refl _, Nat.zero_le _, rfl, by omega, fun h => absurd h (by omega)⟩
  · simp [Value.cells] at hcs
    obtain ⟨rfl, rfl, rfl⟩ := hcs
    have hC : Try.prog.cellsOf 39 = 3 := by kernel_rfl
    have he : ∀ i, i < len → ∃ q : S39, W.cell? (x.add (i * 3)) = some (.int .i64 q.f0) ∧ W.cell? (x.add (i * 3 + 1)) = some (.int .i64 q.f1) ∧ W.cell? (x.add (i * 3 + 2)) = some (.bool q.f2) := by
      intro i hil
      obtain ⟨cs', hc, ht'⟩ := hi i (by rw [hmm, if_pos rfl]; omega)
      rw [hC] at hc
      obtain ⟨ys, n', _, _, hlen, hyl, hfd⟩ := DataW.trod_struct Try.underlying39 ht'
      obtain ⟨_, hcl, hat⟩ := World.cells?_some hc
      have h0 := hfd 0 _ rfl
      have h1 := hfd 1 _ rfl
      have h2 := hfd 2 _ rfl
      match cs', hcl, ys, hyl with
      | [c0, c1, c2], _, [y0, y1, y2], _ =>
        have e0 : Try.prog.cellsOf 3 = 1 := by kernel_rfl
        have e4 : Try.prog.cellsOf 4 = 1 := by kernel_rfl
        simp [e0, e4] at h0 h1 h2
        obtain ⟨n0, hn0, _, _⟩ := DataW.trod_int Try.underlying3 h0
        obtain ⟨n1, hn1, _, _⟩ := DataW.trod_int Try.underlying3 h1
        obtain ⟨n2, hn2, _⟩ := DataW.trod_bool Try.underlying4 h2
        simp at hn0 hn1 hn2
        subst hn0 hn1 hn2
        refine ⟨⟨n0, n1, n2⟩, ?_, ?_, ?_⟩
        · have := hat 0 (by omega)
          rw [Go.Deep.add_add] at this
          exact this
        · have := hat 1 (by omega)
          rw [Go.Deep.add_add] at this
          exact this
        · have := hat 2 (by omega)
          rw [Go.Deep.add_add] at this
          exact this
    obtain ⟨ps, hps, hall⟩ := list_of len he
    refine ⟨ps, hps, hl, hm, hps, by unfold maxLen at hm; omega, fun _ => ⟨x, rfl, fun j q hj => ⟨[.int .i64 q.f0, .int .i64 q.f1, .bool q.f2], rfl, k39_mk W q, fun i u hu => ?_⟩⟩⟩
    obtain ⟨g0, g1, g2⟩ := hall j q hj
    match i, hu with
    | 0, hu => cases hu; exact g0
    | 1, hu => cases hu; exact g1
    | 2, hu => cases hu; exact g2
end Go.Proofs.Ytaegldcifhgnmaa.A

/- FeudsGroups holds: its code returns true and leaves what it was given as it was. Conditions: those of the given statement, none besides. -/
namespace Go.Proofs.Ytaegldcifhgnmaa.feudsGroups
open Go.ChangeShapes Go.WideShapes Go.ChangeAt Go.RowKit
open Go.ChangeMaps (open_string shut_string)
open Go.Proofs.YtaegldcifhgnmaaW.PrintWords
open Go.Proofs.Ytaegldcifhgnmaa.A Go.Proofs.Ytaegldcifhgnmaa.B
set_option linter.unusedVariables false
theorem own : ownKnob Try.prog.godebug = none := by kernel_rfl
theorem laidOut : laidOutB Try.prog = true := by kernel_rfl
def IsRow (k : IntKind) (w : World) (a : Option Addr) (len cap : Nat) (zs : List Int) : Prop :=
  (a = none ∧ len = 0 ∧ cap = 0 ∧ zs = []) ∨
  ∃ x, a = some x ∧ len ≤ cap ∧ cap ≤ maxLen ∧ zs.length = cap ∧ (∀ i, i < zs.length → w.cell? (x.add i) = some (.int k (zs.getD i 0))) ∧ ∀ n ∈ zs, (Lit.int k n).wf = true
set_option maxRecDepth 100000 in
theorem lifted (os : Os) (started : os.Started) (H : Type) (enc : TypeId × Value → H) :
    ReturnsInHanded {} Try.checked os 5 .any (Rows.feudsGroupsSpec.pre6 enc Try.prog Try.f5 Rows.feudsGroupsRow.domain false) (Rows.feudsGroupsSpec.post enc Try.prog Try.f5 false true false false) := by
  refine returnsInHanded_of_change_sized (C := Try.checked) own started (by kernel_rfl) Try.func5
    (ChangeSpec.witness6 (enc := enc) (C := Try.checked) false ⟨#[], #[.int .i64 0, .slice none 0 0], []⟩ 8 (by kernel_rfl) (by kernel_rfl) (by kernel_rfl) (by kernel_rfl)) ?_
  intro W base args ds gs before hval0 hW hcnd hsz0 _
  have hsz : (DataW.weightsEach Try.prog (Try.f5.params.toList ++ Rows.feudsGroupsSpec.plain.varTypes Try.prog) (ds ++ gs)).all (· ≤ reachBytes) = true := hsz0
  have hval : ∀ (j : Nat) t v, Try.f5.params[j]? = some t → args[j]? = some v → Value.okWide Try.prog W .any base t v := hval0
  have hW' := hW
  obtain ⟨p, q, hA0, hV, rfl, hfz, hnd⟩ := hW
  have hA : DataW.TrodAll enc Try.prog W 0 (fun _ => true) true Try.f5.params.toList args.toList ds p := hA0
  rw [Try.params5] at hA hval hsz
  obtain ⟨v0, vs0, d0, ds0, p0, q0, hargs, rfl, rfl, h0, r0⟩ := trodAll_cons hA
  obtain ⟨v1, vs1, d1, ds1, p1, q1, rfl, rfl, rfl, h1, r1⟩ := trodAll_cons r0
  obtain ⟨rfl, rfl, rfl⟩ := trodAll_nil r1
  obtain rfl : args = #[v0, v1] := by cases args; simp_all
  obtain ⟨rfl, rfl⟩ := trodVars_none hV
  obtain ⟨a0, rfl, rfl, rfl, w0⟩ := open_int Try.underlying3 (hval 0 3 v0 rfl rfl) h0
  obtain ⟨a1, len1, cap1, rfl⟩ := okWide_slice Try.underlying22 (hval 1 22 v1 rfl rfl)
  have k1 := h1
  have lt1 : ∀ x ∈ p1, x.block < W.heap.size := by obtain ⟨m, hm⟩ := k1; exact DataW.trod_lt m _ _ _ hm
  obtain ⟨l1, rfl, hc1, hm1, hr1⟩ := open_ties h1
  clear hA0 hval0 hsz0 hsz
  refine (fgroups_any a0 a1 cap1 l1 W hr1 hc1).mono fun e W' ⟨he, bel⟩ => ?_
  subst he
  exact ⟨_, rfl, _, _, _, [], _, [], hW', trodAll_mk1 (shut_bool Try.underlying4 _), (trodAll_cons_mk (shut_int Try.underlying3 w0) (trodAll_cons_mk (Below.trod laidOut (by kernel_rfl) (of_decide_eq_true (by kernel_rfl)) k1 bel lt1) trodAll_mk0)), rfl, bel.frame _, fun h => by cases h⟩
theorem over : Rows.feudsGroupsRow.holds Try.pinned (OpenSpec.ofChange Rows.feudsGroupsSpec) :=
  OpenClaim.holds_of_wide 5 Try.f5 rfl rfl rfl rfl rfl rfl rfl ⟨rfl, rfl, rfl, rfl, rfl⟩ rfl rfl rfl rfl rfl (by kernel_rfl) Try.func5 (by kernel_rfl)
    (of_decide_eq_true (by kernel_rfl)) (by unfold Func.isWrapper; first | (rw [if_pos (by decide +kernel)]; kernel_rfl) | (rw [if_neg (by decide +kernel)]; exact ⟨rfl, rfl⟩))
    (fun os started H enc _ => lifted os started H enc)
theorem proved : Rows.FeudsGroupsSaid := over
#print axioms proved
end Go.Proofs.Ytaegldcifhgnmaa.feudsGroups
namespace Go.Proofs.Ytaegldcifhgnmaa
/-- The row, under a short name, for the claim. -/
theorem feudsGroups_holds : Rows.FeudsGroupsSaid := feudsGroups.proved
end Go.Proofs.Ytaegldcifhgnmaa
