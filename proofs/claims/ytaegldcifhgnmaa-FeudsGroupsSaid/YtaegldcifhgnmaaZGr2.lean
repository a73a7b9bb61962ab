/- The reference's groups, as the kit's print writes it. -/
import Derived.Test.YtaegldcifhgnmaaZGr1
import Derived.Test.YtaegldcifhgnmaaProg
import Derived.Below
import Derived.Deep.Draws
import Derived.Deep.AppendLies
import Derived.Maps.AppendAt
import Derived.OwnWalk
import Derived.Laws.BytesArg
import Derived.Laws.MakeOwn
import Derived.Laws.OwnMore
import Derived.Deep.OwnRows
import Derived.Tactics
import Derived.Lib.ConvBytes
import Derived.Laws.Slices
import Derived.WalkKit
import Derived.KernelRfl
import Derived.RowKit3
import Derived.Deep.LoopGhost
import Derived.Deep.QuietTactic
import Derived.BigQuiet
import Derived.WideLaws
import Derived.Deep.DeepCutAuto
import Derived.Deep.CutBlock
import Derived.Deep.RegionHeld3
import Derived.Laws.Rows
import Derived.Lib.AppendStr
import Derived.ArgAppend
import Derived.Laws.IdiomCopy
import Derived.OrdersHeld
import Derived.Laws.BitsLemmas
import Derived.RowKit
import Derived.Test.YtaegldcifhgnmaaWWords
import Derived.Test.YtaegldcifhgnmaaWLast
import Derived.Test.YtaegldcifhgnmaaWTab
import Derived.Test.YtaegldcifhgnmaaWFour
import Derived.Test.YtaegldcifhgnmaaWQPut
import Derived.Test.YtaegldcifhgnmaaWApart
import Derived.Test.YtaegldcifhgnmaaWArr
import Derived.Test.YtaegldcifhgnmaaWZeros
import Derived.Test.YtaegldcifhgnmaaWFoot
import Derived.Test.YtaegldcifhgnmaaWKept
import Derived.Test.YtaegldcifhgnmaaWShare
import Derived.Test.YtaegldcifhgnmaaWN
import Derived.Test.YtaegldcifhgnmaaWFootNe
import Derived.Test.YtaegldcifhgnmaaWAt
import Derived.Test.YtaegldcifhgnmaaWEqStruct
import Derived.Test.YtaegldcifhgnmaaWRepsOne
import Derived.Test.YtaegldcifhgnmaaWInv
import Derived.Test.YtaegldcifhgnmaaWInvWords
import Derived.Test.YtaegldcifhgnmaaWGuard
import Derived.Test.YtaegldcifhgnmaaWNEv
import Derived.Test.YtaegldcifhgnmaaWMore
/- The reference's groups, as the kit's print writes it. -/
namespace Go.Proofs.Ytaegldcifhgnmaa.B
open Go.Proofs.Ytaegldcifhgnmaa.A
open Go.RowKit Go.Proofs.YtaegldcifhgnmaaW.PrintWords Go.Proofs.YtaegldcifhgnmaaW.PrintLast Go.Proofs.YtaegldcifhgnmaaW.PrintMore
section
attribute [local go_sem] max2_int min2_int max_two min_two max_three min_three max_four min_four   -- for this text's walks alone
set_option linter.unusedVariables false
set_option linter.unusedSimpArgs false
/-! ### drovewayref09_groups: function 56 -/
mutual
def drovewayref09_groups.l0 : Nat → Int → List (S39) → Bool → List Int → Int → Option (List Int)
  | 0, _, _, _, _, _ => none
  | k + 1, x0, x1, x2, x7, x8 => if x8 < x0 then (if 0 ≤ x8 then (if x8 < (x7.length : Int) then (drovewayref09_groups.l0 k x0 x1 x2 (x7.set (x8 : Int).toNat x8) (wrap64 (x8 + 1))) else (none)) else (none)) else (drovewayref09_groups.l1 k x0 x1 x2 x7 0)
def drovewayref09_groups.l1 : Nat → Int → List (S39) → Bool → List Int → Int → Option (List Int)
  | 0, _, _, _, _, _ => none
  | k + 1, x0, x1, x2, x7, x9 => if x9 < (x1.length : Int) then (if 0 ≤ x9 then (if 0 ≤ ((rd_T39 x1 x9).f0) then (if ((rd_T39 x1 x9).f0) < (x7.length : Int) then (if 0 ≤ ((rd_T39 x1 x9).f1) then (if ((rd_T39 x1 x9).f1) < (x7.length : Int) then (drovewayref09_groups.l2 k x0 x1 x2 x7 x9 (rd x7 ((rd_T39 x1 x9).f0)) (rd x7 ((rd_T39 x1 x9).f1)) 0) else (none)) else (none)) else (none)) else (none)) else (none)) else (drovewayref09_groups.l3 k x0 x7 ([] : List Int) 0)
def drovewayref09_groups.l2 : Nat → Int → List (S39) → Bool → List Int → Int → Int → Int → Int → Option (List Int)
  | 0, _, _, _, _, _, _, _, _ => none
  | k + 1, x0, x1, x2, x7, x9, x10, x11, x12 => if x12 < x0 then (if x2 = true then (if 0 ≤ x9 then (if x9 < (x1.length : Int) then (drovewayref09_groups.j3 k x0 x1 x2 x7 x9 x10 x11 x12 (!((rd_T39 x1 x9).f2))) else (none)) else (none)) else (drovewayref09_groups.j3 k x0 x1 x2 x7 x9 x10 x11 x12 true)) else (drovewayref09_groups.j3 k x0 x1 x2 x7 x9 x10 x11 x12 false)
def drovewayref09_groups.j3 : Nat → Int → List (S39) → Bool → List Int → Int → Int → Int → Int → Bool → Option (List Int)
  | 0, _, _, _, _, _, _, _, _, _ => none
  | k + 1, x0, x1, x2, x7, x9, x10, x11, x12, x64 => if x64 = true then (if 0 ≤ x12 then (if x12 < (x7.length : Int) then (if (rd x7 x12) = (mx x10 x11) then (drovewayref09_groups.l2 k x0 x1 x2 (x7.set (x12 : Int).toNat (mn x10 x11)) x9 x10 x11 (wrap64 (x12 + 1))) else (drovewayref09_groups.l2 k x0 x1 x2 x7 x9 x10 x11 (wrap64 (x12 + 1)))) else (none)) else (none)) else (drovewayref09_groups.l1 k x0 x1 x2 x7 (wrap64 (x9 + 1)))
def drovewayref09_groups.l3 : Nat → Int → List Int → List Int → Int → Option (List Int)
  | 0, _, _, _, _ => none
  | k + 1, x0, x7, x13, x14 => if x14 < x0 then (drovewayref09_groups.l4 k x0 x7 x13 x14 0 x14) else (some x13)
def drovewayref09_groups.l4 : Nat → Int → List Int → List Int → Int → Int → Int → Option (List Int)
  | 0, _, _, _, _, _, _ => none
  | k + 1, x0, x7, x13, x14, x15, x16 => if x16 < x0 then (if 0 ≤ x16 then (if x16 < (x7.length : Int) then (if (rd x7 x16) = x14 then (drovewayref09_groups.l4 k x0 x7 x13 x14 (wrap64 (x15 + (shl .i64 1 x16))) (wrap64 (x16 + 1))) else (drovewayref09_groups.l4 k x0 x7 x13 x14 x15 (wrap64 (x16 + 1)))) else (none)) else (none)) else (if x15 > 0 then (if x13.length < 17592186044416 then (drovewayref09_groups.l3 k x0 x7 (x13 ++ [x15]) (wrap64 (x14 + 1))) else (none)) else (drovewayref09_groups.l3 k x0 x7 x13 (wrap64 (x14 + 1))))
end
def drovewayref09_groups.f (k : Nat) (a0 : Int) (l1 : List (S39)) (a2 : Bool) : Option (List Int) := if 0 ≤ a0 then (if (a0 : Int).toNat ≤ 35184372088832 then (drovewayref09_groups.l0 k a0 l1 a2 (List.replicate (a0 : Int).toNat 0) 0) else (none)) else (none)
theorem drovewayref09_groups.mono_l : ∀ k, (∀ y0 y1 y2 y3 y4, LeO (drovewayref09_groups.l0 k y0 y1 y2 y3 y4) (drovewayref09_groups.l0 (k + 1) y0 y1 y2 y3 y4)) ∧ (∀ y0 y1 y2 y3 y4, LeO (drovewayref09_groups.l1 k y0 y1 y2 y3 y4) (drovewayref09_groups.l1 (k + 1) y0 y1 y2 y3 y4)) ∧ (∀ y0 y1 y2 y3 y4 y5 y6 y7, LeO (drovewayref09_groups.l2 k y0 y1 y2 y3 y4 y5 y6 y7) (drovewayref09_groups.l2 (k + 1) y0 y1 y2 y3 y4 y5 y6 y7)) ∧ (∀ y0 y1 y2 y3 y4 y5 y6 y7 y8, LeO (drovewayref09_groups.j3 k y0 y1 y2 y3 y4 y5 y6 y7 y8) (drovewayref09_groups.j3 (k + 1) y0 y1 y2 y3 y4 y5 y6 y7 y8)) ∧ (∀ y0 y1 y2 y3, LeO (drovewayref09_groups.l3 k y0 y1 y2 y3) (drovewayref09_groups.l3 (k + 1) y0 y1 y2 y3)) ∧ (∀ y0 y1 y2 y3 y4 y5, LeO (drovewayref09_groups.l4 k y0 y1 y2 y3 y4 y5) (drovewayref09_groups.l4 (k + 1) y0 y1 y2 y3 y4 y5))
  | 0 => ⟨fun _ _ _ _ _ r h => by simp [drovewayref09_groups.l0] at h, fun _ _ _ _ _ r h => by simp [drovewayref09_groups.l1] at h, fun _ _ _ _ _ _ _ _ r h => by simp [drovewayref09_groups.l2] at h, fun _ _ _ _ _ _ _ _ _ r h => by simp [drovewayref09_groups.j3] at h, fun _ _ _ _ r h => by simp [drovewayref09_groups.l3] at h, fun _ _ _ _ _ _ r h => by simp [drovewayref09_groups.l4] at h⟩
  | k + 1 => by
    obtain ⟨ih0, ih1, ih2, ih3, ih4, ih5⟩ := drovewayref09_groups.mono_l k
    refine ⟨?_, ?_, ?_, ?_, ?_, ?_⟩
    · intro y0 y1 y2 y3 y4
      unfold drovewayref09_groups.l0
      repeat' first
      | (with_reducible exact ih0 _ _ _ _ _)
      | (with_reducible exact ih1 _ _ _ _ _)
      | (with_reducible exact ih2 _ _ _ _ _ _ _ _)
      | (with_reducible exact ih3 _ _ _ _ _ _ _ _ _)
      | (with_reducible exact ih4 _ _ _ _)
      | (with_reducible exact ih5 _ _ _ _ _ _)
      | (with_reducible exact LeO.refl _)
      | (with_reducible exact LeO.none _)
      | (with_reducible refine LeO.ite ?_ ?_)
      | (with_reducible refine LeO.bind ?_ (fun _ => ?_))
      | exact ih0 _ _ _ _ _
      | exact ih1 _ _ _ _ _
      | exact ih2 _ _ _ _ _ _ _ _
      | exact ih3 _ _ _ _ _ _ _ _ _
      | exact ih4 _ _ _ _
      | exact ih5 _ _ _ _ _ _
      | exact LeO.none _
      | refine LeO.ite ?_ ?_
      | refine LeO.bind ?_ (fun _ => ?_)
    · intro y0 y1 y2 y3 y4
      unfold drovewayref09_groups.l1
      repeat' first
      | (with_reducible exact ih0 _ _ _ _ _)
      | (with_reducible exact ih1 _ _ _ _ _)
      | (with_reducible exact ih2 _ _ _ _ _ _ _ _)
      | (with_reducible exact ih3 _ _ _ _ _ _ _ _ _)
      | (with_reducible exact ih4 _ _ _ _)
      | (with_reducible exact ih5 _ _ _ _ _ _)
      | (with_reducible exact LeO.refl _)
      | (with_reducible exact LeO.none _)
      | (with_reducible refine LeO.ite ?_ ?_)
      | (with_reducible refine LeO.bind ?_ (fun _ => ?_))
      | exact ih0 _ _ _ _ _
      | exact ih1 _ _ _ _ _
      | exact ih2 _ _ _ _ _ _ _ _
      | exact ih3 _ _ _ _ _ _ _ _ _
      | exact ih4 _ _ _ _
      | exact ih5 _ _ _ _ _ _
      | exact LeO.none _
      | refine LeO.ite ?_ ?_
      | refine LeO.bind ?_ (fun _ => ?_)
    · intro y0 y1 y2 y3 y4 y5 y6 y7
      unfold drovewayref09_groups.l2
      repeat' first
      | (with_reducible exact ih0 _ _ _ _ _)
      | (with_reducible exact ih1 _ _ _ _ _)
      | (with_reducible exact ih2 _ _ _ _ _ _ _ _)
      | (with_reducible exact ih3 _ _ _ _ _ _ _ _ _)
      | (with_reducible exact ih4 _ _ _ _)
      | (with_reducible exact ih5 _ _ _ _ _ _)
      | (with_reducible exact LeO.refl _)
      | (with_reducible exact LeO.none _)
      | (with_reducible refine LeO.ite ?_ ?_)
      | (with_reducible refine LeO.bind ?_ (fun _ => ?_))
      | exact ih0 _ _ _ _ _
      | exact ih1 _ _ _ _ _
      | exact ih2 _ _ _ _ _ _ _ _
      | exact ih3 _ _ _ _ _ _ _ _ _
      | exact ih4 _ _ _ _
      | exact ih5 _ _ _ _ _ _
      | exact LeO.none _
      | refine LeO.ite ?_ ?_
      | refine LeO.bind ?_ (fun _ => ?_)
    · intro y0 y1 y2 y3 y4 y5 y6 y7 y8
      unfold drovewayref09_groups.j3
      repeat' first
      | (with_reducible exact ih0 _ _ _ _ _)
      | (with_reducible exact ih1 _ _ _ _ _)
      | (with_reducible exact ih2 _ _ _ _ _ _ _ _)
      | (with_reducible exact ih3 _ _ _ _ _ _ _ _ _)
      | (with_reducible exact ih4 _ _ _ _)
      | (with_reducible exact ih5 _ _ _ _ _ _)
      | (with_reducible exact LeO.refl _)
      | (with_reducible exact LeO.none _)
      | (with_reducible refine LeO.ite ?_ ?_)
      | (with_reducible refine LeO.bind ?_ (fun _ => ?_))
      | exact ih0 _ _ _ _ _
      | exact ih1 _ _ _ _ _
      | exact ih2 _ _ _ _ _ _ _ _
      | exact ih3 _ _ _ _ _ _ _ _ _
      | exact ih4 _ _ _ _
      | exact ih5 _ _ _ _ _ _
      | exact LeO.none _
      | refine LeO.ite ?_ ?_
      | refine LeO.bind ?_ (fun _ => ?_)
    · intro y0 y1 y2 y3
      unfold drovewayref09_groups.l3
      repeat' first
      | (with_reducible exact ih0 _ _ _ _ _)
      | (with_reducible exact ih1 _ _ _ _ _)
      | (with_reducible exact ih2 _ _ _ _ _ _ _ _)
      | (with_reducible exact ih3 _ _ _ _ _ _ _ _ _)
      | (with_reducible exact ih4 _ _ _ _)
      | (with_reducible exact ih5 _ _ _ _ _ _)
      | (with_reducible exact LeO.refl _)
      | (with_reducible exact LeO.none _)
      | (with_reducible refine LeO.ite ?_ ?_)
      | (with_reducible refine LeO.bind ?_ (fun _ => ?_))
      | exact ih0 _ _ _ _ _
      | exact ih1 _ _ _ _ _
      | exact ih2 _ _ _ _ _ _ _ _
      | exact ih3 _ _ _ _ _ _ _ _ _
      | exact ih4 _ _ _ _
      | exact ih5 _ _ _ _ _ _
      | exact LeO.none _
      | refine LeO.ite ?_ ?_
      | refine LeO.bind ?_ (fun _ => ?_)
    · intro y0 y1 y2 y3 y4 y5
      unfold drovewayref09_groups.l4
      repeat' first
      | (with_reducible exact ih0 _ _ _ _ _)
      | (with_reducible exact ih1 _ _ _ _ _)
      | (with_reducible exact ih2 _ _ _ _ _ _ _ _)
      | (with_reducible exact ih3 _ _ _ _ _ _ _ _ _)
      | (with_reducible exact ih4 _ _ _ _)
      | (with_reducible exact ih5 _ _ _ _ _ _)
      | (with_reducible exact LeO.refl _)
      | (with_reducible exact LeO.none _)
      | (with_reducible refine LeO.ite ?_ ?_)
      | (with_reducible refine LeO.bind ?_ (fun _ => ?_))
      | exact ih0 _ _ _ _ _
      | exact ih1 _ _ _ _ _
      | exact ih2 _ _ _ _ _ _ _ _
      | exact ih3 _ _ _ _ _ _ _ _ _
      | exact ih4 _ _ _ _
      | exact ih5 _ _ _ _ _ _
      | exact LeO.none _
      | refine LeO.ite ?_ ?_
      | refine LeO.bind ?_ (fun _ => ?_)
theorem drovewayref09_groups.mono : ∀ a0 a1 a2 k, LeO (drovewayref09_groups.f k a0 a1 a2) (drovewayref09_groups.f (k + 1) a0 a1 a2) := by
  intro a0 a1 a2 k
  obtain ⟨ih0, ih1, ih2, ih3, ih4, ih5⟩ := drovewayref09_groups.mono_l k
  unfold drovewayref09_groups.f
  repeat' first
      | (with_reducible exact ih0 _ _ _ _ _)
      | (with_reducible exact ih1 _ _ _ _ _)
      | (with_reducible exact ih2 _ _ _ _ _ _ _ _)
      | (with_reducible exact ih3 _ _ _ _ _ _ _ _ _)
      | (with_reducible exact ih4 _ _ _ _)
      | (with_reducible exact ih5 _ _ _ _ _ _)
      | (with_reducible exact LeO.refl _)
      | (with_reducible exact LeO.none _)
      | (with_reducible refine LeO.ite ?_ ?_)
      | (with_reducible refine LeO.bind ?_ (fun _ => ?_))
      | exact ih0 _ _ _ _ _
      | exact ih1 _ _ _ _ _
      | exact ih2 _ _ _ _ _ _ _ _
      | exact ih3 _ _ _ _ _ _ _ _ _
      | exact ih4 _ _ _ _
      | exact ih5 _ _ _ _ _ _
      | exact LeO.none _
      | refine LeO.ite ?_ ?_
      | refine LeO.bind ?_ (fun _ => ?_)
set_option maxHeartbeats 8000000 in
set_option maxRecDepth 100000 in
theorem drovewayref09_groups.calls (k : Nat) (a0 : Int) (A1 : Option Addr) (c1 : Nat) (l1 : List (S39)) (a2 : Bool) (r : List Int) (w : World) (hr1 : Kd.C k39 w A1 l1.length l1) (hc1 : l1.length ≤ c1) (h : drovewayref09_groups.f k a0 l1 a2 = some r) :
    Calls Try.prog 56 #[.int .i64 a0, .slice A1 l1.length c1, .bool a2] w fun e w' => ∃ v0_ : Value, e = .returned (v0_) ∧ Kd.R (Kd.int .i64) 3 w' w.heap.size (fun _ => True) v0_ r ∧ Below w.heap.size w w' := by
  have HR1 := Aside0.mk hr1
  have HC1 := Aside0.mk hc1
  clear hr1 hc1
  have HB := Aside0.mk (Below.refl w.heap.size w)
  have H : (if 0 ≤ a0 then (if (a0 : Int).toNat ≤ 35184372088832 then (drovewayref09_groups.l0 k a0 l1 a2 (List.replicate (a0 : Int).toNat 0) 0) else (none)) else (none)) = some r := h
  clear h
  by_cases c4 : 0 ≤ a0
  · rw [if_pos c4] at H
    have c4b0 := eq_true c4
    have c4b1 : decide (0 ≤ a0) = true := decide_eq_true c4
    clear c4
    by_cases c5 : (a0 : Int).toNat ≤ 35184372088832
    · rw [if_pos c5] at H
      have c5b0 := eq_true c5
      have c5b1 : decide ((a0 : Int).toNat ≤ 35184372088832) = true := decide_eq_true c5
      clear c5
      obtain ⟨y113, hy113⟩ : ∃ y_ : List Int, y_ = (List.replicate (a0 : Int).toNat 0) := ⟨_, rfl⟩
      replace H : (drovewayref09_groups.l0 k a0 l1 a2 y113 0) = some r := by first | (rw [hy113]; with_reducible exact H) | (have H2_ := (Option.bind_some _ _).symm.trans H; rw [hy113]; with_reducible exact H2_) | (have H2_ := (Option.bind_some _ _).symm.trans H; with_reducible exact H2_) | with_reducible exact H | (rw [hy113]; exact H) | exact H
      have Ny113 := Aside0.mk hy113
      clear hy113
      have H' := Aside0.mk H
      clear H
      go_enter Try.func56, Try.ntmps56
      go_wp2_with (first | ((with_reducible refine gate_dst (N := 18) rfl ?_); refine Kd.R_make (Kd.int .i64) _ 3 rfl (N := 18) rfl 28 _ _ rfl a0 rfl rfl Try.underlying28 (.int .i64 0) 8 info3 rfl (by decide) (by omega) 0 (ok := fun _ => True) (okp := fun _ => True) rfl (fun _ hk => hk) trivial (of_decide_eq_true (by first | (with_reducible assumption) | assumption)) (Nat.le_trans (Nat.mul_le_mul_right _ (of_decide_eq_true (by first | (with_reducible assumption) | assumption) : a0.toNat ≤ 35184372088832)) (by omega)) (Below.refl _ _) (Nat.le_refl _) ?_; intro v114 w6 ho7 hb hg_ hnew_; clear hg_ hnew_; (first | rw [← Ny113.out] at ho7 | (simp only [Int.reduceToNat] at ho7; rw [← Ny113.out] at ho7)); have n0_ := Aside0.mk (Kd.R_lower ho7 (below_size (by repeat (first | (with_reducible first | exact HB.out | apply below_alloc | apply pw_below_drewN | apply below_drew1) | exact HB.out)))); have n1_ := Aside0.mk (below_step (by repeat (first | (with_reducible first | exact HB.out | apply below_alloc | apply pw_below_drewN | apply below_drew1) | exact HB.out)) hb); clear HB; have HO115 := n0_; have HB := n1_; clear n0_ n1_; clear hb ho7))
      repeat (go_quiet (first | ((with_reducible refine gate_dst (N := 18) rfl ?_); refine Kd.R_make (Kd.int .i64) _ 3 rfl (N := 18) rfl 28 _ _ rfl a0 rfl rfl Try.underlying28 (.int .i64 0) 8 info3 rfl (by decide) (by omega) 0 (ok := fun _ => True) (okp := fun _ => True) rfl (fun _ hk => hk) trivial (of_decide_eq_true (by first | (with_reducible assumption) | assumption)) (Nat.le_trans (Nat.mul_le_mul_right _ (of_decide_eq_true (by first | (with_reducible assumption) | assumption) : a0.toNat ≤ 35184372088832)) (by omega)) (Below.refl _ _) (Nat.le_refl _) ?_; intro v114 w6 ho7 hb hg_ hnew_; clear hg_ hnew_; (first | rw [← Ny113.out] at ho7 | (simp only [Int.reduceToNat] at ho7; rw [← Ny113.out] at ho7)); have n0_ := Aside0.mk (Kd.R_lower ho7 (below_size (by repeat (first | (with_reducible first | exact HB.out | apply below_alloc | apply pw_below_drewN | apply below_drew1) | exact HB.out)))); have n1_ := Aside0.mk (below_step (by repeat (first | (with_reducible first | exact HB.out | apply below_alloc | apply pw_below_drewN | apply below_drew1) | exact HB.out)) hb); clear HB; have HO115 := n0_; have HB := n1_; clear n0_ n1_; clear hb ho7)); try go_wp2_with (first | ((with_reducible refine gate_dst (N := 18) rfl ?_); refine Kd.R_make (Kd.int .i64) _ 3 rfl (N := 18) rfl 28 _ _ rfl a0 rfl rfl Try.underlying28 (.int .i64 0) 8 info3 rfl (by decide) (by omega) 0 (ok := fun _ => True) (okp := fun _ => True) rfl (fun _ hk => hk) trivial (of_decide_eq_true (by first | (with_reducible assumption) | assumption)) (Nat.le_trans (Nat.mul_le_mul_right _ (of_decide_eq_true (by first | (with_reducible assumption) | assumption) : a0.toNat ≤ 35184372088832)) (by omega)) (Below.refl _ _) (Nat.le_refl _) ?_; intro v114 w6 ho7 hb hg_ hnew_; clear hg_ hnew_; (first | rw [← Ny113.out] at ho7 | (simp only [Int.reduceToNat] at ho7; rw [← Ny113.out] at ho7)); have n0_ := Aside0.mk (Kd.R_lower ho7 (below_size (by repeat (first | (with_reducible first | exact HB.out | apply below_alloc | apply pw_below_drewN | apply below_drew1) | exact HB.out)))); have n1_ := Aside0.mk (below_step (by repeat (first | (with_reducible first | exact HB.out | apply below_alloc | apply pw_below_drewN | apply below_drew1) | exact HB.out)) hb); clear HB; have HO115 := n0_; have HB := n1_; clear n0_ n1_; clear hb ho7)))
      go_loopg [8] k (fun kq v8 w' => ∃ (x7_1 : List Int) (x8_1 : Int), v8 = .int .i64 x8_1 ∧ Aside0 (drovewayref09_groups.l0 kq a0 l1 a2 x7_1 x8_1 = some r) ∧ Aside0 (kq ≤ k) ∧ Aside0 (Kd.R (Kd.int .i64) 3 w' w.heap.size (fun _ => True) v114 x7_1) ∧ Aside0 (Below w.heap.size w w'))
      case atStart => exact ⟨(y113), (0), (by first | rfl | (simp; done) | (simp [*]; done)), H', ⟨Nat.le_refl _⟩, ⟨by (with_reducible repeat (first | apply Kd.R_alloc | apply Kd.R_drewN | apply Kd.R_drew)); exact HO115.out⟩, ⟨by repeat (first | (with_reducible first | exact HB.out | apply below_alloc | apply pw_below_drewN | apply below_drew1) | exact HB.out)⟩⟩
      case round =>
        clear H'
        try clear c1
        try clear p2
        try clear c4
        try clear c4b0
        try clear c4b1
        try clear c5
        try clear c5b0
        try clear c5b1
        obtain ⟨x7_1, x8_1, rfl, HA, HK1, HO_7, HB⟩ := hrel
        cases gk with
        | zero => exact absurd HA.out (by simp [drovewayref09_groups.l0])
        | succ k1 =>
          have H := HA.out
          clear HA
          simp only [drovewayref09_groups.l0] at H
          by_cases c8 : x8_1 < a0
          · rw [if_pos c8] at H
            have c8b0 : decide (x8_1 < a0) = true := decide_eq_true c8
            clear c8
            by_cases c9 : 0 ≤ x8_1
            · rw [if_pos c9] at H
              have c9b0 : decide (0 ≤ x8_1) = true := decide_eq_true c9
              clear c9
              by_cases c10 : x8_1 < (x7_1.length : Int)
              · rw [if_pos c10] at H
                have c10b0 : decide (x8_1 < (x7_1.length : Int)) = true := decide_eq_true c10
                clear c10
                obtain ⟨y116, hy116⟩ : ∃ y_ : List Int, y_ = (x7_1.set (x8_1 : Int).toNat x8_1) := ⟨_, rfl⟩
                replace H : (drovewayref09_groups.l0 k1 a0 l1 a2 y116 (wrap64 (x8_1 + 1))) = some r := by first | (rw [hy116]; with_reducible exact H) | (have H2_ := (Option.bind_some _ _).symm.trans H; rw [hy116]; with_reducible exact H2_) | (have H2_ := (Option.bind_some _ _).symm.trans H; with_reducible exact H2_) | with_reducible exact H | (rw [hy116]; exact H) | exact H
                have Ny116 := Aside0.mk hy116
                clear hy116
                have H' := Aside0.mk H
                clear H
                have p11 : 0 ≤ (x8_1 : Int) := of_decide_eq_true (by first | (with_reducible assumption) | assumption)
                have q11 : (x8_1 : Int) < ((x7_1.length : Int) : Int) := of_decide_eq_true (by first | (with_reducible assumption) | assumption)
                obtain ⟨go11, co11, eo11, gb11, gl11, cl11, HG11⟩ := Kd.R_form HO_7.out (by omega)
                (first | cases eo11 | (injection eo11 with ea_ en_ ec_; (first | subst ea_ | (injection ea_ with ea_; subst ea_)); subst ec_; clear en_))
                have GB11 := Aside0.mk gb11
                have GG11 := Aside0.mk HG11
                clear gb11 gl11 HG11
                obtain ⟨hx11_0, hf11_0⟩ := Kd.R_celln 0 HO_7.out (x8_1 : Int) p11 q11
                replace p11 := eq_true p11
                replace q11 := eq_true q11
                have HP12 := Kd.R_putg HO_7.out (x8_1 : Int) x8_1
                go_wp2_with (first | ((with_reducible refine gate_store (t := 3) (p := 27) rfl ?_); (try (rw [drewN_self wr]; generalize hq_ : World.drewN wr _ = wr; have n0_ := Aside0.mk (Kd.R_at hq_ HO_7.out); have n1_ := Aside0.mk (below_at hq_ HB.out); clear hq_ HO_7 HB; have HO_7 := n0_; have HB := n1_; clear n0_ n1_; (try (have HP12 := Kd.R_putg HO_7.out (x8_1 : Int) x8_1)))); refine store_event (t := 3) (p := 27) (v := ?vo_w13) (w1 := (wr.setCell ⟨go11, (x8_1 : Int).toNat, none⟩ (.int .i64 x8_1))) ?hg ?ho ?hn ?hr ?_; (case ho => rfl); (case hg => rfl); (case hn => rfl); (case hr => first | (go_simp; done) | (go_simp; rfl)); intro w13 hw; have hg : wr.grownBy w13 (some go11) := (by rw [hw]; exact HP12.2); have hp_ : Kd.R (Kd.int .i64) 3 w13 w.heap.size (fun _ => True) (.slice (some ⟨go11, 0, none⟩) x7_1.length co11) y116 := (by rw [hw, Ny116.out]; exact HP12.1); clear HP12; have n0_ := Aside0.mk (hp_); have n1_ := Aside0.mk ((by rw [hw]; exact below_set (HB.out) GB11.out : Below w.heap.size w w13)); clear HO_7; clear HB; have HO_7 := n0_; have HB := n1_; clear n0_ n1_; clear hg hw hp_))
                repeat (go_quiet (first | ((with_reducible refine gate_store (t := 3) (p := 27) rfl ?_); (try (rw [drewN_self wr]; generalize hq_ : World.drewN wr _ = wr; have n0_ := Aside0.mk (Kd.R_at hq_ HO_7.out); have n1_ := Aside0.mk (below_at hq_ HB.out); clear hq_ HO_7 HB; have HO_7 := n0_; have HB := n1_; clear n0_ n1_; (try (have HP12 := Kd.R_putg HO_7.out (x8_1 : Int) x8_1)))); refine store_event (t := 3) (p := 27) (v := ?vo_w13) (w1 := (wr.setCell ⟨go11, (x8_1 : Int).toNat, none⟩ (.int .i64 x8_1))) ?hg ?ho ?hn ?hr ?_; (case ho => rfl); (case hg => rfl); (case hn => rfl); (case hr => first | (go_simp; done) | (go_simp; rfl)); intro w13 hw; have hg : wr.grownBy w13 (some go11) := (by rw [hw]; exact HP12.2); have hp_ : Kd.R (Kd.int .i64) 3 w13 w.heap.size (fun _ => True) (.slice (some ⟨go11, 0, none⟩) x7_1.length co11) y116 := (by rw [hw, Ny116.out]; exact HP12.1); clear HP12; have n0_ := Aside0.mk (hp_); have n1_ := Aside0.mk ((by rw [hw]; exact below_set (HB.out) GB11.out : Below w.heap.size w w13)); clear HO_7; clear HB; have HO_7 := n0_; have HB := n1_; clear n0_ n1_; clear hg hw hp_)); try go_wp2_with (first | ((with_reducible refine gate_store (t := 3) (p := 27) rfl ?_); (try (rw [drewN_self wr]; generalize hq_ : World.drewN wr _ = wr; have n0_ := Aside0.mk (Kd.R_at hq_ HO_7.out); have n1_ := Aside0.mk (below_at hq_ HB.out); clear hq_ HO_7 HB; have HO_7 := n0_; have HB := n1_; clear n0_ n1_; (try (have HP12 := Kd.R_putg HO_7.out (x8_1 : Int) x8_1)))); refine store_event (t := 3) (p := 27) (v := ?vo_w13) (w1 := (wr.setCell ⟨go11, (x8_1 : Int).toNat, none⟩ (.int .i64 x8_1))) ?hg ?ho ?hn ?hr ?_; (case ho => rfl); (case hg => rfl); (case hn => rfl); (case hr => first | (go_simp; done) | (go_simp; rfl)); intro w13 hw; have hg : wr.grownBy w13 (some go11) := (by rw [hw]; exact HP12.2); have hp_ : Kd.R (Kd.int .i64) 3 w13 w.heap.size (fun _ => True) (.slice (some ⟨go11, 0, none⟩) x7_1.length co11) y116 := (by rw [hw, Ny116.out]; exact HP12.1); clear HP12; have n0_ := Aside0.mk (hp_); have n1_ := Aside0.mk ((by rw [hw]; exact below_set (HB.out) GB11.out : Below w.heap.size w w13)); clear HO_7; clear HB; have HO_7 := n0_; have HB := n1_; clear n0_ n1_; clear hg hw hp_)))
                go_roundg k1
                case measure => have := HK1.out; omega
                case rel => exact ⟨(y116), (wrap64 (x8_1 + 1)), (by first | rfl | (simp; done) | (simp [*]; done)), H', ⟨by have := HK1.out; omega⟩, ⟨by (with_reducible repeat (first | apply Kd.R_alloc | apply Kd.R_drewN | apply Kd.R_drew)); exact HO_7.out⟩, ⟨by repeat (first | (with_reducible first | exact HB.out | apply below_alloc | apply pw_below_drewN | apply below_drew1) | exact HB.out)⟩⟩
              · rw [if_neg c10] at H
                exact absurd H (by simp)
            · rw [if_neg c9] at H
              exact absurd H (by simp)
          · rw [if_neg c8] at H
            have c8b0 : decide (x8_1 < a0) = false := decide_eq_false c8
            clear c8
            have H' := Aside0.mk H
            clear H
            go_wp2
            repeat (go_quiet (fail); try go_wp2)
            go_loopg [9] k1 (fun kq v9 w' => ∃ (x7_2 : List Int) (x9_2 : Int), v9 = .int .i64 x9_2 ∧ Aside0 (drovewayref09_groups.l1 kq a0 l1 a2 x7_2 x9_2 = some r) ∧ Aside0 (kq ≤ k1) ∧ Aside0 (Kd.R (Kd.int .i64) 3 w' w.heap.size (fun _ => True) v114 x7_2) ∧ Aside0 (Below w.heap.size w w'))
            case atStart => exact ⟨(x7_1), (0), (by first | rfl | (simp; done) | (simp [*]; done)), H', ⟨Nat.le_refl _⟩, ⟨by (with_reducible repeat (first | apply Kd.R_alloc | apply Kd.R_drewN | apply Kd.R_drew)); exact HO_7.out⟩, ⟨by repeat (first | (with_reducible first | exact HB.out | apply below_alloc | apply pw_below_drewN | apply below_drew1) | exact HB.out)⟩⟩
            case round =>
              clear H'
              try clear c1
              try clear p1
              try clear q1
              try clear hx1
              try clear p2
              try clear c4
              try clear c4b0
              try clear c4b1
              try clear c5
              try clear c5b0
              try clear c5b1
              try clear p6
              try clear c8
              try clear c8b0
              try clear c9
              try clear c9b0
              try clear c10
              try clear c10b0
              try clear p11
              try clear q11
              try clear hx11
              try clear hf11
              try clear hx11_0
              try clear p11
              try clear p2
              try clear q11
              obtain ⟨x7_2, x9_2, rfl, HA, HK2, HO_7, HB⟩ := hrel
              cases gk with
              | zero => exact absurd HA.out (by simp [drovewayref09_groups.l1])
              | succ k2 =>
                have H := HA.out
                clear HA
                simp only [drovewayref09_groups.l1] at H
                by_cases c14 : x9_2 < (l1.length : Int)
                · rw [if_pos c14] at H
                  have c14b0 : decide (x9_2 < (l1.length : Int)) = true := decide_eq_true c14
                  clear c14
                  by_cases c15 : 0 ≤ x9_2
                  · rw [if_pos c15] at H
                    have c15b0 : decide (0 ≤ x9_2) = true := decide_eq_true c15
                    clear c15
                    by_cases c16 : 0 ≤ ((rd_T39 l1 x9_2).f0)
                    · rw [if_pos c16] at H
                      have c16b0 : decide (0 ≤ ((rd_T39 l1 x9_2).f0)) = true := decide_eq_true c16
                      clear c16
                      by_cases c17 : ((rd_T39 l1 x9_2).f0) < (x7_2.length : Int)
                      · rw [if_pos c17] at H
                        have c17b0 : decide (((rd_T39 l1 x9_2).f0) < (x7_2.length : Int)) = true := decide_eq_true c17
                        clear c17
                        by_cases c18 : 0 ≤ ((rd_T39 l1 x9_2).f1)
                        · rw [if_pos c18] at H
                          have c18b0 : decide (0 ≤ ((rd_T39 l1 x9_2).f1)) = true := decide_eq_true c18
                          clear c18
                          by_cases c19 : ((rd_T39 l1 x9_2).f1) < (x7_2.length : Int)
                          · rw [if_pos c19] at H
                            have c19b0 : decide (((rd_T39 l1 x9_2).f1) < (x7_2.length : Int)) = true := decide_eq_true c19
                            clear c19
                            have H' := Aside0.mk H
                            clear H
                            have p117 : 0 ≤ (x9_2 : Int) := of_decide_eq_true (by first | (with_reducible assumption) | assumption)
                            have q117 : x9_2 < (l1.length : Int) := of_decide_eq_true (by first | (with_reducible assumption) | assumption)
                            obtain ⟨ad117, e117, hx117_0, hx117_1, hx117_2⟩ := at_T39 HR1.out x9_2 p117 q117
                            cases e117
                            replace hx117_0 := (HB.out.cell (World.block_lt_of_cell? w _ hx117_0)).trans hx117_0
                            replace hx117_1 := (HB.out.cell (World.block_lt_of_cell? w _ hx117_1)).trans hx117_1
                            replace hx117_2 := (HB.out.cell (World.block_lt_of_cell? w _ hx117_2)).trans hx117_2
                            replace p117 := eq_true p117
                            replace q117 := eq_true q117
                            obtain ⟨Ao20, co20, eo20⟩ := Kd.R_slice HO_7.out
                            subst eo20
                            have p118 : 0 ≤ (((rd_T39 l1 x9_2).f0) : Int) := of_decide_eq_true (by first | (with_reducible assumption) | assumption)
                            have q118 : ((rd_T39 l1 x9_2).f0) < (x7_2.length : Int) := of_decide_eq_true (by first | (with_reducible assumption) | assumption)
                            obtain ⟨ad118, e118, hx118_0⟩ := Kd.at_int (Kd.R_reads' HO_7.out).2.2 ((rd_T39 l1 x9_2).f0) p118 q118
                            cases e118
                            replace p118 := eq_true p118
                            replace q118 := eq_true q118
                            have p119 : 0 ≤ (x9_2 : Int) := of_decide_eq_true (by first | (with_reducible assumption) | assumption)
                            have q119 : x9_2 < (l1.length : Int) := of_decide_eq_true (by first | (with_reducible assumption) | assumption)
                            obtain ⟨ad119, e119, hx119_0, hx119_1, hx119_2⟩ := at_T39 HR1.out x9_2 p119 q119
                            obtain rfl : ad117 = ad119 := (by injection e119)
                            replace hx119_0 := (HB.out.cell (World.block_lt_of_cell? w _ hx119_0)).trans hx119_0
                            replace hx119_1 := (HB.out.cell (World.block_lt_of_cell? w _ hx119_1)).trans hx119_1
                            replace hx119_2 := (HB.out.cell (World.block_lt_of_cell? w _ hx119_2)).trans hx119_2
                            replace p119 := eq_true p119
                            replace q119 := eq_true q119
                            have p120 : 0 ≤ (((rd_T39 l1 x9_2).f1) : Int) := of_decide_eq_true (by first | (with_reducible assumption) | assumption)
                            have q120 : ((rd_T39 l1 x9_2).f1) < (x7_2.length : Int) := of_decide_eq_true (by first | (with_reducible assumption) | assumption)
                            obtain ⟨ad120, e120, hx120_0⟩ := Kd.at_int (Kd.R_reads' HO_7.out).2.2 ((rd_T39 l1 x9_2).f1) p120 q120
                            obtain rfl : ad118 = ad120 := (by injection e120)
                            replace p120 := eq_true p120
                            replace q120 := eq_true q120
                            obtain ⟨go0_, co0_, eo0_, _, _, _, _⟩ := Kd.R_form HO_7.out (by have := of_eq_true p118; have := of_eq_true q118; omega)
                            (first | cases eo0_ | (injection eo0_ with ea_ en_ ec_; (first | subst ea_ | (injection ea_ with ea_; subst ea_)); subst ec_; clear en_))
                            (first | simp only [add_plain] at hx118_0 | skip)
                            (first | simp only [add_plain] at hx120_0 | skip)
                            go_wp2
                            repeat (go_quiet (fail); try go_wp2)
                            go_loopg [12] k2 (fun kq v12 w' => ∃ (x7_3 : List Int) (x12_3 : Int), v12 = .int .i64 x12_3 ∧ Aside0 (drovewayref09_groups.l2 kq a0 l1 a2 x7_3 x9_2 (rd x7_2 ((rd_T39 l1 x9_2).f0)) (rd x7_2 ((rd_T39 l1 x9_2).f1)) x12_3 = some r) ∧ Aside0 (kq ≤ k2) ∧ Aside0 (Kd.R (Kd.int .i64) 3 w' w.heap.size (fun _ => True) (.slice (some (⟨go0_, 0, none⟩ : Addr)) x7_2.length co20) x7_3) ∧ Aside0 (Below w.heap.size w w'))
                            case atStart => exact ⟨(x7_2), (0), (by first | rfl | (simp; done) | (simp [*]; done)), H', ⟨Nat.le_refl _⟩, ⟨by (with_reducible repeat (first | apply Kd.R_alloc | apply Kd.R_drewN | apply Kd.R_drew)); exact HO_7.out⟩, ⟨by repeat (first | (with_reducible first | exact HB.out | apply below_alloc | apply pw_below_drewN | apply below_drew1) | exact HB.out)⟩⟩
                            case round =>
                              clear H'
                              try clear c1
                              try clear p1
                              try clear q1
                              try clear hx1
                              try clear p2
                              try clear c4
                              try clear c4b0
                              try clear c4b1
                              try clear c5
                              try clear c5b0
                              try clear c5b1
                              try clear p6
                              try clear c8
                              try clear c8b0
                              try clear c9
                              try clear c9b0
                              try clear c10
                              try clear c10b0
                              try clear p11
                              try clear q11
                              try clear hx11
                              try clear hf11
                              try clear p12
                              try clear q12
                              try clear hx12
                              try clear c14
                              try clear c14b0
                              try clear c15
                              try clear c15b0
                              try clear c16
                              try clear c16b0
                              try clear c17
                              try clear c17b0
                              try clear c18
                              try clear c18b0
                              try clear c19
                              try clear c19b0
                              try clear hx117_0
                              try clear hx117_1
                              try clear hx117_2
                              try clear hx118_0
                              try clear hx119_0
                              try clear hx119_1
                              try clear hx119_2
                              try clear hx11_0
                              try clear hx120_0
                              try clear p1
                              try clear p11
                              try clear p117
                              try clear p118
                              try clear p119
                              try clear p120
                              try clear p2
                              try clear p6
                              try clear q1
                              try clear q11
                              try clear q117
                              try clear q118
                              try clear q119
                              try clear q120
                              obtain ⟨x7_3, x12_3, rfl, HA, HK3, HO_7, HB⟩ := hrel
                              have hl7_3 := (Kd.R_reads' HO_7.out).1
                              rw [hl7_3] at HO_7
                              (try simp only [hl7_3])
                              cases gk with
                              | zero => exact absurd HA.out (by simp [drovewayref09_groups.l2])
                              | succ k3 =>
                                have H := HA.out
                                clear HA
                                simp only [drovewayref09_groups.l2] at H
                                have HC21 := Aside0.mk H
                                clear H
                                go_upto_region 11 with (fail)
                                repeat (go_quiet (fail); go_upto_region 11 with (fail))
                                go_cut [64] (fun v64 wc => ∃ (kq : Nat) (x64_20 : Bool), v64 = .bool x64_20 ∧ Aside0 (drovewayref09_groups.j3 kq a0 l1 a2 x7_3 x9_2 (rd x7_2 ((rd_T39 l1 x9_2).f0)) (rd x7_2 ((rd_T39 l1 x9_2).f1)) x12_3 x64_20 = some r) ∧ Aside0 (kq ≤ k3) ∧ Aside0 (Kd.R (Kd.int .i64) 3 wc w.heap.size (fun _ => True) (.slice (some (⟨go0_, 0, none⟩ : Addr)) x7_3.length co20) x7_3) ∧ Aside0 (Below w.heap.size w wc))
                                case first =>
                                  have H := HC21.out
                                  clear HC21
                                  by_cases c22 : x12_3 < a0
                                  · rw [if_pos c22] at H
                                    have c22b0 : decide (x12_3 < a0) = true := decide_eq_true c22
                                    clear c22
                                    (first | rw [c22b0] | (simp only [i64_w, i32_w]; rw [c22b0]) | skip)
                                    by_cases c23 : a2 = true
                                    · subst c23
                                      have H1 : (if 0 ≤ x9_2 then (if x9_2 < (l1.length : Int) then (drovewayref09_groups.j3 k3 a0 l1 true x7_3 x9_2 (rd x7_2 ((rd_T39 l1 x9_2).f0)) (rd x7_2 ((rd_T39 l1 x9_2).f1)) x12_3 (!((rd_T39 l1 x9_2).f2))) else (none)) else (none)) = some r := by rw [if_pos rfl] at H; exact H
                                      clear H
                                      have H := H1
                                      clear H1
                                      by_cases c24 : 0 ≤ x9_2
                                      · rw [if_pos c24] at H
                                        have c24b0 : decide (0 ≤ x9_2) = true := decide_eq_true c24
                                        clear c24
                                        by_cases c25 : x9_2 < (l1.length : Int)
                                        · rw [if_pos c25] at H
                                          have c25b0 : decide (x9_2 < (l1.length : Int)) = true := decide_eq_true c25
                                          clear c25
                                          have H' := Aside0.mk H
                                          clear H
                                          have p121 : 0 ≤ (x9_2 : Int) := of_decide_eq_true (by first | (with_reducible assumption) | assumption)
                                          have q121 : x9_2 < (l1.length : Int) := of_decide_eq_true (by first | (with_reducible assumption) | assumption)
                                          obtain ⟨ad121, e121, hx121_0, hx121_1, hx121_2⟩ := at_T39 HR1.out x9_2 p121 q121
                                          obtain rfl : ad117 = ad121 := (by injection e121)
                                          replace hx121_0 := (HB.out.cell (World.block_lt_of_cell? w _ hx121_0)).trans hx121_0
                                          replace hx121_1 := (HB.out.cell (World.block_lt_of_cell? w _ hx121_1)).trans hx121_1
                                          replace hx121_2 := (HB.out.cell (World.block_lt_of_cell? w _ hx121_2)).trans hx121_2
                                          replace p121 := eq_true p121
                                          replace q121 := eq_true q121
                                          go_wp2
                                          repeat (go_quiet (fail); try go_wp2)
                                          go_meet
                                          case rel => exact ⟨_, (!((rd_T39 l1 x9_2).f2)), (by first | rfl | (simp; done) | (simp [*]; done)), H', ⟨by have := HK1.out; have := HK2.out; have := HK3.out; first | omega | exact Nat.le_refl _⟩, ⟨by (try simp only [hl7_3]); (with_reducible repeat (first | apply Kd.R_alloc | apply Kd.R_drewN | apply Kd.R_drew)); exact HO_7.out⟩, ⟨by repeat (first | (with_reducible first | exact HB.out | apply below_alloc | apply pw_below_drewN | apply below_drew1) | exact HB.out)⟩⟩
                                        · rw [if_neg c25] at H
                                          exact absurd H (by simp)
                                      · rw [if_neg c24] at H
                                        exact absurd H (by simp)
                                    · replace c23 := Bool.eq_false_iff.mpr c23
                                      subst c23
                                      have H1 : (drovewayref09_groups.j3 k3 a0 l1 false x7_3 x9_2 (rd x7_2 ((rd_T39 l1 x9_2).f0)) (rd x7_2 ((rd_T39 l1 x9_2).f1)) x12_3 true) = some r := by rw [if_neg (show ¬ (false = true) by decide)] at H; exact H
                                      clear H
                                      have H := H1
                                      clear H1
                                      have H' := Aside0.mk H
                                      clear H
                                      go_wp2
                                      repeat (go_quiet (fail); try go_wp2)
                                      go_meet
                                      case rel => exact ⟨_, (true), (by first | rfl | (simp; done) | (simp [*]; done)), H', ⟨by have := HK1.out; have := HK2.out; have := HK3.out; first | omega | exact Nat.le_refl _⟩, ⟨by (try simp only [hl7_3]); (with_reducible repeat (first | apply Kd.R_alloc | apply Kd.R_drewN | apply Kd.R_drew)); exact HO_7.out⟩, ⟨by repeat (first | (with_reducible first | exact HB.out | apply below_alloc | apply pw_below_drewN | apply below_drew1) | exact HB.out)⟩⟩
                                  · rw [if_neg c22] at H
                                    have c22b0 : decide (x12_3 < a0) = false := decide_eq_false c22
                                    clear c22
                                    (first | rw [c22b0] | (simp only [i64_w, i32_w]; rw [c22b0]) | skip)
                                    have H' := Aside0.mk H
                                    clear H
                                    go_wp2
                                    repeat (go_quiet (fail); try go_wp2)
                                    go_meet
                                    case rel => exact ⟨_, (false), (by first | rfl | (simp; done) | (simp [*]; done)), H', ⟨by have := HK1.out; have := HK2.out; have := HK3.out; first | omega | exact Nat.le_refl _⟩, ⟨by (try simp only [hl7_3]); (with_reducible repeat (first | apply Kd.R_alloc | apply Kd.R_drewN | apply Kd.R_drew)); exact HO_7.out⟩, ⟨by repeat (first | (with_reducible first | exact HB.out | apply below_alloc | apply pw_below_drewN | apply below_drew1) | exact HB.out)⟩⟩
                                case rest =>
                                  clear HC21
                                  try clear c1
                                  try clear p1
                                  try clear q1
                                  try clear hx1
                                  try clear c2
                                  try clear p2
                                  try clear c4
                                  try clear c4b0
                                  try clear c4b1
                                  try clear c5
                                  try clear c5b0
                                  try clear c5b1
                                  try clear p6
                                  try clear c8
                                  try clear c8b0
                                  try clear c9
                                  try clear c9b0
                                  try clear c10
                                  try clear c10b0
                                  try clear p11
                                  try clear q11
                                  try clear hx11
                                  try clear hf11
                                  try clear p12
                                  try clear q12
                                  try clear hx12
                                  try clear c14
                                  try clear c14b0
                                  try clear c15
                                  try clear c15b0
                                  try clear c16
                                  try clear c16b0
                                  try clear c17
                                  try clear c17b0
                                  try clear c18
                                  try clear c18b0
                                  try clear c19
                                  try clear c19b0
                                  try clear c22
                                  try clear c22b0
                                  try clear c23
                                  try clear c24
                                  try clear c24b0
                                  try clear c25
                                  try clear c25b0
                                  try clear hx117_0
                                  try clear hx117_1
                                  try clear hx117_2
                                  try clear hx118_0
                                  try clear hx119_0
                                  try clear hx119_1
                                  try clear hx119_2
                                  try clear hx11_0
                                  try clear hx120_0
                                  try clear hx121_0
                                  try clear hx121_1
                                  try clear hx121_2
                                  try clear p1
                                  try clear p11
                                  try clear p117
                                  try clear p118
                                  try clear p119
                                  try clear p12
                                  try clear p120
                                  try clear p121
                                  try clear p2
                                  try clear p6
                                  try clear q1
                                  try clear q11
                                  try clear q117
                                  try clear q118
                                  try clear q119
                                  try clear q12
                                  try clear q120
                                  try clear q121
                                  obtain ⟨kq, x64_20, rfl, HA, HJ20, HO_7, HB⟩ := hcut
                                  cases kq with
                                  | zero => exact absurd HA.out (by simp [drovewayref09_groups.j3])
                                  | succ kj20 =>
                                    have H := HA.out
                                    clear HA
                                    simp only [drovewayref09_groups.j3] at H
                                    by_cases c26 : x64_20 = true
                                    · subst c26
                                      have H1 : (if 0 ≤ x12_3 then (if x12_3 < (x7_3.length : Int) then (if (rd x7_3 x12_3) = (mx (rd x7_2 ((rd_T39 l1 x9_2).f0)) (rd x7_2 ((rd_T39 l1 x9_2).f1))) then (drovewayref09_groups.l2 kj20 a0 l1 a2 (x7_3.set (x12_3 : Int).toNat (mn (rd x7_2 ((rd_T39 l1 x9_2).f0)) (rd x7_2 ((rd_T39 l1 x9_2).f1)))) x9_2 (rd x7_2 ((rd_T39 l1 x9_2).f0)) (rd x7_2 ((rd_T39 l1 x9_2).f1)) (wrap64 (x12_3 + 1))) else (drovewayref09_groups.l2 kj20 a0 l1 a2 x7_3 x9_2 (rd x7_2 ((rd_T39 l1 x9_2).f0)) (rd x7_2 ((rd_T39 l1 x9_2).f1)) (wrap64 (x12_3 + 1)))) else (none)) else (none)) = some r := by rw [if_pos rfl] at H; exact H
                                      clear H
                                      have H := H1
                                      clear H1
                                      by_cases c27 : 0 ≤ x12_3
                                      · rw [if_pos c27] at H
                                        have c27b0 : decide (0 ≤ x12_3) = true := decide_eq_true c27
                                        clear c27
                                        by_cases c28 : x12_3 < (x7_3.length : Int)
                                        · rw [if_pos c28] at H
                                          have c28b0 : decide (x12_3 < (x7_3.length : Int)) = true := decide_eq_true c28
                                          clear c28
                                          obtain ⟨ji29, hji29⟩ : ∃ j_ : Int, (mx (rd x7_2 ((rd_T39 l1 x9_2).f0)) (rd x7_2 ((rd_T39 l1 x9_2).f1))) = j_ := ⟨_, rfl⟩
                                          replace H : (if (rd x7_3 x12_3) = (ji29) then (drovewayref09_groups.l2 kj20 a0 l1 a2 (x7_3.set (x12_3 : Int).toNat (mn (rd x7_2 ((rd_T39 l1 x9_2).f0)) (rd x7_2 ((rd_T39 l1 x9_2).f1)))) x9_2 (rd x7_2 ((rd_T39 l1 x9_2).f0)) (rd x7_2 ((rd_T39 l1 x9_2).f1)) (wrap64 (x12_3 + 1))) else (drovewayref09_groups.l2 kj20 a0 l1 a2 x7_3 x9_2 (rd x7_2 ((rd_T39 l1 x9_2).f0)) (rd x7_2 ((rd_T39 l1 x9_2).f1)) (wrap64 (x12_3 + 1)))) = some r := by first | (rw [hji29] at H; exact H) | (simp only [hji29] at H ⊢; exact H)
                                          have hji29_ : (if (rd x7_2 ((rd_T39 l1 x9_2).f0)) < (rd x7_2 ((rd_T39 l1 x9_2).f1)) then (rd x7_2 ((rd_T39 l1 x9_2).f1)) else (rd x7_2 ((rd_T39 l1 x9_2).f0))) = ji29 := hji29
                                          by_cases c30 : (rd x7_3 x12_3) = (ji29)
                                          · rw [if_pos c30] at H
                                            have c30b0 : ((rd x7_3 x12_3) == (ji29)) = true := beq_iff_eq.mpr c30
                                            have c30b1 : ((rd x7_3 x12_3) != (ji29)) = false := bne_eq_false_iff_eq.mpr c30
                                            clear c30
                                            obtain ⟨ji31, hji31⟩ : ∃ j_ : Int, (mn (rd x7_2 ((rd_T39 l1 x9_2).f0)) (rd x7_2 ((rd_T39 l1 x9_2).f1))) = j_ := ⟨_, rfl⟩
                                            replace H : (drovewayref09_groups.l2 kj20 a0 l1 a2 (x7_3.set (x12_3 : Int).toNat (ji31)) x9_2 (rd x7_2 ((rd_T39 l1 x9_2).f0)) (rd x7_2 ((rd_T39 l1 x9_2).f1)) (wrap64 (x12_3 + 1))) = some r := by first | (rw [hji31] at H; exact H) | (simp only [hji31] at H ⊢; exact H)
                                            have hji31_ : (if (rd x7_2 ((rd_T39 l1 x9_2).f1)) < (rd x7_2 ((rd_T39 l1 x9_2).f0)) then (rd x7_2 ((rd_T39 l1 x9_2).f1)) else (rd x7_2 ((rd_T39 l1 x9_2).f0))) = ji31 := hji31
                                            obtain ⟨y123, hy123⟩ : ∃ y_ : List Int, y_ = (x7_3.set (x12_3 : Int).toNat (ji31)) := ⟨_, rfl⟩
                                            replace H : (drovewayref09_groups.l2 kj20 a0 l1 a2 y123 x9_2 (rd x7_2 ((rd_T39 l1 x9_2).f0)) (rd x7_2 ((rd_T39 l1 x9_2).f1)) (wrap64 (x12_3 + 1))) = some r := by first | (rw [hy123]; with_reducible exact H) | (have H2_ := (Option.bind_some _ _).symm.trans H; rw [hy123]; with_reducible exact H2_) | (have H2_ := (Option.bind_some _ _).symm.trans H; with_reducible exact H2_) | with_reducible exact H | (rw [hy123]; exact H) | exact H
                                            have Ny123 := Aside0.mk hy123
                                            clear hy123
                                            have H' := Aside0.mk H
                                            clear H
                                            have p122 : 0 ≤ (x12_3 : Int) := of_decide_eq_true (by first | (with_reducible assumption) | assumption)
                                            have q122 : x12_3 < (x7_3.length : Int) := of_decide_eq_true (by first | (with_reducible assumption) | assumption)
                                            obtain ⟨ad122, e122, hx122_0⟩ := Kd.at_int (Kd.R_reads' HO_7.out).2.2 x12_3 p122 q122
                                            obtain rfl : (⟨go0_, 0, none⟩ : Addr) = ad122 := (by injection e122)
                                            (first | simp only [add_plain] at hx122_0 | skip)
                                            replace p122 := eq_true p122
                                            replace q122 := eq_true q122
                                            have p32 : 0 ≤ (x12_3 : Int) := of_decide_eq_true (by first | (with_reducible assumption) | assumption)
                                            have q32 : (x12_3 : Int) < ((x7_3.length : Int) : Int) := of_decide_eq_true (by first | (with_reducible assumption) | assumption)
                                            obtain ⟨go32, co32, eo32, gb32, gl32, cl32, HG32⟩ := Kd.R_form HO_7.out (by omega)
                                            (first | cases eo32 | (injection eo32 with ea_ en_ ec_; (first | subst ea_ | (injection ea_ with ea_; subst ea_)); subst ec_; clear en_))
                                            have GB32 := Aside0.mk gb32
                                            have GG32 := Aside0.mk HG32
                                            clear gb32 gl32 HG32
                                            (first | simp only [add_plain] at hx118_0 | skip)
                                            (first | simp only [add_plain] at hx120_0 | skip)
                                            (first | simp only [add_plain] at hx122_0 | skip)
                                            obtain ⟨hx32_0, hf32_0⟩ := Kd.R_celln 0 HO_7.out (x12_3 : Int) p32 q32
                                            replace p32 := eq_true p32
                                            replace q32 := eq_true q32
                                            have HP33 := Kd.R_putg HO_7.out (x12_3 : Int) ji31
                                            go_wp2_with (first | ((with_reducible refine gate_store (t := 3) (p := 80) rfl ?_); (try (rw [drewN_self wc]; generalize hq_ : World.drewN wc _ = wc; have n0_ := Aside0.mk (Kd.R_at hq_ HO_7.out); have n1_ := Aside0.mk (below_at hq_ HB.out); clear hq_ HO_7 HB; have HO_7 := n0_; have HB := n1_; clear n0_ n1_; (try (have HP33 := Kd.R_putg HO_7.out (x12_3 : Int) ji31)))); refine store_event (t := 3) (p := 80) (v := ?vo_w34) (w1 := (wc.setCell ⟨go0_, (x12_3 : Int).toNat, none⟩ (.int .i64 ji31))) ?hg ?ho ?hn ?hr ?_; (case ho => rfl); (case hg => rfl); (case hn => rfl); (case hr => first | (go_simp; done) | (go_simp; rfl)); intro w34 hw; have hg : wc.grownBy w34 (some go0_) := (by rw [hw]; exact HP33.2); have hp_ : Kd.R (Kd.int .i64) 3 w34 w.heap.size (fun _ => True) (.slice (some ⟨go0_, 0, none⟩) x7_3.length co20) y123 := (by rw [hw, Ny123.out]; exact HP33.1); clear HP33; have n0_ := Aside0.mk (hp_); have n1_ := Aside0.mk ((by rw [hw]; exact below_set (HB.out) GB32.out : Below w.heap.size w w34)); clear HO_7; clear HB; have HO_7 := n0_; have HB := n1_; clear n0_ n1_; clear hg hw hp_))
                                            repeat (go_quiet (first | ((with_reducible refine gate_store (t := 3) (p := 80) rfl ?_); (try (rw [drewN_self wc]; generalize hq_ : World.drewN wc _ = wc; have n0_ := Aside0.mk (Kd.R_at hq_ HO_7.out); have n1_ := Aside0.mk (below_at hq_ HB.out); clear hq_ HO_7 HB; have HO_7 := n0_; have HB := n1_; clear n0_ n1_; (try (have HP33 := Kd.R_putg HO_7.out (x12_3 : Int) ji31)))); refine store_event (t := 3) (p := 80) (v := ?vo_w34) (w1 := (wc.setCell ⟨go0_, (x12_3 : Int).toNat, none⟩ (.int .i64 ji31))) ?hg ?ho ?hn ?hr ?_; (case ho => rfl); (case hg => rfl); (case hn => rfl); (case hr => first | (go_simp; done) | (go_simp; rfl)); intro w34 hw; have hg : wc.grownBy w34 (some go0_) := (by rw [hw]; exact HP33.2); have hp_ : Kd.R (Kd.int .i64) 3 w34 w.heap.size (fun _ => True) (.slice (some ⟨go0_, 0, none⟩) x7_3.length co20) y123 := (by rw [hw, Ny123.out]; exact HP33.1); clear HP33; have n0_ := Aside0.mk (hp_); have n1_ := Aside0.mk ((by rw [hw]; exact below_set (HB.out) GB32.out : Below w.heap.size w w34)); clear HO_7; clear HB; have HO_7 := n0_; have HB := n1_; clear n0_ n1_; clear hg hw hp_)); try go_wp2_with (first | ((with_reducible refine gate_store (t := 3) (p := 80) rfl ?_); (try (rw [drewN_self wc]; generalize hq_ : World.drewN wc _ = wc; have n0_ := Aside0.mk (Kd.R_at hq_ HO_7.out); have n1_ := Aside0.mk (below_at hq_ HB.out); clear hq_ HO_7 HB; have HO_7 := n0_; have HB := n1_; clear n0_ n1_; (try (have HP33 := Kd.R_putg HO_7.out (x12_3 : Int) ji31)))); refine store_event (t := 3) (p := 80) (v := ?vo_w34) (w1 := (wc.setCell ⟨go0_, (x12_3 : Int).toNat, none⟩ (.int .i64 ji31))) ?hg ?ho ?hn ?hr ?_; (case ho => rfl); (case hg => rfl); (case hn => rfl); (case hr => first | (go_simp; done) | (go_simp; rfl)); intro w34 hw; have hg : wc.grownBy w34 (some go0_) := (by rw [hw]; exact HP33.2); have hp_ : Kd.R (Kd.int .i64) 3 w34 w.heap.size (fun _ => True) (.slice (some ⟨go0_, 0, none⟩) x7_3.length co20) y123 := (by rw [hw, Ny123.out]; exact HP33.1); clear HP33; have n0_ := Aside0.mk (hp_); have n1_ := Aside0.mk ((by rw [hw]; exact below_set (HB.out) GB32.out : Below w.heap.size w w34)); clear HO_7; clear HB; have HO_7 := n0_; have HB := n1_; clear n0_ n1_; clear hg hw hp_)))
                                            (try simp only [← hl7_3])
                                            go_roundg kj20
                                            case measure => have := HK1.out; have := HK2.out; have := HK3.out; have := HJ20.out; omega
                                            case rel => exact ⟨(y123), (wrap64 (x12_3 + 1)), (by first | rfl | (simp; done) | (simp [*]; done)), H', ⟨by have := HK1.out; have := HK2.out; have := HK3.out; have := HJ20.out; omega⟩, ⟨by (try simp only [hl7_3]); (with_reducible repeat (first | apply Kd.R_alloc | apply Kd.R_drewN | apply Kd.R_drew)); exact HO_7.out⟩, ⟨by repeat (first | (with_reducible first | exact HB.out | apply below_alloc | apply pw_below_drewN | apply below_drew1) | exact HB.out)⟩⟩
                                          · rw [if_neg c30] at H
                                            have c30b0 : ((rd x7_3 x12_3) == (ji29)) = false := beq_eq_false_iff_ne.mpr c30
                                            have c30b1 : ((rd x7_3 x12_3) != (ji29)) = true := bne_iff_ne.mpr c30
                                            have H' := Aside0.mk H
                                            clear H
                                            have p122 : 0 ≤ (x12_3 : Int) := of_decide_eq_true (by first | (with_reducible assumption) | assumption)
                                            have q122 : x12_3 < (x7_3.length : Int) := of_decide_eq_true (by first | (with_reducible assumption) | assumption)
                                            obtain ⟨ad122, e122, hx122_0⟩ := Kd.at_int (Kd.R_reads' HO_7.out).2.2 x12_3 p122 q122
                                            obtain rfl : (⟨go0_, 0, none⟩ : Addr) = ad122 := (by injection e122)
                                            (first | simp only [add_plain] at hx122_0 | skip)
                                            replace p122 := eq_true p122
                                            replace q122 := eq_true q122
                                            go_wp2
                                            repeat (go_quiet (fail); try go_wp2)
                                            (try simp only [← hl7_3])
                                            go_roundg kj20
                                            case measure => have := HK1.out; have := HK2.out; have := HK3.out; have := HJ20.out; omega
                                            case rel => exact ⟨(x7_3), (wrap64 (x12_3 + 1)), (by first | rfl | (simp; done) | (simp [*]; done)), H', ⟨by have := HK1.out; have := HK2.out; have := HK3.out; have := HJ20.out; omega⟩, ⟨by (try simp only [hl7_3]); (with_reducible repeat (first | apply Kd.R_alloc | apply Kd.R_drewN | apply Kd.R_drew)); exact HO_7.out⟩, ⟨by repeat (first | (with_reducible first | exact HB.out | apply below_alloc | apply pw_below_drewN | apply below_drew1) | exact HB.out)⟩⟩
                                        · rw [if_neg c28] at H
                                          exact absurd H (by simp)
                                      · rw [if_neg c27] at H
                                        exact absurd H (by simp)
                                    · replace c26 := Bool.eq_false_iff.mpr c26
                                      subst c26
                                      have H1 : (drovewayref09_groups.l1 kj20 a0 l1 a2 x7_3 (wrap64 (x9_2 + 1))) = some r := by rw [if_neg (show ¬ (false = true) by decide)] at H; exact H
                                      clear H
                                      have H := H1
                                      clear H1
                                      have H' := Aside0.mk H
                                      clear H
                                      go_wp2
                                      repeat (go_quiet (fail); try go_wp2)
                                      (try simp only [← hl7_3])
                                      go_roundg kj20
                                      case measure => have := HK1.out; have := HK2.out; have := HK3.out; have := HJ20.out; omega
                                      case rel => exact ⟨(x7_3), (wrap64 (x9_2 + 1)), (by first | rfl | (simp; done) | (simp [*]; done)), H', ⟨by have := HK1.out; have := HK2.out; have := HK3.out; have := HJ20.out; omega⟩, ⟨by (try simp only [hl7_3]); (with_reducible repeat (first | apply Kd.R_alloc | apply Kd.R_drewN | apply Kd.R_drew)); exact HO_7.out⟩, ⟨by repeat (first | (with_reducible first | exact HB.out | apply below_alloc | apply pw_below_drewN | apply below_drew1) | exact HB.out)⟩⟩
                          · rw [if_neg c19] at H
                            exact absurd H (by simp)
                        · rw [if_neg c18] at H
                          exact absurd H (by simp)
                      · rw [if_neg c17] at H
                        exact absurd H (by simp)
                    · rw [if_neg c16] at H
                      exact absurd H (by simp)
                  · rw [if_neg c15] at H
                    exact absurd H (by simp)
                · rw [if_neg c14] at H
                  have c14b0 : decide (x9_2 < (l1.length : Int)) = false := decide_eq_false c14
                  clear c14
                  have H' := Aside0.mk H
                  clear H
                  go_wp2
                  repeat (go_quiet (fail); try go_wp2)
                  go_loopg [13, 14] k2 (fun kq v13 v14 w' => ∃ (x13_3 : List Int) (x14_3 : Int), v14 = .int .i64 x14_3 ∧ Aside0 (drovewayref09_groups.l3 kq a0 x7_2 x13_3 x14_3 = some r) ∧ Aside0 (kq ≤ k2) ∧ Aside0 (Kd.R (Kd.int .i64) 3 w' w.heap.size (fun k_ => some k_ ≠ (v13 : Value).ownBlock) v114 x7_2) ∧ Aside0 (Kd.R (Kd.int .i64) 3 w' w.heap.size (fun k_ => some k_ ≠ (v114 : Value).ownBlock) v13 x13_3) ∧ Aside0 (Below w.heap.size w w'))
                  case atStart => exact ⟨(([] : List Int)), (0), (by first | rfl | (simp; done) | (simp [*]; done)), H', ⟨Nat.le_refl _⟩, ⟨by (with_reducible repeat (first | apply Kd.R_alloc | apply Kd.R_drewN | apply Kd.R_drew)); exact Kd.R_mono HO_7.out (fun _ hk => (by simp [Value.ownBlock]))⟩, ⟨by first | exact Kd.R_nil _ _ _ _ _ | exact Kd.N_nil _ _ _ _ _ | exact Kd.V_nil _ _ _ _ _ | exact Kd.Q_nil _ _ _ _ _ | exact Kd.S_nil _ _ _ _ _⟩, ⟨by repeat (first | (with_reducible first | exact HB.out | apply below_alloc | apply pw_below_drewN | apply below_drew1) | exact HB.out)⟩⟩
                  case round =>
                    clear H'
                    try clear c1
                    try clear p1
                    try clear q1
                    try clear hx1
                    try clear c2
                    try clear p2
                    try clear c3
                    try clear p3
                    try clear q3
                    try clear hx3
                    try clear hf3
                    try clear c4
                    try clear c4b0
                    try clear c4b1
                    try clear c5
                    try clear c5b0
                    try clear c5b1
                    try clear p6
                    try clear c8
                    try clear c8b0
                    try clear c9
                    try clear c9b0
                    try clear c10
                    try clear c10b0
                    try clear p11
                    try clear q11
                    try clear hx11
                    try clear hf11
                    try clear p12
                    try clear q12
                    try clear hx12
                    try clear c14
                    try clear c14b0
                    try clear c15
                    try clear c15b0
                    try clear c16
                    try clear c16b0
                    try clear c17
                    try clear c17b0
                    try clear c18
                    try clear c18b0
                    try clear c19
                    try clear c19b0
                    try clear c22
                    try clear c22b0
                    try clear c23
                    try clear c24
                    try clear c24b0
                    try clear c25
                    try clear c25b0
                    try clear c26
                    try clear c27
                    try clear c27b0
                    try clear c28
                    try clear c28b0
                    try clear c30
                    try clear c30b0
                    try clear c30b1
                    try clear p32
                    try clear q32
                    try clear hx32
                    try clear hf32
                    try clear hx117_0
                    try clear hx117_1
                    try clear hx117_2
                    try clear hx118_0
                    try clear hx119_0
                    try clear hx119_1
                    try clear hx119_2
                    try clear hx11_0
                    try clear hx120_0
                    try clear hx121_0
                    try clear hx121_1
                    try clear hx121_2
                    try clear hx122_0
                    try clear hx32_0
                    try clear p1
                    try clear p11
                    try clear p117
                    try clear p118
                    try clear p119
                    try clear p12
                    try clear p120
                    try clear p121
                    try clear p122
                    try clear p2
                    try clear p32
                    try clear p6
                    try clear q1
                    try clear q11
                    try clear q117
                    try clear q118
                    try clear q119
                    try clear q12
                    try clear q120
                    try clear q121
                    try clear q122
                    try clear q32
                    obtain ⟨x13_3, x14_3, rfl, HA, HK3, HO_7, HO_13, HB⟩ := hrel
                    cases gk with
                    | zero => exact absurd HA.out (by simp [drovewayref09_groups.l3])
                    | succ k3 =>
                      have H := HA.out
                      clear HA
                      simp only [drovewayref09_groups.l3] at H
                      by_cases c35 : x14_3 < a0
                      · rw [if_pos c35] at H
                        have c35b0 : decide (x14_3 < a0) = true := decide_eq_true c35
                        clear c35
                        have H' := Aside0.mk H
                        clear H
                        go_wp2
                        repeat (go_quiet (fail); try go_wp2)
                        go_loopg [15, 16] k3 (fun kq v15 v16 w' => ∃ (x15_4 : Int) (x16_4 : Int), v15 = .int .i64 x15_4 ∧ v16 = .int .i64 x16_4 ∧ Aside0 (drovewayref09_groups.l4 kq a0 x7_2 x13_3 x14_3 x15_4 x16_4 = some r) ∧ Aside0 (kq ≤ k3) ∧ Aside0 (Kd.R (Kd.int .i64) 3 w' w.heap.size (fun k_ => some k_ ≠ (u13 : Value).ownBlock) v114 x7_2) ∧ Aside0 (Kd.R (Kd.int .i64) 3 w' w.heap.size (fun k_ => some k_ ≠ (v114 : Value).ownBlock) u13 x13_3) ∧ Aside0 (Below w.heap.size w w'))
                        case atStart => exact ⟨(0), (x14_3), (by first | rfl | (simp; done) | (simp [*]; done)), (by first | rfl | (simp; done) | (simp [*]; done)), H', ⟨Nat.le_refl _⟩, ⟨by (with_reducible repeat (first | apply Kd.R_alloc | apply Kd.R_drewN | apply Kd.R_drew)); exact HO_7.out⟩, ⟨by (with_reducible repeat (first | apply Kd.R_alloc | apply Kd.R_drewN | apply Kd.R_drew)); exact HO_13.out⟩, ⟨by repeat (first | (with_reducible first | exact HB.out | apply below_alloc | apply pw_below_drewN | apply below_drew1) | exact HB.out)⟩⟩
                        case round =>
                          clear H'
                          try clear c1
                          try clear p1
                          try clear q1
                          try clear hx1
                          try clear c2
                          try clear p2
                          try clear c3
                          try clear p3
                          try clear q3
                          try clear hx3
                          try clear hf3
                          try clear c4
                          try clear c4b0
                          try clear c4b1
                          try clear c5
                          try clear c5b0
                          try clear c5b1
                          try clear p6
                          try clear c8
                          try clear c8b0
                          try clear c9
                          try clear c9b0
                          try clear c10
                          try clear c10b0
                          try clear p11
                          try clear q11
                          try clear hx11
                          try clear hf11
                          try clear p12
                          try clear q12
                          try clear hx12
                          try clear c14
                          try clear c14b0
                          try clear c15
                          try clear c15b0
                          try clear c16
                          try clear c16b0
                          try clear c17
                          try clear c17b0
                          try clear c18
                          try clear c18b0
                          try clear c19
                          try clear c19b0
                          try clear c22
                          try clear c22b0
                          try clear c23
                          try clear c24
                          try clear c24b0
                          try clear c25
                          try clear c25b0
                          try clear c26
                          try clear c27
                          try clear c27b0
                          try clear c28
                          try clear c28b0
                          try clear c30
                          try clear c30b0
                          try clear c30b1
                          try clear p32
                          try clear q32
                          try clear hx32
                          try clear hf32
                          try clear c35
                          try clear c35b0
                          try clear hx117_0
                          try clear hx117_1
                          try clear hx117_2
                          try clear hx118_0
                          try clear hx119_0
                          try clear hx119_1
                          try clear hx119_2
                          try clear hx11_0
                          try clear hx120_0
                          try clear hx121_0
                          try clear hx121_1
                          try clear hx121_2
                          try clear hx122_0
                          try clear hx32_0
                          try clear p1
                          try clear p11
                          try clear p117
                          try clear p118
                          try clear p119
                          try clear p12
                          try clear p120
                          try clear p121
                          try clear p122
                          try clear p2
                          try clear p3
                          try clear p32
                          try clear p6
                          try clear q1
                          try clear q11
                          try clear q117
                          try clear q118
                          try clear q119
                          try clear q12
                          try clear q120
                          try clear q121
                          try clear q122
                          try clear q3
                          try clear q32
                          obtain ⟨x15_4, x16_4, rfl, rfl, HA, HK4, HO_7, HO_13, HB⟩ := hrel
                          cases gk with
                          | zero => exact absurd HA.out (by simp [drovewayref09_groups.l4])
                          | succ k4 =>
                            have H := HA.out
                            clear HA
                            simp only [drovewayref09_groups.l4] at H
                            by_cases c36 : x16_4 < a0
                            · rw [if_pos c36] at H
                              have c36b0 : decide (x16_4 < a0) = true := decide_eq_true c36
                              clear c36
                              by_cases c37 : 0 ≤ x16_4
                              · rw [if_pos c37] at H
                                have c37b0 : decide (0 ≤ x16_4) = true := decide_eq_true c37
                                clear c37
                                by_cases c38 : x16_4 < (x7_2.length : Int)
                                · rw [if_pos c38] at H
                                  have c38b0 : decide (x16_4 < (x7_2.length : Int)) = true := decide_eq_true c38
                                  clear c38
                                  by_cases c39 : (rd x7_2 x16_4) = x14_3
                                  · rw [if_pos c39] at H
                                    have c39b0 : ((rd x7_2 x16_4) == x14_3) = true := beq_iff_eq.mpr c39
                                    have c39b1 : ((rd x7_2 x16_4) != x14_3) = false := bne_eq_false_iff_eq.mpr c39
                                    clear c39
                                    have c40b0 := eq_true (of_decide_eq_true (by first | (with_reducible assumption) | assumption) : 0 ≤ x16_4)
                                    obtain ⟨ji41, hji41⟩ : ∃ j_ : Int, (shl .i64 1 x16_4) = j_ := ⟨_, rfl⟩
                                    replace H : (drovewayref09_groups.l4 k4 a0 x7_2 x13_3 x14_3 (wrap64 (x15_4 + (ji41))) (wrap64 (x16_4 + 1))) = some r := by first | (rw [hji41] at H; exact H) | (simp only [hji41] at H ⊢; exact H)
                                    have hji41_ : (IntKind.i64.wrap (1 * 2 ^ min x16_4.toNat 64)) = ji41 := hji41
                                    have hji41z : x16_4 ≤ 64 → (IntKind.i64.wrap (1 * 2 ^ x16_4.toNat)) = ji41 := shl_small hji41
                                    have hji41u : (IntKind.i64.wrap (2 ^ min x16_4.toNat 64)) = ji41 := by have h_ := hji41_; rw [Int.one_mul] at h_; exact h_
                                    have hji41v : x16_4 ≤ 64 → (IntKind.i64.wrap (2 ^ x16_4.toNat)) = ji41 := fun hle_ => by have h_ := hji41z hle_; rw [Int.one_mul] at h_; exact h_
                                    have hji41y : (wrap64 (1 * 2 ^ min x16_4.toNat 64)) = ji41 := (i64_w _).symm.trans hji41_
                                    have hji41x : x16_4 ≤ 64 → (wrap64 (1 * 2 ^ x16_4.toNat)) = ji41 := fun h_ => (i64_w _).symm.trans (hji41z h_)
                                    have H' := Aside0.mk H
                                    clear H
                                    obtain ⟨Ao42, co42, eo42⟩ := Kd.R_slice HO_7.out
                                    subst eo42
                                    have p124 : 0 ≤ (x16_4 : Int) := of_decide_eq_true (by first | (with_reducible assumption) | assumption)
                                    have q124 : x16_4 < (x7_2.length : Int) := of_decide_eq_true (by first | (with_reducible assumption) | assumption)
                                    obtain ⟨ad124, e124, hx124_0⟩ := Kd.at_int (Kd.R_reads' HO_7.out).2.2 x16_4 p124 q124
                                    cases e124
                                    replace p124 := eq_true p124
                                    replace q124 := eq_true q124
                                    go_wp2
                                    repeat (go_quiet (fail); try go_wp2)
                                    go_roundg k4
                                    case measure => have := HK1.out; have := HK2.out; have := HK3.out; have := HK4.out; omega
                                    case rel => exact ⟨(wrap64 (x15_4 + (ji41))), (wrap64 (x16_4 + 1)), (by first | rfl | (simp; done) | (simp only [← hji41] <;> (first | rfl | simp)) | (simp [*]; done)), (by first | rfl | (simp; done) | (simp [*]; done)), H', ⟨by have := HK1.out; have := HK2.out; have := HK3.out; have := HK4.out; omega⟩, ⟨by (with_reducible repeat (first | apply Kd.R_alloc | apply Kd.R_drewN | apply Kd.R_drew)); exact HO_7.out⟩, ⟨by (with_reducible repeat (first | apply Kd.R_alloc | apply Kd.R_drewN | apply Kd.R_drew)); exact HO_13.out⟩, ⟨by repeat (first | (with_reducible first | exact HB.out | apply below_alloc | apply pw_below_drewN | apply below_drew1) | exact HB.out)⟩⟩
                                  · rw [if_neg c39] at H
                                    have c39b0 : ((rd x7_2 x16_4) == x14_3) = false := beq_eq_false_iff_ne.mpr c39
                                    have c39b1 : ((rd x7_2 x16_4) != x14_3) = true := bne_iff_ne.mpr c39
                                    have H' := Aside0.mk H
                                    clear H
                                    obtain ⟨Ao43, co43, eo43⟩ := Kd.R_slice HO_7.out
                                    subst eo43
                                    have p124 : 0 ≤ (x16_4 : Int) := of_decide_eq_true (by first | (with_reducible assumption) | assumption)
                                    have q124 : x16_4 < (x7_2.length : Int) := of_decide_eq_true (by first | (with_reducible assumption) | assumption)
                                    obtain ⟨ad124, e124, hx124_0⟩ := Kd.at_int (Kd.R_reads' HO_7.out).2.2 x16_4 p124 q124
                                    cases e124
                                    replace p124 := eq_true p124
                                    replace q124 := eq_true q124
                                    go_wp2
                                    repeat (go_quiet (fail); try go_wp2)
                                    go_roundg k4
                                    case measure => have := HK1.out; have := HK2.out; have := HK3.out; have := HK4.out; omega
                                    case rel => exact ⟨(x15_4), (wrap64 (x16_4 + 1)), (by first | rfl | (simp; done) | (simp [*]; done)), (by first | rfl | (simp; done) | (simp [*]; done)), H', ⟨by have := HK1.out; have := HK2.out; have := HK3.out; have := HK4.out; omega⟩, ⟨by (with_reducible repeat (first | apply Kd.R_alloc | apply Kd.R_drewN | apply Kd.R_drew)); exact HO_7.out⟩, ⟨by (with_reducible repeat (first | apply Kd.R_alloc | apply Kd.R_drewN | apply Kd.R_drew)); exact HO_13.out⟩, ⟨by repeat (first | (with_reducible first | exact HB.out | apply below_alloc | apply pw_below_drewN | apply below_drew1) | exact HB.out)⟩⟩
                                · rw [if_neg c38] at H
                                  exact absurd H (by simp)
                              · rw [if_neg c37] at H
                                exact absurd H (by simp)
                            · rw [if_neg c36] at H
                              have c36b0 : decide (x16_4 < a0) = false := decide_eq_false c36
                              clear c36
                              by_cases c44 : x15_4 > 0
                              · rw [if_pos c44] at H
                                have c44b0 : decide (0 < x15_4) = true := decide_eq_true c44
                                clear c44
                                by_cases c45 : x13_3.length < 17592186044416
                                · rw [if_pos c45] at H
                                  have LMc45 := Aside0.mk c45
                                  clear c45
                                  obtain ⟨y125, hy125⟩ : ∃ y_ : List Int, y_ = (x13_3 ++ [x15_4]) := ⟨_, rfl⟩
                                  replace H : (drovewayref09_groups.l3 k4 a0 x7_2 y125 (wrap64 (x14_3 + 1))) = some r := by first | (rw [hy125]; with_reducible exact H) | (have H2_ := (Option.bind_some _ _).symm.trans H; rw [hy125]; with_reducible exact H2_) | (have H2_ := (Option.bind_some _ _).symm.trans H; with_reducible exact H2_) | with_reducible exact H | (rw [hy125]; exact H) | exact H
                                  have Ny125 := Aside0.mk hy125
                                  clear hy125
                                  have H' := Aside0.mk H
                                  clear H
                                  go_wp2_with (first | ((with_reducible refine gate_builtin (b := .append) (xs := #[.tmp 104, .tmp 106]) rfl ?_); at_builtin; refine Kd.R_append (Kd.int .i64) (w0 := w) w.heap.size rfl (.tmp 104) (.tmp 106) 28 3 (.int .i64 0) 8 rfl Try.underlying28 info3 rfl (by decide) (by omega) u13 x13_3 x15_4 [.int .i64 x15_4] (fun k_ => some k_ ≠ (v114 : Value).ownBlock) (fun _ => False) rfl rfl ?aP (fun _ hk => hk.elim) ?aF ?aO ?aB ?aS ?aL ?_; (case aP => exact rfl); (case aB => exact (by repeat (first | (with_reducible first | exact HB.out | apply below_alloc | apply pw_below_drewN | apply below_drew1) | exact HB.out))); (case aF => exact (fun k_ hk => Kd.fresh' (Kd.R_lt (by (with_reducible repeat (first | apply Kd.R_alloc | apply Kd.R_drewN | apply Kd.R_drew)); exact HO_7.out)) k_ hk)); (case aO => exact (by (with_reducible repeat (first | apply Kd.R_alloc | apply Kd.R_drewN | apply Kd.R_drew)); exact HO_13.out)); (case aS => exact (below_size (by repeat (first | (with_reducible first | exact HB.out | apply below_alloc | apply pw_below_drewN | apply below_drew1) | exact HB.out)))); (case aL => have := LMc45.out; omega); intro v126 w46 ho hb hg hat; rw [← Ny125.out] at ho; have n0_ := Aside0.mk (Kd.R_after (ok := (fun _ => True)) (by (with_reducible repeat (first | apply Kd.R_alloc | apply Kd.R_drewN | apply Kd.R_drew)); exact Kd.R_mono HO_7.out (fun _ hk => ⟨trivial, hk⟩)) hg hat); have n1_ := Aside0.mk (hb); have n2_ := Aside0.mk (ho); clear HO_7; clear HB; clear HO_13; have HO_7 := n0_; have HB := n1_; have HO127 := n2_; clear n0_ n1_ n2_; clear ho hb hg hat))
                                  repeat (go_quiet (first | ((with_reducible refine gate_builtin (b := .append) (xs := #[.tmp 104, .tmp 106]) rfl ?_); at_builtin; refine Kd.R_append (Kd.int .i64) (w0 := w) w.heap.size rfl (.tmp 104) (.tmp 106) 28 3 (.int .i64 0) 8 rfl Try.underlying28 info3 rfl (by decide) (by omega) u13 x13_3 x15_4 [.int .i64 x15_4] (fun k_ => some k_ ≠ (v114 : Value).ownBlock) (fun _ => False) rfl rfl ?aP (fun _ hk => hk.elim) ?aF ?aO ?aB ?aS ?aL ?_; (case aP => exact rfl); (case aB => exact (by repeat (first | (with_reducible first | exact HB.out | apply below_alloc | apply pw_below_drewN | apply below_drew1) | exact HB.out))); (case aF => exact (fun k_ hk => Kd.fresh' (Kd.R_lt (by (with_reducible repeat (first | apply Kd.R_alloc | apply Kd.R_drewN | apply Kd.R_drew)); exact HO_7.out)) k_ hk)); (case aO => exact (by (with_reducible repeat (first | apply Kd.R_alloc | apply Kd.R_drewN | apply Kd.R_drew)); exact HO_13.out)); (case aS => exact (below_size (by repeat (first | (with_reducible first | exact HB.out | apply below_alloc | apply pw_below_drewN | apply below_drew1) | exact HB.out)))); (case aL => have := LMc45.out; omega); intro v126 w46 ho hb hg hat; rw [← Ny125.out] at ho; have n0_ := Aside0.mk (Kd.R_after (ok := (fun _ => True)) (by (with_reducible repeat (first | apply Kd.R_alloc | apply Kd.R_drewN | apply Kd.R_drew)); exact Kd.R_mono HO_7.out (fun _ hk => ⟨trivial, hk⟩)) hg hat); have n1_ := Aside0.mk (hb); have n2_ := Aside0.mk (ho); clear HO_7; clear HB; clear HO_13; have HO_7 := n0_; have HB := n1_; have HO127 := n2_; clear n0_ n1_ n2_; clear ho hb hg hat)); try go_wp2_with (first | ((with_reducible refine gate_builtin (b := .append) (xs := #[.tmp 104, .tmp 106]) rfl ?_); at_builtin; refine Kd.R_append (Kd.int .i64) (w0 := w) w.heap.size rfl (.tmp 104) (.tmp 106) 28 3 (.int .i64 0) 8 rfl Try.underlying28 info3 rfl (by decide) (by omega) u13 x13_3 x15_4 [.int .i64 x15_4] (fun k_ => some k_ ≠ (v114 : Value).ownBlock) (fun _ => False) rfl rfl ?aP (fun _ hk => hk.elim) ?aF ?aO ?aB ?aS ?aL ?_; (case aP => exact rfl); (case aB => exact (by repeat (first | (with_reducible first | exact HB.out | apply below_alloc | apply pw_below_drewN | apply below_drew1) | exact HB.out))); (case aF => exact (fun k_ hk => Kd.fresh' (Kd.R_lt (by (with_reducible repeat (first | apply Kd.R_alloc | apply Kd.R_drewN | apply Kd.R_drew)); exact HO_7.out)) k_ hk)); (case aO => exact (by (with_reducible repeat (first | apply Kd.R_alloc | apply Kd.R_drewN | apply Kd.R_drew)); exact HO_13.out)); (case aS => exact (below_size (by repeat (first | (with_reducible first | exact HB.out | apply below_alloc | apply pw_below_drewN | apply below_drew1) | exact HB.out)))); (case aL => have := LMc45.out; omega); intro v126 w46 ho hb hg hat; rw [← Ny125.out] at ho; have n0_ := Aside0.mk (Kd.R_after (ok := (fun _ => True)) (by (with_reducible repeat (first | apply Kd.R_alloc | apply Kd.R_drewN | apply Kd.R_drew)); exact Kd.R_mono HO_7.out (fun _ hk => ⟨trivial, hk⟩)) hg hat); have n1_ := Aside0.mk (hb); have n2_ := Aside0.mk (ho); clear HO_7; clear HB; clear HO_13; have HO_7 := n0_; have HB := n1_; have HO127 := n2_; clear n0_ n1_ n2_; clear ho hb hg hat)))
                                  go_roundg k4
                                  case measure => have := HK1.out; have := HK2.out; have := HK3.out; have := HK4.out; omega
                                  case rel => exact ⟨(y125), (wrap64 (x14_3 + 1)), (by first | rfl | (simp; done) | (simp [*]; done)), H', ⟨by have := HK1.out; have := HK2.out; have := HK3.out; have := HK4.out; omega⟩, ⟨by (with_reducible repeat (first | apply Kd.R_alloc | apply Kd.R_drewN | apply Kd.R_drew)); exact Kd.R_mono HO_7.out (fun _ hk => hk.2)⟩, ⟨by (with_reducible repeat (first | apply Kd.R_alloc | apply Kd.R_drewN | apply Kd.R_drew)); exact HO127.out⟩, ⟨by repeat (first | (with_reducible first | exact HB.out | apply below_alloc | apply pw_below_drewN | apply below_drew1) | exact HB.out)⟩⟩
                                · rw [if_neg c45] at H
                                  exact absurd H (by simp)
                              · rw [if_neg c44] at H
                                have c44b0 : decide (0 < x15_4) = false := decide_eq_false c44
                                clear c44
                                have H' := Aside0.mk H
                                clear H
                                go_wp2
                                repeat (go_quiet (fail); try go_wp2)
                                go_roundg k4
                                case measure => have := HK1.out; have := HK2.out; have := HK3.out; have := HK4.out; omega
                                case rel => exact ⟨(x13_3), (wrap64 (x14_3 + 1)), (by first | rfl | (simp; done) | (simp [*]; done)), H', ⟨by have := HK1.out; have := HK2.out; have := HK3.out; have := HK4.out; omega⟩, ⟨by (with_reducible repeat (first | apply Kd.R_alloc | apply Kd.R_drewN | apply Kd.R_drew)); exact HO_7.out⟩, ⟨by (with_reducible repeat (first | apply Kd.R_alloc | apply Kd.R_drewN | apply Kd.R_drew)); exact HO_13.out⟩, ⟨by repeat (first | (with_reducible first | exact HB.out | apply below_alloc | apply pw_below_drewN | apply below_drew1) | exact HB.out)⟩⟩
                      · rw [if_neg c35] at H
                        have c35b0 : decide (x14_3 < a0) = false := decide_eq_false c35
                        clear c35
                        obtain rfl := Option.some.inj H
                        go_wp2
                        repeat (go_quiet (fail); try go_wp2)
                        go_ret
                        exact ⟨_, by first | rfl | (simp [errW_none, errW_some] <;> rfl) | (simp [*, errW_none, errW_some] <;> rfl), by (with_reducible repeat (first | apply Kd.R_alloc | apply Kd.R_drewN | apply Kd.R_drew)); exact Kd.R_mono HO_13.out (fun _ hk => trivial), by repeat (first | (with_reducible first | exact HB.out | apply below_alloc | apply pw_below_drewN | apply below_drew1) | exact HB.out)⟩
    · rw [if_neg c5] at H
      exact absurd H (by simp)
  · rw [if_neg c4] at H
    exact absurd H (by simp)

end
end Go.Proofs.Ytaegldcifhgnmaa.B

/- What the program returns for three drovers, all at feud. -/
namespace Go.Proofs.Ytaegldcifhgnmaa.A
open Go.RowKit Go.Proofs.YtaegldcifhgnmaaW.PrintWords Go.Proofs.YtaegldcifhgnmaaW.PrintMore

def threeL : List S39 := [⟨0, 1, true⟩, ⟨0, 2, true⟩, ⟨1, 2, true⟩]
def twoL : List S39 := [⟨0, 1, false⟩, ⟨0, 2, true⟩]
theorem three_Sides : feuds_Sides.f 3 threeL = some (0, 10) := by decide +kernel
theorem three_Ring : feuds_Ring.f 3 threeL = some ([0, 1, 2], 0) := by decide +kernel
theorem three_Least : feuds_Least.f 3 threeL = some (1, [2], 0) := by decide +kernel
theorem three_groups : groupsF friendB 3 threeL = [1, 2, 4] := by decide +kernel
theorem sort_124 : sortI [1, 2, 4] = [1, 2, 4] := by
  unfold sortI
  refine List.mergeSort_of_pairwise ?_
  simp
theorem three_Clans : feuds_Clans.f 3 threeL = some ([1, 2, 4], 0) := by
  have h0 : tiesE 3 threeL = 0 := by decide +kernel
  have h1 : clashB threeL [1, 2, 4] threeL.length = false := by decide +kernel
  unfold feuds_Clans.f clansF
  rw [if_pos h0, show (3 : Int).toNat = 3 from rfl, three_groups, sort_124, h1]
  rfl
theorem three_Classes : feuds_Classes.f 3 threeL = some (2, 0) := by decide +kernel
theorem two_Sides : feuds_Sides.f 3 twoL = some (3, 0) := by decide +kernel
end Go.Proofs.Ytaegldcifhgnmaa.A

/- alive: what every right program knows of three drovers. -/
namespace Go.Proofs.Ytaegldcifhgnmaa.B
open Go.Proofs.Ytaegldcifhgnmaa.A
open Go.RowKit Go.Proofs.YtaegldcifhgnmaaW.PrintWords Go.Proofs.YtaegldcifhgnmaaW.PrintMore

theorem same_calls {A : Option Addr} {c : Nat} {l : List Int} {A2 : Option Addr} {c2 : Nat} {l2 : List Int} {w : World} (hr : Kd.C (Kd.int .i64) w A l.length l) (hc : l.length ≤ c) (hr2 : Kd.C (Kd.int .i64) w A2 l2.length l2) (hc2 : l2.length ≤ c2) {r : Bool} (h : drovewaylaw09_same.f 10 l l2 = some r) :
    Calls Try.prog 22 #[.slice A l.length c, .slice A2 l2.length c2] w fun e w' => e = .returned (.bool r) ∧ Below w.heap.size w w' :=
  (drovewaylaw09_same.calls 10 A c l A2 c2 l2 r w hr hc hr2 hc2 h).mono fun _ _ ⟨a, b⟩ => ⟨a, b.below⟩

theorem three_calls (w : World) : Calls Try.prog 45 #[] w fun e w' => ∃ A c, e = .returned (.slice A 3 c) ∧ 3 ≤ c ∧ Kd.C k39 w' A 3 threeL ∧ Below w.heap.size w w' :=
  (drovewaylaw09_three.calls threeL w rfl).mono fun _ _ ⟨v, h1, h2, h3⟩ => by
    obtain ⟨A, c, rfl, hc, hC⟩ := Kd.R_reads h2
    exact ⟨A, c, h1, hc, hC, h3⟩

def drovewaylaw09_alive.f : Option Bool := some true
theorem two_reads (W : World) : Kd.C k39 (W.alloc (.cells #[.int .i64 0, .int .i64 1, .bool false, .int .i64 0, .int .i64 2, .bool true] 39)) (some ⟨W.heap.size, 0, none⟩) 2 twoL := by
  refine ⟨rfl, by decide, fun _ => ⟨_, rfl, fun j p hj => ?_⟩⟩
  have hb := heap_alloc_new W (.cells #[.int .i64 0, .int .i64 1, .bool false, .int .i64 0, .int .i64 2, .bool true] 39)
  refine ⟨_, rfl, k39_mk _ p, fun i u hu => ?_⟩
  rw [add_plain, blk_cell hb]
  match j, hj, i, hu with
  | 0, hj, 0, hu => cases hj; exact hu
  | 0, hj, 1, hu => cases hj; exact hu
  | 0, hj, 2, hu => cases hj; exact hu
  | 1, hj, 0, hu => cases hj; exact hu
  | 1, hj, 1, hu => cases hj; exact hu
  | 1, hj, 2, hu => cases hj; exact hu

theorem lit_reads (W : World) (l : List Int) (hl : l.length ≤ 1000) : Kd.C (Kd.int .i64) (W.alloc (.cells (l.map fun x => Value.int .i64 x).toArray 3)) (some ⟨W.heap.size, 0, none⟩) l.length l := by
  have hb := heap_alloc_new W (.cells (l.map fun x => Value.int .i64 x).toArray 3)
  refine ⟨rfl, by omega, fun _ => ⟨_, rfl, fun j p hj => ⟨[.int .i64 p], rfl, rfl, fun i u hu => ?_⟩⟩⟩
  rw [add_plain, blk_cell hb]
  match i, hu with
  | 0, hu =>
    cases hu
    show (l.map fun x => Value.int .i64 x).toArray[j * 1 + 0]? = _
    rw [Nat.mul_one, Nat.add_zero, List.getElem?_toArray, List.getElem?_map, hj]; rfl

set_option maxRecDepth 100000 in
set_option maxHeartbeats 3200000 in
theorem alive_calls (w : World) : Calls Try.prog 17 #[] w fun e w' => e = .returned (.bool true) ∧ Below w.heap.size w w' := by
  have HB := Aside0.mk (Below.refl w.heap.size w)
  go_enter Try.func17, Try.ntmps17
  go_wp2_with fail
  refine (three_calls _).mono ?_
  rintro e w1a ⟨A1, c1, rfl, hc1, hC1, hb⟩
  have HC1 := Aside0.mk hC1; have Hc1 := Aside0.mk hc1; have HB1 := Aside0.mk (below_then HB.out HB.out.size hb); clear hC1 hc1 hb
  go_wp2_with fail
  refine (feuds_Sides.calls 3 A1 c1 threeL 0 10 _ HC1.out Hc1.out three_Sides).mono ?_
  rintro e w1b ⟨rfl, hb⟩; have HB2 := Aside0.mk (below_then HB1.out HB1.out.size hb); clear hb HC1 Hc1
  go_wp2_with fail
  refine (three_calls _).mono ?_
  rintro e w2a ⟨A2, c2, rfl, hc2, hC2, hb⟩
  have HC2 := Aside0.mk hC2; have Hc2 := Aside0.mk hc2; have HB3 := Aside0.mk (below_then HB2.out HB2.out.size hb); clear hC2 hc2 hb
  go_wp2_with fail
  refine (feuds_Ring.calls 3 A2 c2 threeL [0, 1, 2] 0 _ HC2.out Hc2.out three_Ring).mono ?_
  rintro e w2b ⟨v, rfl, hr, hb⟩; obtain ⟨AR, cR, rfl, hcR, hRR⟩ := Kd.R_reads hr; have HcR := Aside0.mk hcR; have HRR := Aside0.mk hRR; have HB4 := Aside0.mk (below_then HB3.out HB3.out.size hb); clear hb HC2 Hc2 hr hcR hRR
  go_wp2_with fail
  refine (three_calls _).mono ?_
  rintro e w3a ⟨A3, c3, rfl, hc3, hC3, hb⟩
  have HC3 := Aside0.mk hC3; have Hc3 := Aside0.mk hc3; have HB5 := Aside0.mk (below_then HB4.out HB4.out.size hb); have HRR' := Aside0.mk (Kd.C_below HRR.out hb); clear HRR; have HRR := HRR'; clear HRR'; clear hC3 hc3 hb
  go_wp2_with fail
  refine (feuds_Least.calls 3 A3 c3 threeL 1 [2] 0 _ HC3.out Hc3.out three_Least).mono ?_
  rintro e w3b ⟨v, rfl, hr, hb⟩; obtain ⟨AL, cL, rfl, hcL, hLL⟩ := Kd.R_reads hr; have HcL := Aside0.mk hcL; have HLL := Aside0.mk hLL; have HB6 := Aside0.mk (below_then HB5.out HB5.out.size hb); have HRR' := Aside0.mk (Kd.C_below HRR.out hb); clear HRR; have HRR := HRR'; clear HRR'; clear hb HC3 Hc3 hr hcL hLL
  go_wp2_with fail
  refine (three_calls _).mono ?_
  rintro e w4a ⟨A4, c4, rfl, hc4, hC4, hb⟩
  have HC4 := Aside0.mk hC4; have Hc4 := Aside0.mk hc4; have HB7 := Aside0.mk (below_then HB6.out HB6.out.size hb); have HRR' := Aside0.mk (Kd.C_below HRR.out hb); clear HRR; have HRR := HRR'; clear HRR'; have HLL' := Aside0.mk (Kd.C_below HLL.out hb); clear HLL; have HLL := HLL'; clear HLL'; clear hC4 hc4 hb
  go_wp2_with fail
  refine (feuds_Clans.calls 3 A4 c4 threeL [1, 2, 4] 0 _ HC4.out Hc4.out three_Clans).mono ?_
  rintro e w4b ⟨v, rfl, hr, hb⟩; obtain ⟨AC, cC, rfl, hcC, hCC⟩ := Kd.R_reads hr; have HcC := Aside0.mk hcC; have HCC := Aside0.mk hCC; have HB8 := Aside0.mk (below_then HB7.out HB7.out.size hb); have HRR' := Aside0.mk (Kd.C_below HRR.out hb); clear HRR; have HRR := HRR'; clear HRR'; have HLL' := Aside0.mk (Kd.C_below HLL.out hb); clear HLL; have HLL := HLL'; clear HLL'; clear hb HC4 Hc4 hr hcC hCC
  go_wp2_with fail
  refine (three_calls _).mono ?_
  rintro e w5a ⟨A5, c5, rfl, hc5, hC5, hb⟩
  have HC5 := Aside0.mk hC5; have Hc5 := Aside0.mk hc5; have HB9 := Aside0.mk (below_then HB8.out HB8.out.size hb); have HRR' := Aside0.mk (Kd.C_below HRR.out hb); clear HRR; have HRR := HRR'; clear HRR'; have HLL' := Aside0.mk (Kd.C_below HLL.out hb); clear HLL; have HLL := HLL'; clear HLL'; have HCC' := Aside0.mk (Kd.C_below HCC.out hb); clear HCC; have HCC := HCC'; clear HCC'; clear hC5 hc5 hb
  go_wp2_with fail
  refine (feuds_Classes.calls 3 A5 c5 threeL 2 0 _ HC5.out Hc5.out three_Classes).mono ?_
  rintro e w5b ⟨rfl, hb⟩; have HB10 := Aside0.mk (below_then HB9.out HB9.out.size hb); have HRR' := Aside0.mk (Kd.C_below HRR.out hb); clear HRR; have HRR := HRR'; clear HRR'; have HLL' := Aside0.mk (Kd.C_below HLL.out hb); clear HLL; have HLL := HLL'; clear HLL'; have HCC' := Aside0.mk (Kd.C_below HCC.out hb); clear HCC; have HCC := HCC'; clear HCC'; clear hb HC5 Hc5
  go_wp2_with fail
  refine (feuds_Sides.calls 3 _ 2 twoL 3 0 _ (two_reads w5b) (Nat.le_refl 2) two_Sides).mono ?_
  rintro e w6b ⟨rfl, hb0⟩; have hb := below_then (below_alloc (Below.refl w5b.heap.size w5b) (.cells #[.int .i64 0, .int .i64 1, .bool false, .int .i64 0, .int .i64 2, .bool true] 39)) (below_alloc (Below.refl w5b.heap.size w5b) (.cells #[.int .i64 0, .int .i64 1, .bool false, .int .i64 0, .int .i64 2, .bool true] 39)).size hb0; have HB11 := Aside0.mk (below_then HB10.out HB10.out.size hb); have HRR' := Aside0.mk (Kd.C_below HRR.out hb); clear HRR; have HRR := HRR'; clear HRR'; have HLL' := Aside0.mk (Kd.C_below HLL.out hb); clear HLL; have HLL := HLL'; clear HLL'; have HCC' := Aside0.mk (Kd.C_below HCC.out hb); clear HCC; have HCC := HCC'; clear HCC'; clear hb hb0
  go_wp2_with fail
  have hlit := lit_reads w6b [0, 1, 2] (by decide)
  refine (same_calls (l := [0, 1, 2]) (l2 := [0, 1, 2]) (Kd.C_below HRR.out (below_alloc (Below.refl _ _) _)) HcR.out hlit (Nat.le_refl _) (r := true) (by kernel_rfl)).mono ?_
  rintro e w7b ⟨rfl, hb0⟩; have hb := below_then (below_alloc (Below.refl w6b.heap.size w6b) (.cells #[.int .i64 0, .int .i64 1, .int .i64 2] 3)) (below_alloc (Below.refl w6b.heap.size w6b) (.cells #[.int .i64 0, .int .i64 1, .int .i64 2] 3)).size hb0; have HB12 := Aside0.mk (below_then HB11.out HB11.out.size hb); have HRR' := Aside0.mk (Kd.C_below HRR.out hb); clear HRR; have HRR := HRR'; clear HRR'; have HLL' := Aside0.mk (Kd.C_below HLL.out hb); clear HLL; have HLL := HLL'; clear HLL'; have HCC' := Aside0.mk (Kd.C_below HCC.out hb); clear HCC; have HCC := HCC'; clear HCC'; clear hb hb0 hlit
  go_wp2_with fail
  have hlit := lit_reads w7b [2] (by decide)
  refine (same_calls (l := [2]) (l2 := [2]) (Kd.C_below HLL.out (below_alloc (Below.refl _ _) _)) HcL.out hlit (Nat.le_refl _) (r := true) (by kernel_rfl)).mono ?_
  rintro e w8b ⟨rfl, hb0⟩; have hb := below_then (below_alloc (Below.refl w7b.heap.size w7b) (.cells #[.int .i64 2] 3)) (below_alloc (Below.refl w7b.heap.size w7b) (.cells #[.int .i64 2] 3)).size hb0; have HB13 := Aside0.mk (below_then HB12.out HB12.out.size hb); have HLL' := Aside0.mk (Kd.C_below HLL.out hb); clear HLL; have HLL := HLL'; clear HLL'; have HCC' := Aside0.mk (Kd.C_below HCC.out hb); clear HCC; have HCC := HCC'; clear HCC'; clear hb hb0 hlit
  go_wp2_with fail
  have hlit := lit_reads w8b [1, 2, 4] (by decide)
  refine (same_calls (l := [1, 2, 4]) (l2 := [1, 2, 4]) (Kd.C_below HCC.out (below_alloc (Below.refl _ _) _)) HcC.out hlit (Nat.le_refl _) (r := true) (by kernel_rfl)).mono ?_
  rintro e w9b ⟨rfl, hb0⟩; have hb := below_then (below_alloc (Below.refl w8b.heap.size w8b) (.cells #[.int .i64 1, .int .i64 2, .int .i64 4] 3)) (below_alloc (Below.refl w8b.heap.size w8b) (.cells #[.int .i64 1, .int .i64 2, .int .i64 4] 3)).size hb0; have HB14 := Aside0.mk (below_then HB13.out HB13.out.size hb); have HLL' := Aside0.mk (Kd.C_below HLL.out hb); clear HLL; have HLL := HLL'; clear HLL'; have HCC' := Aside0.mk (Kd.C_below HCC.out hb); clear HCC; have HCC := HCC'; clear HCC'; clear hb hb0 hlit
  go_wp2_with fail
  go_ret
  exact ⟨rfl, HB14.out⟩
theorem drovewaylaw09_alive.calls (r : Bool) (w : World) (h : drovewaylaw09_alive.f = some r) : Calls Try.prog 17 #[] w fun e w' => e = .returned (.bool r) ∧ Below w.heap.size w w' := by
  cases h
  exact alive_calls w
end Go.Proofs.Ytaegldcifhgnmaa.B

/- What the law package's own small functions and the reference's Ties compute (plain). -/
namespace Go.Proofs.Ytaegldcifhgnmaa.B
open Go.Proofs.Ytaegldcifhgnmaa.A
open Go.RowKit Go.Proofs.YtaegldcifhgnmaaW.PrintWords Go.Proofs.YtaegldcifhgnmaaW.PrintMore

theorem few_eq (l : List S39) (r : List Int) : drovewaylaw09_few.f l r = some (decide (l.length ≤ 60 ∧ r.length ≤ 60)) := by
  unfold drovewaylaw09_few.f
  by_cases h1 : (l.length : Int) ≤ 60
  · rw [if_pos h1]
    congr 1
    rw [decide_eq_decide]
    omega
  · rw [if_neg h1]
    congr 1
    symm
    rw [decide_eq_false_iff_not]
    omega
theorem wrapS {i n : Nat} (h : i < n) (hn : n ≤ 140737488351232) : wrap64 ((i : Int) + 1) = ((i + 1 : Nat) : Int) := by rw [wrap64_id] <;> omega

/-! ### same -/
theorem same_l0 (l : List Int) (hl : l.length ≤ 140737488351232) : ∀ n i, l.length - i = n → i ≤ l.length → Ev (fun k => drovewaylaw09_same.l0 k l l (i : Int)) true := by
  intro n
  induction n with
  | zero =>
    intro i hn hi
    refine Ev.step (f := fun _ => some true) (fun k => ?_) (Ev.now _)
    rw [drovewaylaw09_same.l0, if_neg (by omega)]
  | succ n ih =>
    intro i hn hi
    refine Ev.step (fun k => ?_) (ih (i + 1) (by omega) (by omega))
    rw [drovewaylaw09_same.l0, if_pos (by omega), if_pos (by omega), if_pos (by omega), if_pos rfl, wrapS (show i < l.length by omega) hl]
theorem same_ev {l l' : List Int} (hl : l.length ≤ 140737488351232) (h : l = l') : Ev (fun k => drovewaylaw09_same.f k l l') true := by
  subst h
  refine Ev.congr (fun k => ?_) (same_l0 l hl _ 0 rfl (Nat.zero_le _))
  unfold drovewaylaw09_same.f
  rw [if_pos rfl]
  rfl

/-! ### Ties -/
theorem rdT (l : List S39) (i : Nat) : rd_T39 l (i : Int) = l.getD i z39 := by simp [rd_T39]

section
variable {n : Int} {l : List S39}
theorem ties_l1_ok (hl : l.length ≤ 1000) {i : Nat} (hi : i < l.length) {r : Int} (h : Ev (fun k => drovewayref09_Ties.l0 k n l ((i + 1 : Nat) : Int)) r) (hp : ∀ j, j < i → pairT (l.getD j z39) ≠ pairT (l.getD i z39)) : ∀ m j, i - j = m → j ≤ i → Ev (fun k => drovewayref09_Ties.l1 k n l (i : Int) (j : Int)) r := by
  intro m
  induction m with
  | zero =>
    intro j hm hj
    refine Ev.step (fun k => ?_) h
    rw [drovewayref09_Ties.l1, if_neg (by omega), wrapS hi (by omega)]
  | succ m ih =>
    intro j hm hj
    refine Ev.step (fun k => ?_) (ih (j + 1) (by omega) (by omega))
    have hne := hp j (by omega)
    rw [drovewayref09_Ties.l1, if_pos (by omega), if_pos (by omega), if_pos (by omega), if_pos (by omega), if_pos (by omega), rdT, rdT, wrapS (show j < l.length by omega) (by omega)]
    by_cases h0 : (l.getD j z39).f0 = (l.getD i z39).f0
    · rw [if_pos h0, if_neg (fun h1 => hne (by unfold pairT; rw [h0, h1]))]
    · rw [if_neg h0]
theorem ties_l1_bad (hl : l.length ≤ 1000) {i q : Nat} (hi : i < l.length) (hq : q < i) (he : pairT (l.getD q z39) = pairT (l.getD i z39)) : ∀ m j, q - j = m → j ≤ q → Ev (fun k => drovewayref09_Ties.l1 k n l (i : Int) (j : Int)) 2 := by
  intro m
  induction m with
  | zero =>
    intro j hm hj
    obtain rfl : j = q := by omega
    unfold pairT at he
    rw [Prod.mk.injEq] at he
    refine Ev.step (f := fun _ => some 2) (fun k => ?_) (Ev.now _)
    rw [drovewayref09_Ties.l1, if_pos (by omega), if_pos (by omega), if_pos (by omega), if_pos (by omega), if_pos (by omega), rdT, rdT, if_pos he.1, if_pos he.2]
  | succ m ih =>
    intro j hm hj
    have h2 := ih (j + 1) (by omega) (by omega)
    by_cases h : pairT (l.getD j z39) = pairT (l.getD i z39)
    · unfold pairT at h
      rw [Prod.mk.injEq] at h
      refine Ev.step (f := fun _ => some 2) (fun k => ?_) (Ev.now _)
      rw [drovewayref09_Ties.l1, if_pos (by omega), if_pos (by omega), if_pos (by omega), if_pos (by omega), if_pos (by omega), rdT, rdT, if_pos h.1, if_pos h.2]
    · refine Ev.step (fun k => ?_) h2
      rw [drovewayref09_Ties.l1, if_pos (by omega), if_pos (by omega), if_pos (by omega), if_pos (by omega), if_pos (by omega), rdT, rdT, wrapS (show j < l.length by omega) (by omega)]
      by_cases h0 : (l.getD j z39).f0 = (l.getD i z39).f0
      · rw [if_pos h0, if_neg (fun h1 => h (by unfold pairT; rw [h0, h1]))]
      · rw [if_neg h0]
theorem ties_l0_in {i : Nat} (hi : i < l.length) (k : Nat) : drovewayref09_Ties.l0 (k + 1) n l (i : Int) = drovewayref09_Ties.j2 k n l (i : Int) (!okT n (l.getD i z39)) := by
  rw [drovewayref09_Ties.l0, if_pos (by omega), if_pos (by omega), rdT]
  unfold okT
  by_cases h0 : (l.getD i z39).f0 < 0
  · rw [if_pos h0]
    congr 1
    rw [decide_eq_false (by omega)]; rfl
  · rw [if_neg h0]
    by_cases h1 : (l.getD i z39).f0 ≥ (l.getD i z39).f1
    · rw [if_pos h1]
      congr 1
      rw [decide_eq_false (p := (l.getD i z39).f0 < (l.getD i z39).f1) (by omega), Bool.and_false]; rfl
    · rw [if_neg h1]
      congr 1
      rw [decide_eq_true (p := 0 ≤ (l.getD i z39).f0) (by omega), decide_eq_true (p := (l.getD i z39).f0 < (l.getD i z39).f1) (by omega), Bool.true_and, Bool.true_and, ← decide_not, decide_eq_decide]
      omega
theorem ties_step (hl : l.length ≤ 1000) {i : Nat} (hi : i < l.length) (hok : okAt n l i = true) {r : Int} (h : Ev (fun k => drovewayref09_Ties.l0 k n l ((i + 1 : Nat) : Int)) r) : Ev (fun k => drovewayref09_Ties.l0 k n l (i : Int)) r := by
  refine Ev.step (f := fun k => drovewayref09_Ties.j2 k n l (i : Int) (!okT n (l.getD i z39))) (fun k => ties_l0_in hi k) ?_
  unfold okAt at hok
  rw [Bool.and_eq_true] at hok
  rw [hok.1]
  have hp : ∀ j, j < i → pairT (l.getD j z39) ≠ pairT (l.getD i z39) := by
    intro j hj e
    have h2 := hok.2
    rw [Bool.not_eq_true', List.contains_eq_mem, decide_eq_false_iff_not] at h2
    apply h2
    rw [← e]
    refine List.mem_map.2 ⟨l.getD j z39, ?_, rfl⟩
    rw [List.mem_iff_getElem]
    exact ⟨j, by rw [List.length_take]; omega, by rw [List.getElem_take, List.getD_eq_getElem?_getD, List.getElem?_eq_getElem (by omega)]; rfl⟩
  refine Ev.step (fun k => ?_) (ties_l1_ok hl hi h hp i 0 (by omega) (Nat.zero_le _))
  rw [drovewayref09_Ties.j2]
  rfl
theorem ties_stop (hl : l.length ≤ 1000) {i : Nat} (hi : i < l.length) (hok : okAt n l i = false) : Ev (fun k => drovewayref09_Ties.l0 k n l (i : Int)) 2 := by
  refine Ev.step (f := fun k => drovewayref09_Ties.j2 k n l (i : Int) (!okT n (l.getD i z39))) (fun k => ties_l0_in hi k) ?_
  unfold okAt at hok
  cases ho : okT n (l.getD i z39) with
  | false =>
    exact Ev.step (f := fun _ => some 2) (fun k => by rw [drovewayref09_Ties.j2]; rfl) (Ev.now _)
  | true =>
    rw [ho, Bool.true_and, Bool.not_eq_false', List.contains_eq_mem, decide_eq_true_iff] at hok
    obtain ⟨t, ht, e⟩ := List.mem_map.1 hok
    obtain ⟨q, hq, rfl⟩ := List.mem_iff_getElem.1 ht
    rw [List.length_take] at hq
    rw [List.getElem_take] at e
    have e2 : pairT (l.getD q z39) = pairT (l.getD i z39) := by rw [← e, List.getD_eq_getElem?_getD, List.getElem?_eq_getElem (by omega)]; rfl
    refine Ev.step (fun k => ?_) (ties_l1_bad (n := n) hl hi (show q < i by omega) e2 q 0 (by omega) (Nat.zero_le _))
    rw [drovewayref09_Ties.j2]
    rfl
theorem ties_l0 (hl : l.length ≤ 1000) : ∀ m i, l.length - i = m → i ≤ l.length → (∀ j, j < i → okAt n l j = true) → Ev (fun k => drovewayref09_Ties.l0 k n l (i : Int)) (if okTies n l = true then 0 else 2) := by
  intro m
  induction m with
  | zero =>
    intro i hm hi hall
    refine Ev.step (f := fun _ => some 0) (fun k => ?_) ?_
    · rw [drovewayref09_Ties.l0, if_neg (by omega)]
    · rw [if_pos (okTies_yes fun j hj => hall j (by omega))]
      exact Ev.now _
  | succ m ih =>
    intro i hm hi hall
    cases hok : okAt n l i with
    | true =>
      refine ties_step hl (by omega) hok (ih (i + 1) (by omega) (by omega) fun j hj => ?_)
      by_cases e : j = i
      · rw [e]; exact hok
      · exact hall j (by omega)
    | false =>
      have := okTies_no (show i < l.length by omega) hok
      rw [this]
      exact ties_stop hl (by omega) hok
theorem Ties_ev (hl : l.length ≤ 1000) : Ev (fun k => drovewayref09_Ties.f k n l) (tiesE n l) := by
  have h0 := ties_l0 (n := n) hl l.length 0 (by omega) (Nat.zero_le _) (fun j hj => absurd hj (Nat.not_lt_zero _))
  unfold tiesE
  by_cases h1 : n < 1 ∨ 8 < n
  · rw [if_pos h1]
    refine Ev.congr (g := fun k => drovewayref09_Ties.f k n l) (f := fun k => drovewayref09_Ties.j0 k n l true) (fun k => ?_) (Ev.step (f := fun _ => some 2) (fun k => by rw [drovewayref09_Ties.j0]; rfl) (Ev.now _))
    unfold drovewayref09_Ties.f
    by_cases h2 : n < 1
    · rw [if_pos h2]
    · rw [if_neg h2, decide_eq_true (by omega)]
  · rw [if_neg h1]
    refine Ev.congr (g := fun k => drovewayref09_Ties.f k n l) (f := fun k => drovewayref09_Ties.j0 k n l false) (fun k => ?_) ?_
    · unfold drovewayref09_Ties.f
      rw [if_neg (by omega), decide_eq_false (by omega)]
    · by_cases h2 : 20 < l.length
      · rw [if_pos h2]
        refine Ev.step (f := fun _ => some 3) (fun k => ?_) (Ev.now _)
        rw [drovewayref09_Ties.j0, if_neg (by decide), if_pos (by omega)]
      · rw [if_neg h2]
        refine Ev.step (fun k => ?_) h0
        rw [drovewayref09_Ties.j0, if_neg (by decide), if_neg (by omega)]
        rfl
end
end Go.Proofs.Ytaegldcifhgnmaa.B

/- Shifts of bits, plain. -/
namespace Go.Proofs.Ytaegldcifhgnmaa.B
open Go.Proofs.Ytaegldcifhgnmaa.A
open Go.RowKit Go.Proofs.YtaegldcifhgnmaaW.PrintWords Go.Proofs.YtaegldcifhgnmaaW.PrintMore

theorem shr_mod (y k : Nat) (hk : k ≤ 60) : Int.tmod (shr .i64 (y : Int) (k : Int)) 2 = if y.testBit k = true then 1 else 0 := by
  rw [shr_nat y k hk, Nat.testBit_eq_decide_div_mod_eq]
  have h : Int.tmod ((y / 2 ^ k : Nat) : Int) 2 = ((y / 2 ^ k % 2 : Nat) : Int) := by
    rw [Int.tmod_eq_emod_of_nonneg (Int.natCast_nonneg _)]; rfl
  rw [h]
  by_cases q : y / 2 ^ k % 2 = 1
  · rw [if_pos (by simpa using q), q]; rfl
  · rw [if_neg (by simpa using q)]
    have : y / 2 ^ k % 2 = 0 := by omega
    rw [this]; rfl
theorem shl_one {m : Nat} (h : m ≤ 60) : shl .i64 1 (m : Int) = ((2 ^ m : Nat) : Int) := by
  unfold shl
  have : min ((m : Int)).toNat IntKind.i64.bits = m := by
    have : IntKind.i64.bits = 64 := rfl
    omega
  rw [this, Int.one_mul, pow_cast]
  exact wrap64_nat _ (Int.natCast_nonneg _) (by exact_mod_cast two_lt (show m < 62 by omega))
end Go.Proofs.Ytaegldcifhgnmaa.B

/- The reference's groups are the classes, too (plain). -/
namespace Go.Proofs.Ytaegldcifhgnmaa.B
open Go.Proofs.Ytaegldcifhgnmaa.A
open Go.RowKit Go.Proofs.YtaegldcifhgnmaaW.PrintWords Go.Proofs.YtaegldcifhgnmaaW.PrintMore
section
variable {q : S39 → Bool} {l : List S39} {n : Nat}
/-- The least drover found so far, of each drover, behind the first k ties. -/
def atF (q : S39 → Bool) (l : List S39) : Nat → Nat → Nat
  | 0, v => v
  | k + 1, v => if q (l.getD k z39) = true ∧ atF q l k v = max (atF q l k (l.getD k z39).f0.toNat) (atF q l k (l.getD k z39).f1.toNat) then min (atF q l k (l.getD k z39).f0.toNat) (atF q l k (l.getD k z39).f1.toNat) else atF q l k v
theorem atF_le : ∀ k v, atF q l k v ≤ v
  | 0, v => Nat.le_refl v
  | k + 1, v => by
    rw [atF]
    have := atF_le k v
    split
    · omega
    · exact this
theorem atF_conn : ∀ k, k ≤ l.length → ∀ v, Conn q l v (atF q l k v)
  | 0, _, v => conn_refl v
  | k + 1, hk, v => by
    rw [atF]
    have ih := atF_conn k (by omega)
    split
    · rename_i h
      have ht := getD_mem (l := l) z39 (show k < l.length by omega)
      have hab : Conn q l (atF q l k (l.getD k z39).f0.toNat) (atF q l k (l.getD k z39).f1.toNat) := conn_trans (conn_symm (ih _)) (conn_trans (conn_tie ht h.1) (ih _))
      have hv := ih v
      rw [h.2] at hv
      revert hv hab
      generalize atF q l k (l.getD k z39).f0.toNat = a
      generalize atF q l k (l.getD k z39).f1.toNat = b
      intro hab hv
      rcases Nat.le_total a b with h1 | h1
      · rw [Nat.max_eq_right h1] at hv; rw [Nat.min_eq_left h1]; exact conn_trans hv (conn_symm hab)
      · rw [Nat.max_eq_left h1] at hv; rw [Nat.min_eq_right h1]; exact conn_trans hv hab
    · exact ih v
theorem atF_tie : ∀ k, k ≤ l.length → ∀ i, i < k → q (l.getD i z39) = true → atF q l k (l.getD i z39).f0.toNat = atF q l k (l.getD i z39).f1.toNat
  | 0, _, i, hi, _ => absurd hi (Nat.not_lt_zero i)
  | k + 1, hk, i, hi, hq => by
    by_cases e : i = k
    · subst e
      rw [atF, atF]
      generalize atF q l i (l.getD i z39).f0.toNat = a
      generalize atF q l i (l.getD i z39).f1.toNat = b
      rcases Nat.le_total a b with h1 | h1
      · rw [Nat.max_eq_right h1, Nat.min_eq_left h1, if_pos (c := q (l.getD i z39) = true ∧ b = b) ⟨hq, rfl⟩]
        split <;> rfl
      · rw [Nat.max_eq_left h1, Nat.min_eq_right h1, if_pos (c := q (l.getD i z39) = true ∧ a = a) ⟨hq, rfl⟩]
        split <;> rfl
    · have := atF_tie k (by omega) i (by omega) hq
      rw [atF, atF, this]
theorem atF_same {u v : Nat} (h : Conn q l u v) : atF q l l.length u = atF q l l.length v := by
  refine h (fun w => atF q l l.length u = atF q l l.length w) (fun t ht hq => ?_) rfl
  obtain ⟨i, hi, e⟩ := List.getElem_of_mem ht
  have hg : l.getD i z39 = t := by rw [List.getD_eq_getElem?_getD, List.getElem?_eq_getElem hi, e]; rfl
  have := atF_tie (q := q) l.length (Nat.le_refl _) i hi (by rw [hg]; exact hq)
  rw [hg] at this
  show atF q l l.length u = atF q l l.length t.f0.toNat ↔ atF q l l.length u = atF q l l.length t.f1.toNat
  rw [this]
theorem atF_iff {u v : Nat} : atF q l l.length u = atF q l l.length v ↔ Conn q l u v :=
  ⟨fun h => by
    have h1 := atF_conn (q := q) (l := l) l.length (Nat.le_refl _) u
    have h2 := atF_conn (q := q) (l := l) l.length (Nat.le_refl _) v
    rw [h] at h1
    exact conn_trans h1 (conn_symm h2), atF_same⟩
/-- It is v where v is the least of its class and of u's. -/
theorem atF_is (hl : okN n l) {u v : Nat} (hv : v < n) : atF q l l.length u = v ↔ leastB q n l v = true ∧ Conn q l v u := by
  rw [leastB_iff hl hv]
  constructor
  · intro h
    have h1 := atF_conn (q := q) (l := l) l.length (Nat.le_refl _) u
    rw [h] at h1
    refine ⟨fun w hw hc => ?_, conn_symm h1⟩
    have h2 := atF_same (conn_trans hc (conn_symm h1))
    have h3 := atF_le (q := q) (l := l) l.length w
    omega
  · rintro ⟨h1, h2⟩
    have h3 := atF_same h2
    rw [← h3]
    have h4 := atF_le (q := q) (l := l) l.length v
    by_cases e : atF q l l.length v = v
    · exact e
    · exact absurd (conn_symm (atF_conn l.length (Nat.le_refl _) v)) (h1 _ (by omega))

/-! ### rows of numbers as functions -/
def tabL (n : Nat) (f : Nat → Nat) : List Int := (List.range n).map fun v => (f v : Int)
theorem tab_len (n : Nat) (f : Nat → Nat) : (tabL n f).length = n := by unfold tabL; rw [List.length_map, List.length_range]
theorem rd_tab {f : Nat → Nat} {v : Nat} (h : v < n) : rd (tabL n f) (v : Int) = (f v : Int) := by
  unfold rd tabL
  rw [Int.toNat_natCast, List.getD_eq_getElem?_getD, List.getElem?_map, List.getElem?_range h]; rfl
theorem tab_congr {f g : Nat → Nat} (h : ∀ v, v < n → f v = g v) : tabL n f = tabL n g := by
  unfold tabL
  exact List.map_congr_left fun v hv => by rw [h v (List.mem_range.mp hv)]
theorem set_tab {f : Nat → Nat} {v y : Nat} : (tabL n f).set v (y : Int) = tabL n fun u => if u = v then y else f u := by
  refine List.ext_getElem? fun i => ?_
  unfold tabL
  rw [List.getElem?_set, List.length_map, List.length_range, List.getElem?_map, List.getElem?_map]
  by_cases hi : i < n
  · rw [List.getElem?_range hi]
    by_cases e : v = i
    · subst e
      rw [if_pos rfl, if_pos hi, Option.map_some]
      show some _ = some (((if v = v then y else f v : Nat)) : Int)
      rw [if_pos rfl]
    · rw [if_neg e, Option.map_some, Option.map_some]
      show some _ = some (((if i = v then y else f i : Nat)) : Int)
      rw [if_neg (fun h : i = v => e h.symm)]
  · have : (List.range n)[i]? = none := by rw [List.getElem?_eq_none]; rw [List.length_range]; omega
    rw [this]
    by_cases e : v = i
    · subst e; rw [if_pos rfl, if_neg hi]; rfl
    · rw [if_neg e]; rfl
theorem tab_zero : List.replicate n (0 : Int) = tabL n fun _ => 0 := by
  unfold tabL
  rw [List.map_const', List.length_range]; rfl

/-! ### the reference's groups -/
/-- Which ties count. -/
def askT (friends : Bool) : S39 → Bool := if friends = true then friendB else anyT
theorem grp_l4 (hl : okN n l) (h8 : n ≤ 8) {v : Nat} (hv : v < n) {out R : List Int} (hol : out.length ≤ n)
    (h : Ev (fun k => drovewayref09_groups.l3 k n (tabL n (atF q l l.length)) (if leastB q n l v = true then out ++ [((classN q n l v : Nat) : Int)] else out) ((v + 1 : Nat) : Int)) R) :
    ∀ (m u s : Nat), n - u = m → v ≤ u → u ≤ n → s < 2 ^ u → (∀ i, s.testBit i = true ↔ v ≤ i ∧ i < u ∧ atF q l l.length i = v) → Ev (fun k => drovewayref09_groups.l4 k n (tabL n (atF q l l.length)) out (v : Int) (s : Int) (u : Int)) R := by
  intro m
  induction m with
  | zero =>
    intro u s hm hvu hun hs hb
    obtain rfl : u = n := by omega
    refine Ev.step (fun k => ?_) h
    rw [drovewayref09_groups.l4, if_neg (by omega), wrapS (show v < 100 by omega) (by omega)]
    have hc : ∀ i, s.testBit i = true ↔ (leastB q u l v = true ∧ Conn q l v i) := fun i => by
      rw [hb, atF_is hl hv]
      constructor
      · exact fun h => h.2.2
      · intro h
        refine ⟨?_, conn_lt hl h.2 hv, h⟩
        rw [← Nat.not_lt]
        exact fun hlt => (leastB_iff hl hv).mp h.1 i hlt (conn_symm h.2)
    by_cases hle : leastB q u l v = true
    · have e : s = classN q u l v := ext_bits fun i => by rw [hc, class_bit hl hv]; exact ⟨fun h => h.2, fun h => ⟨hle, h⟩⟩
      have h0 : s ≠ 0 := fun h0 => by
        have := (hc v).mpr ⟨hle, conn_refl v⟩
        rw [h0, Nat.zero_testBit] at this; cases this
      rw [if_pos (by omega), if_pos (by omega), if_pos hle, e]
    · have e : s = 0 := ext_bits fun i => by rw [hc, Nat.zero_testBit]; exact ⟨fun h => absurd h.1 hle, fun h => by cases h⟩
      rw [e, if_neg (by omega), if_neg hle]
  | succ m ih =>
    intro u s hm hvu hun hs hb
    have hpu : (2 : Nat) ^ u ≤ 256 := pow8 (by omega)
    by_cases ha : atF q l l.length u = v
    · refine Ev.step (fun k => ?_) (ih (u + 1) (s + 2 ^ u) (by omega) (by omega) (by omega) (by rw [Nat.pow_succ]; omega) fun i => ?_)
      · rw [drovewayref09_groups.l4, if_pos (by omega), if_pos (by omega), tab_len, if_pos (by omega), rd_tab (by omega), if_pos (by omega), shl_one (by omega), wrapS (show u < 100 by omega) (by omega)]
        congr 1
        rw [wrap64_id (by omega) (by omega)]; omega
      · have e2 := Nat.two_pow_add_eq_or_of_lt hs 1
        rw [Nat.mul_one] at e2
        rw [Nat.add_comm, e2, Nat.testBit_or, tb_two, Bool.or_eq_true, beq_iff_eq, hb]
        constructor
        · rintro (h | h)
          · subst h; exact ⟨hvu, by omega, ha⟩
          · exact ⟨h.1, by omega, h.2.2⟩
        · intro h
          by_cases e : i = u
          · exact Or.inl e
          · exact Or.inr ⟨h.1, by omega, h.2.2⟩
    · refine Ev.step (fun k => ?_) (ih (u + 1) s (by omega) (by omega) (by omega) (by rw [Nat.pow_succ]; omega) fun i => ?_)
      · rw [drovewayref09_groups.l4, if_pos (by omega), if_pos (by omega), tab_len, if_pos (by omega), rd_tab (by omega), if_neg (by omega), wrapS (show u < 100 by omega) (by omega)]
      · rw [hb]
        constructor
        · exact fun h => ⟨h.1, by omega, h.2.2⟩
        · intro h
          have : i ≠ u := fun e => by rw [e] at h; exact ha h.2.2
          exact ⟨h.1, by omega, h.2.2⟩
theorem grp_l3 (hl : okN n l) (h8 : n ≤ 8) : ∀ m v out, n - v = m → v ≤ n → out.length ≤ v → Ev (fun k => drovewayref09_groups.l3 k n (tabL n (atF q l l.length)) out (v : Int)) (out ++ groupsC q n l v) := by
  intro m
  induction m with
  | zero =>
    intro v out hm hv ho
    obtain rfl : v = n := by omega
    refine Ev.step (f := fun _ => some out) (fun k => by rw [drovewayref09_groups.l3, if_neg (by omega)]) ?_
    unfold groupsC
    rw [Nat.sub_self]
    simp only [List.range'_zero, List.filter_nil, List.map_nil, List.append_nil]
    exact Ev.now _
  | succ m ih =>
    intro v out hm hv ho
    have hvn : v < n := by omega
    refine Ev.step (fun k => ?_) (grp_l4 (q := q) (out := out) hl h8 hvn (by omega) ?_ (n - v) v 0 rfl (Nat.le_refl _) hv (Nat.two_pow_pos v) (fun i => ?_))
    · rw [drovewayref09_groups.l3, if_pos (by omega)]; rfl
    · have e : groupsC q n l v = (if leastB q n l v = true then [((classN q n l v : Nat) : Int)] else []) ++ groupsC q n l (v + 1) := by
        unfold groupsC
        rw [show n - v = (n - (v + 1)) + 1 by omega, List.range'_succ, List.filter_cons]
        split <;> rfl
      rw [e]
      by_cases hle : leastB q n l v = true
      · rw [if_pos hle, if_pos hle, ← List.append_assoc]
        exact ih (v + 1) _ (by omega) (by omega) (by rw [List.length_append, List.length_singleton]; omega)
      · rw [if_neg hle, if_neg hle, List.nil_append]
        exact ih (v + 1) _ (by omega) (by omega) (by omega)
    · rw [Nat.zero_testBit]
      exact ⟨fun h => (by cases h), fun h => by omega⟩
theorem mx_nat (a b : Nat) : mx (a : Int) (b : Int) = ((max a b : Nat) : Int) := by
  unfold mx
  split <;> omega
theorem mn_nat (a b : Nat) : mn (a : Int) (b : Int) = ((min a b : Nat) : Int) := by
  unfold mn
  split <;> omega
/-- The row in the midst of a tie's round. -/
def midF (q : S39 → Bool) (l : List S39) (i v u : Nat) : Nat := if u < v then atF q l (i + 1) u else atF q l i u
theorem grp_l2 {fr : Bool} (hl : okN n l) (h8 : n ≤ 8) (hlen : l.length ≤ 1000) {i : Nat} (hi : i < l.length) {R : List Int} (h : Ev (fun k => drovewayref09_groups.l1 k n l fr (tabL n (atF (askT fr) l (i + 1))) ((i + 1 : Nat) : Int)) R) (hq : askT fr (l.getD i z39) = true) :
    ∀ m v, n - v = m → v ≤ n → Ev (fun k => drovewayref09_groups.l2 k n l fr (tabL n (midF (askT fr) l i v)) (i : Int) (atF (askT fr) l i (l.getD i z39).f0.toNat : Int) (atF (askT fr) l i (l.getD i z39).f1.toNat : Int) (v : Int)) R := by
  have hgo : ∀ k v, v < n → drovewayref09_groups.l2 (k + 1) n l fr (tabL n (midF (askT fr) l i v)) (i : Int) (atF (askT fr) l i (l.getD i z39).f0.toNat : Int) (atF (askT fr) l i (l.getD i z39).f1.toNat : Int) (v : Int) = drovewayref09_groups.j3 k n l fr (tabL n (midF (askT fr) l i v)) (i : Int) (atF (askT fr) l i (l.getD i z39).f0.toNat : Int) (atF (askT fr) l i (l.getD i z39).f1.toNat : Int) (v : Int) true := by
    intro k v hv
    rw [drovewayref09_groups.l2, if_pos (by omega)]
    cases fr with
    | false => rfl
    | true =>
      have : (l.getD i z39).f2 = false := by unfold askT friendB at hq; simpa using hq
      rw [if_pos rfl, if_pos (by omega), if_pos (by omega), rdT, this]; rfl
  intro m
  induction m with
  | zero =>
    intro v hm hv
    obtain rfl : v = n := by omega
    refine Ev.step (f := fun k => drovewayref09_groups.j3 k v l fr (tabL v (midF (askT fr) l i v)) (i : Int) (atF (askT fr) l i (l.getD i z39).f0.toNat : Int) (atF (askT fr) l i (l.getD i z39).f1.toNat : Int) (v : Int) false) (fun k => by rw [drovewayref09_groups.l2, if_neg (by omega)]) ?_
    refine Ev.step (fun k => ?_) h
    rw [drovewayref09_groups.j3, if_neg (by decide), wrapS hi (by omega)]
    congr 1
    exact tab_congr fun u hu => by unfold midF; rw [if_pos hu]
  | succ m ih =>
    intro v hm hv
    have hvn : v < n := by omega
    refine Ev.step (fun k => hgo k v hvn) ?_
    refine Ev.step (fun k => ?_) (ih (v + 1) (by omega) (by omega))
    rw [drovewayref09_groups.j3, if_pos rfl, if_pos (by omega), tab_len, if_pos (by omega), rd_tab hvn, mx_nat, mn_nat, wrapS (show v < 100 by omega) (by omega), Int.toNat_natCast, set_tab]
    have hmv : midF (askT fr) l i v v = atF (askT fr) l i v := by unfold midF; rw [if_neg (by omega)]
    rw [hmv]
    by_cases e : atF (askT fr) l i v = max (atF (askT fr) l i (l.getD i z39).f0.toNat) (atF (askT fr) l i (l.getD i z39).f1.toNat)
    · rw [if_pos (by rw [e])]
      congr 1
      refine tab_congr fun u _ => ?_
      unfold midF
      by_cases hu : u = v
      · rw [if_pos hu, if_pos (by omega), hu, atF, if_pos ⟨hq, e⟩]
      · rw [if_neg hu]
        by_cases h1 : u < v
        · rw [if_pos h1, if_pos (by omega)]
        · rw [if_neg h1, if_neg (by omega)]
    · rw [if_neg (by omega)]
      congr 1
      refine tab_congr fun u _ => ?_
      unfold midF
      by_cases hu : u = v
      · rw [if_neg (by omega), if_pos (by omega), hu, atF, if_neg (fun h => e h.2)]
      · by_cases h1 : u < v
        · rw [if_pos h1, if_pos (by omega)]
        · rw [if_neg h1, if_neg (by omega)]
theorem grp_l1 {fr : Bool} (hl : okN n l) (h8 : n ≤ 8) (hlen : l.length ≤ 1000) : ∀ m i, l.length - i = m → i ≤ l.length → Ev (fun k => drovewayref09_groups.l1 k n l fr (tabL n (atF (askT fr) l i)) (i : Int)) (groupsC (askT fr) n l 0) := by
  intro m
  induction m with
  | zero =>
    intro i hm hi
    obtain rfl : i = l.length := by omega
    refine Ev.step (fun k => ?_) (grp_l3 (q := askT fr) hl h8 n 0 [] (by omega) (Nat.zero_le _) (Nat.le_refl _))
    rw [drovewayref09_groups.l1, if_neg (by omega)]; rfl
  | succ m ih =>
    intro i hm hi
    have hil : i < l.length := by omega
    have ht := hl _ (getD_mem z39 hil)
    have hn := ih (i + 1) (by omega) (by omega)
    have hstart : ∀ k, drovewayref09_groups.l1 (k + 1) n l fr (tabL n (atF (askT fr) l i)) (i : Int) = drovewayref09_groups.l2 k n l fr (tabL n (atF (askT fr) l i)) (i : Int) (atF (askT fr) l i (l.getD i z39).f0.toNat : Int) (atF (askT fr) l i (l.getD i z39).f1.toNat : Int) 0 := by
      intro k
      have r0 := rd_tab (n := n) (f := atF (askT fr) l i) (v := (l.getD i z39).f0.toNat) (by omega)
      have r1 := rd_tab (n := n) (f := atF (askT fr) l i) (v := (l.getD i z39).f1.toNat) (by omega)
      rw [Int.toNat_of_nonneg (by omega)] at r0 r1
      rw [drovewayref09_groups.l1, if_pos (by omega), if_pos (by omega), rdT, if_pos (by omega), tab_len, if_pos (by omega), if_pos (by omega), if_pos (by omega), r0, r1]
    refine Ev.step hstart ?_
    cases hq : askT fr (l.getD i z39) with
    | true =>
      refine Ev.congr (fun k => ?_) (grp_l2 hl h8 hlen hil hn hq n 0 (by omega) (Nat.zero_le _))
      congr 1
    | false =>
      have hf : fr = true ∧ (l.getD i z39).f2 = true := by
        cases fr with
        | false => unfold askT anyT at hq; simp at hq
        | true => unfold askT friendB at hq; simpa using hq
      obtain ⟨rfl, hf2⟩ := hf
      have hmid : tabL n (atF (askT true) l i) = tabL n (atF (askT true) l (i + 1)) := tab_congr fun u _ => by rw [atF, if_neg (fun h => by rw [hq] at h; cases h.1)]
      refine Ev.step (f := fun k => drovewayref09_groups.j3 k n l true (tabL n (atF (askT true) l i)) (i : Int) (atF (askT true) l i (l.getD i z39).f0.toNat : Int) (atF (askT true) l i (l.getD i z39).f1.toNat : Int) 0 false) (fun k => ?_) ?_
      · rw [drovewayref09_groups.l2, if_pos (by omega), if_pos rfl, if_pos (by omega), if_pos (by omega), rdT, hf2]; rfl
      · refine Ev.step (fun k => ?_) hn
        rw [drovewayref09_groups.j3, if_neg (by decide), wrapS hil (by omega), hmid]
theorem grp_l0 {fr : Bool} (hl : okN n l) (h8 : n ≤ 8) (hlen : l.length ≤ 1000) : ∀ m v, n - v = m → v ≤ n → Ev (fun k => drovewayref09_groups.l0 k n l fr (tabL n fun u => if u < v then u else 0) (v : Int)) (groupsC (askT fr) n l 0) := by
  intro m
  induction m with
  | zero =>
    intro v hm hv
    obtain rfl : v = n := by omega
    refine Ev.step (fun k => ?_) (grp_l1 (fr := fr) hl h8 hlen l.length 0 (by omega) (Nat.zero_le _))
    rw [drovewayref09_groups.l0, if_neg (by omega)]
    congr 1
    exact tab_congr fun u hu => by rw [if_pos hu]; rfl
  | succ m ih =>
    intro v hm hv
    refine Ev.step (fun k => ?_) (ih (v + 1) (by omega) (by omega))
    rw [drovewayref09_groups.l0, if_pos (by omega), if_pos (by omega), tab_len, if_pos (by omega), wrapS (show v < 100 by omega) (by omega), Int.toNat_natCast, set_tab]
    congr 1
    refine tab_congr fun u _ => ?_
    by_cases hu : u = v
    · rw [if_pos hu, if_pos (by omega), hu]
    · rw [if_neg hu]
      by_cases h1 : u < v
      · rw [if_pos h1, if_pos (by omega)]
      · rw [if_neg h1, if_neg (by omega)]
theorem grp_ev {fr : Bool} (ht : tiesE n l = 0) : Ev (fun k => drovewayref09_groups.f k n l fr) (groupsF (askT fr) n l) := by
  have h1 := tiesE_parts ht
  have hl := tiesE_ok ht
  rw [groups_eq (by omega) hl]
  refine Ev.congr (fun k => ?_) (grp_l0 (fr := fr) hl (by omega) (by omega) n 0 (by omega) (Nat.zero_le _))
  unfold drovewayref09_groups.f
  rw [if_pos (by omega), if_pos (by omega), Int.toNat_natCast, tab_zero]
  congr 1
end
end Go.Proofs.Ytaegldcifhgnmaa.B

/- The clans as they are sorted (plain). -/
namespace Go.Proofs.Ytaegldcifhgnmaa.B
open Go.Proofs.Ytaegldcifhgnmaa.A
open Go.RowKit Go.Proofs.YtaegldcifhgnmaaW.PrintWords Go.Proofs.YtaegldcifhgnmaaW.PrintMore
section
variable {q : S39 → Bool} {l : List S39} {n : Nat}
theorem leastB_one (hl : okN n l) {u v : Nat} (hu : u < n) (hv : v < n) (h1 : leastB q n l u = true) (h2 : leastB q n l v = true) (h : Conn q l u v) : u = v := by
  by_cases hlt : u < v
  · exact absurd h ((leastB_iff hl hv).mp h2 u hlt)
  · by_cases hgt : v < u
    · exact absurd (conn_symm h) ((leastB_iff hl hu).mp h1 v hgt)
    · omega
theorem groups_nodup (h8 : n ≤ 8) (hl : okN n l) : (groupsF q n l).Nodup := by
  rw [groups_eq h8 hl]
  unfold groupsC
  refine List.pairwise_map.mpr (((List.nodup_range' (s := 0) (n := n - 0)).filter (leastB q n l)).imp_of_mem fun {a b} ha hb hne => fun e => hne ?_)
  obtain ⟨a1, a2⟩ := List.mem_filter.mp ha
  obtain ⟨b1, b2⟩ := List.mem_filter.mp hb
  have ha := (List.mem_range'_1.mp a1).2
  have hb := (List.mem_range'_1.mp b1).2
  refine leastB_one hl (by omega) (by omega) a2 b2 ?_
  rw [← class_bit hl (by omega)]
  have e' : classN q n l a = classN q n l b := by exact_mod_cast e
  rw [e', class_bit hl (by omega)]
  exact conn_refl b
/-- The i-th of the sorted groups. -/
def clanN (q : S39 → Bool) (n : Nat) (l : List S39) (i : Nat) : Nat := ((sortI (groupsF q n l)).getD i 0).toNat
theorem clan_is (h8 : n ≤ 8) (hl : okN n l) {i : Nat} (hi : i < (sortI (groupsF q n l)).length) : ∃ v, v < n ∧ leastB q n l v = true ∧ clanN q n l i = classN q n l v ∧ (sortI (groupsF q n l)).getD i 0 = (clanN q n l i : Int) := by
  have hm := getD_mem (l := sortI (groupsF q n l)) 0 hi
  obtain ⟨v, hv, h1, h2⟩ := (groups_mem h8 hl).mp (sortI_mem.mp hm)
  refine ⟨v, hv, h1, ?_, ?_⟩
  · unfold clanN; rw [h2]; exact Int.toNat_natCast _
  · unfold clanN; rw [h2]; rfl
theorem clan_asc (h8 : n ≤ 8) (hl : okN n l) {i j : Nat} (hij : i < j) (hj : j < (sortI (groupsF q n l)).length) : clanN q n l i < clanN q n l j := by
  have h1 := List.pairwise_mergeSort (le := fun x y : Int => decide (x ≤ y)) (fun a b c h1 h2 => by simp at h1 h2 ⊢; omega) (fun a b => by simp; omega) (groupsF q n l)
  have h2 : (sortI (groupsF q n l)).Pairwise (· ≤ ·) := h1.imp fun h => by simpa using h
  have h3 : (sortI (groupsF q n l)).Nodup := (List.Perm.nodup_iff (show (sortI (groupsF q n l)).Perm _ from List.mergeSort_perm _ _)).mpr (groups_nodup h8 hl)
  have hle := List.pairwise_iff_getElem.mp h2 i j (by omega) hj hij
  have hne := List.pairwise_iff_getElem.mp h3 i j (by omega) hj hij
  obtain ⟨_, _, _, _, ei⟩ := clan_is (q := q) h8 hl (show i < (sortI (groupsF q n l)).length by omega)
  obtain ⟨_, _, _, _, ej⟩ := clan_is (q := q) h8 hl hj
  rw [List.getD_eq_getElem?_getD, List.getElem?_eq_getElem (by omega), Option.getD_some] at ei ej
  rw [ei, ej] at hle hne
  omega
theorem clan_bit (h8 : n ≤ 8) (hl : okN n l) {i u v : Nat} (hi : i < (sortI (groupsF q n l)).length) (hu : (clanN q n l i).testBit u = true) : (clanN q n l i).testBit v = true ↔ Conn q l u v := by
  obtain ⟨w, hw, _, e, _⟩ := clan_is (q := q) h8 hl hi
  rw [e, class_bit hl hw] at hu ⊢
  exact ⟨conn_trans (conn_symm hu), conn_trans hu⟩
theorem clan_one (h8 : n ≤ 8) (hl : okN n l) {i j u : Nat} (hi : i < (sortI (groupsF q n l)).length) (hj : j < (sortI (groupsF q n l)).length) (h1 : (clanN q n l i).testBit u = true) (h2 : (clanN q n l j).testBit u = true) : i = j := by
  have e : clanN q n l i = clanN q n l j := ext_bits fun v => by rw [clan_bit h8 hl hi h1, clan_bit h8 hl hj h2]
  by_cases hlt : i < j
  · have := clan_asc (q := q) h8 hl hlt hj; omega
  · by_cases hgt : j < i
    · have := clan_asc (q := q) h8 hl hgt hi; omega
    · omega
theorem clan_has (h8 : n ≤ 8) (hl : okN n l) {u : Nat} (hu : u < n) : ∃ i, i < (sortI (groupsF q n l)).length ∧ (clanN q n l i).testBit u = true := by
  obtain ⟨g, hg, h1, _⟩ := (groups_has (q := q) h8 hl hu).mpr (conn_refl u)
  obtain ⟨i, hi, e⟩ := List.getElem_of_mem (sortI_mem.mpr hg)
  refine ⟨i, hi, ?_⟩
  unfold clanN
  rw [List.getD_eq_getElem?_getD, List.getElem?_eq_getElem hi, Option.getD_some, e]
  exact h1
theorem clan_lt (h8 : n ≤ 8) (hl : okN n l) {i : Nat} (hi : i < (sortI (groupsF q n l)).length) : 0 < clanN q n l i ∧ clanN q n l i < 2 ^ n := by
  obtain ⟨w, hw, _, e, _⟩ := clan_is (q := q) h8 hl hi
  rw [e]
  refine ⟨?_, class_lt hl hw⟩
  rw [Nat.pos_iff_ne_zero]
  intro h0
  have := (class_bit (q := q) hl hw w).mpr (conn_refl w)
  rw [h0, Nat.zero_testBit] at this
  cases this
/-- What the first clans hold together. -/
def metF (q : S39 → Bool) (n : Nat) (l : List S39) : Nat → Nat
  | 0 => 0
  | i + 1 => metF q n l i ||| clanN q n l i
theorem met_bit (u : Nat) : ∀ i, (metF q n l i).testBit u = true ↔ ∃ j, j < i ∧ (clanN q n l j).testBit u = true
  | 0 => by rw [metF, Nat.zero_testBit]; exact ⟨fun h => (by cases h), fun ⟨j, hj, _⟩ => absurd hj (Nat.not_lt_zero j)⟩
  | i + 1 => by
    rw [metF, Nat.testBit_or, Bool.or_eq_true, met_bit u i]
    constructor
    · rintro (⟨j, hj, h⟩ | h)
      · exact ⟨j, by omega, h⟩
      · exact ⟨i, by omega, h⟩
    · rintro ⟨j, hj, h⟩
      by_cases e : j = i
      · rw [e] at h; exact Or.inr h
      · exact Or.inl ⟨j, by omega, h⟩
theorem met_lt (h8 : n ≤ 8) (hl : okN n l) : ∀ i, i ≤ (sortI (groupsF q n l)).length → metF q n l i < 2 ^ n
  | 0, _ => Nat.two_pow_pos n
  | i + 1, h => or_lt (met_lt h8 hl i (by omega)) (clan_lt h8 hl (by omega)).2
theorem met_and (h8 : n ≤ 8) (hl : okN n l) {i : Nat} (hi : i < (sortI (groupsF q n l)).length) : metF q n l i &&& clanN q n l i = 0 := by
  refine Nat.eq_of_testBit_eq fun u => ?_
  rw [Nat.testBit_and, Nat.zero_testBit]
  cases h1 : (metF q n l i).testBit u with
  | false => rfl
  | true =>
    obtain ⟨j, hj, h2⟩ := (met_bit u i).mp h1
    cases h3 : (clanN q n l i).testBit u with
    | false => rfl
    | true => have := clan_one h8 hl (by omega) hi h2 h3; omega
theorem met_all (h8 : n ≤ 8) (hl : okN n l) : metF q n l (sortI (groupsF q n l)).length = 2 ^ n - 1 := by
  refine ext_bits fun u => ?_
  rw [met_bit, Nat.testBit_two_pow_sub_one, decide_eq_true_iff]
  constructor
  · rintro ⟨j, hj, h⟩
    rw [← Nat.not_le]
    intro hu
    rw [tb_big (clan_lt (q := q) h8 hl hj).2 hu] at h
    cases h
  · intro hu
    obtain ⟨i, hi, h⟩ := clan_has (q := q) h8 hl hu
    exact ⟨i, hi, h⟩
/-- In which of the first clans a drover is. -/
def inF (q : S39 → Bool) (n : Nat) (l : List S39) : Nat → Nat → Nat
  | 0, _ => 0
  | i + 1, u => if (clanN q n l i).testBit u = true then i else inF q n l i u
theorem in_bit {u : Nat} : ∀ {i j}, j < i → (clanN q n l j).testBit u = true → inF q n l i u < i ∧ (clanN q n l (inF q n l i u)).testBit u = true
  | 0, j, hj, _ => absurd hj (Nat.not_lt_zero j)
  | i + 1, j, hj, h => by
    rw [inF]
    by_cases e : (clanN q n l i).testBit u = true
    · rw [if_pos e]; exact ⟨by omega, e⟩
    · rw [if_neg e]
      have hji : j ≠ i := fun h' => by rw [h'] at h; exact e h
      have := in_bit (i := i) (j := j) (by omega) h
      exact ⟨by omega, this.2⟩
theorem in_conn (h8 : n ≤ 8) (hl : okN n l) {u v : Nat} (hu : u < n) (hv : v < n) : inF q n l (sortI (groupsF q n l)).length u = inF q n l (sortI (groupsF q n l)).length v ↔ Conn q l u v := by
  obtain ⟨i, hi, h1⟩ := clan_has (q := q) h8 hl hu
  obtain ⟨j, hj, h2⟩ := clan_has (q := q) h8 hl hv
  have a := in_bit hi h1
  have b := in_bit hj h2
  constructor
  · intro e
    rw [← e] at b
    exact (clan_bit h8 hl a.1 a.2).mp b.2
  · intro h
    exact clan_one h8 hl a.1 b.1 ((clan_bit h8 hl a.1 a.2).mpr h) b.2
/-- The lowest drover of a class, as a set. -/
theorem low_class (h8 : n ≤ 8) (hl : okN n l) {x v : Nat} (hv : v < n) (hle : leastB q n l v = true) (hx : x = classN q n l v) : lowB x = 2 ^ v := by
  subst hx
  have hlt := class_lt (q := q) hl hv
  have hne : classN q n l v ≠ 0 := fun h0 => by
    have := (class_bit (q := q) hl hv v).mpr (conn_refl v)
    rw [h0, Nat.zero_testBit] at this
    cases this
  obtain ⟨i, h1, h2, h3⟩ := low_is (Nat.lt_of_lt_of_le hlt (pow8 h8)) hne
  rw [h2]
  congr 1
  by_cases hlt2 : i < v
  · exact absurd (conn_symm ((class_bit hl hv i).mp h1)) ((leastB_iff hl hv).mp hle i hlt2)
  · by_cases hgt : v < i
    · have := h3 v hgt
      rw [(class_bit (q := q) hl hv v).mpr (conn_refl v)] at this
      cases this
    · omega
end
end Go.Proofs.Ytaegldcifhgnmaa.B

-- Printed by hprint.py (this claim's own program, over the kit's print.py) out of the translation and contracts by hand. Not trusted: Lean checks it.
namespace Go.Proofs.Ytaegldcifhgnmaa.PFeudsGroups
open Go.Proofs.Ytaegldcifhgnmaa.A Go.Proofs.Ytaegldcifhgnmaa.B
open Go.RowKit Go.Proofs.YtaegldcifhgnmaaW.PrintWords Go.Proofs.YtaegldcifhgnmaaW.PrintLast Go.Proofs.YtaegldcifhgnmaaW.PrintMore
attribute [local go_sem] max2_int min2_int max_two min_two max_three min_three max_four min_four   -- for this text's walks alone
set_option linter.unusedVariables false
set_option linter.unusedSimpArgs false



def errW : Option Int → Value
  | none => .nilIface
  | some c => .iface 0 (.int .i64 c)
theorem errW_none : errW none = .nilIface := rfl
theorem errW_some (c : Int) : errW (some c) = .iface 0 (.int .i64 c) := rfl

theorem info3 : (Try.prog.info? 3).map (fun i => (i.zero, i.size, i.bytes)) = some (some (.int .i64 0), 1, 8) := by kernel_rfl
-- the values' own types

end Go.Proofs.Ytaegldcifhgnmaa.PFeudsGroups

-- Printed by hprint.py (this claim's own program, over the kit's print.py) out of the translation and contracts by hand. Not trusted: Lean checks it.
namespace Go.Proofs.Ytaegldcifhgnmaa.PFeudsGroups
open Go.Proofs.Ytaegldcifhgnmaa.A Go.Proofs.Ytaegldcifhgnmaa.B
open Go.RowKit Go.Proofs.YtaegldcifhgnmaaW.PrintWords Go.Proofs.YtaegldcifhgnmaaW.PrintLast Go.Proofs.YtaegldcifhgnmaaW.PrintMore
attribute [local go_sem] max2_int min2_int max_two min_two max_three min_three max_four min_four   -- for this text's walks alone
set_option linter.unusedVariables false
set_option linter.unusedSimpArgs false

-- by hand: function 16 (drovewaylaw09_few)

-- by hand: function 17 (drovewaylaw09_alive)

-- by hand: function 24 (drovewayref09_Ties)

-- by hand: function 26 (feuds_Clans)

end Go.Proofs.Ytaegldcifhgnmaa.PFeudsGroups
