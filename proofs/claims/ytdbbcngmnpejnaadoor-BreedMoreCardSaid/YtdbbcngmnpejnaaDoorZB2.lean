/- The reference's Count, as the kit's print writes it; its drawn region by hand. -/
import Derived.Test.YtdbbcngmnpejnaaDoorZB1
import Derived.Test.YtdbbcngmnpejnaaDoorProg
import Derived.Below
import Derived.Deep.Draws
import Derived.Deep.AppendLies
import Derived.Maps.AppendAt
import Derived.OwnWalk
import Derived.Laws.BytesArg
import Derived.Laws.MakeOwn
import Derived.Laws.OwnMore
import Derived.Deep.OwnRows
import Derived.Tactics
import Derived.Lib.ConvBytes
import Derived.Laws.Slices
import Derived.WalkKit
import Derived.KernelRfl
import Derived.RowKit3
import Derived.Deep.LoopGhost
import Derived.Deep.QuietTactic
import Derived.BigQuiet
import Derived.WideLaws
import Derived.Deep.DeepCutAuto
import Derived.Deep.CutBlock
import Derived.Deep.RegionHeld3
import Derived.Laws.Rows
import Derived.Lib.AppendStr
import Derived.ArgAppend
import Derived.Laws.IdiomCopy
import Derived.OrdersHeld
import Derived.Laws.BitsLemmas
import Derived.RowKit
import Derived.Test.YtdbbcngmnpejnaaDoorWWords
import Derived.Test.YtdbbcngmnpejnaaDoorWLast
import Derived.Test.YtdbbcngmnpejnaaDoorWTab
import Derived.Test.YtdbbcngmnpejnaaDoorWFour
import Derived.Test.YtdbbcngmnpejnaaDoorWQPut
import Derived.Test.YtdbbcngmnpejnaaDoorWApart
import Derived.Test.YtdbbcngmnpejnaaDoorWArr
import Derived.Test.YtdbbcngmnpejnaaDoorWZeros
import Derived.Test.YtdbbcngmnpejnaaDoorWFoot
import Derived.Test.YtdbbcngmnpejnaaDoorWKept
import Derived.Test.YtdbbcngmnpejnaaDoorWShare
import Derived.Test.YtdbbcngmnpejnaaDoorWN
import Derived.Test.YtdbbcngmnpejnaaDoorWFootNe
import Derived.Test.YtdbbcngmnpejnaaDoorWAt
import Derived.Test.YtdbbcngmnpejnaaDoorWEqStruct
import Derived.Test.YtdbbcngmnpejnaaDoorWRepsOne
import Derived.Test.YtdbbcngmnpejnaaDoorWInv
import Derived.Test.YtdbbcngmnpejnaaDoorWInvWords
import Derived.Test.YtdbbcngmnpejnaaDoorWGuard
import Derived.Test.YtdbbcngmnpejnaaDoorWNEv
import Derived.Test.YtdbbcngmnpejnaaDoorWMore
import Derived.Test.YtdbbcngmnpejnaaDoorRows
import Derived.ProofKit
import Derived.LaidMore
import Derived.OpenShut
import Derived.Stop.Joined
/- The reference's Count, as the kit's print writes it; its drawn region by hand. -/
namespace Go.Proofs.YtdbbcngmnpejnaaDoor.B
open Go.Proofs.YtdbbcngmnpejnaaDoor.A
open Go.RowKit Go.Proofs.YtdbbcngmnpejnaaDoorW.PrintWords Go.Proofs.YtdbbcngmnpejnaaDoorW.PrintLast Go.Proofs.YtdbbcngmnpejnaaDoorW.PrintMore
section
attribute [local go_sem] max2_int min2_int max_two min_two max_three min_three max_four min_four   -- for this text's walks alone
set_option linter.unusedVariables false
set_option linter.unusedSimpArgs false
/-! ### drovewayref05_Count: function 14 -/
mutual
def drovewayref05_Count.j0 : Nat → Int → Bool → Option (Int × Int)
  | 0, _, _ => none
  | k + 1, x0, x14 => if x14 = true then (some (0, 2)) else (drovewayref05_Count.l0 k x0 (([0, 1] : List Int)) (([1, 1] : List Int)) 2)
def drovewayref05_Count.l0 : Nat → Int → List Int → List Int → Int → Option (Int × Int)
  | 0, _, _, _, _ => none
  | k + 1, x0, x4, x5, x6 => if x6 ≤ x0 then (drovewayref05_Count.l1 k x0 x4 x5 x6 0 1) else (if 0 ≤ x0 then (if x0 < (x4.length : Int) then (some (rd x4 x0, 0)) else (none)) else (none))
def drovewayref05_Count.l1 : Nat → Int → List Int → List Int → Int → Int → Int → Option (Int × Int)
  | 0, _, _, _, _, _, _ => none
  | k + 1, x0, x4, x5, x6, x7, x8 => if x8 < x6 then ((drovewayref05_choose.f k (wrap64 (x6 - 1)) (wrap64 (x8 - 1))).bind fun t123 => (if 0 ≤ x8 then (if x8 < (x4.length : Int) then (if 0 ≤ (wrap64 (x6 - x8)) then (if (wrap64 (x6 - x8)) < (x5.length : Int) then (drovewayref05_Count.l1 k x0 x4 x5 x6 (wrap64 (x7 + (wrap64 ((wrap64 (t123 * (rd x4 x8))) * (rd x5 (wrap64 (x6 - x8))))))) (wrap64 (x8 + 1))) else (none)) else (none)) else (none)) else (none))) else (if x4.length < 17592186044416 then (if x5.length < 17592186044416 then (drovewayref05_Count.l0 k x0 (x4 ++ [x7]) (x5 ++ [wrap64 (2 * x7)]) (wrap64 (x6 + 1))) else (none)) else (none))
end
def drovewayref05_Count.f (k : Nat) (a0 : Int) : Option (Int × Int) := if a0 < 1 then (drovewayref05_Count.j0 k a0 true) else (drovewayref05_Count.j0 k a0 (decide (a0 > 8)))
theorem drovewayref05_Count.mono_l : ∀ k, (∀ y0 y1, LeO (drovewayref05_Count.j0 k y0 y1) (drovewayref05_Count.j0 (k + 1) y0 y1)) ∧ (∀ y0 y1 y2 y3, LeO (drovewayref05_Count.l0 k y0 y1 y2 y3) (drovewayref05_Count.l0 (k + 1) y0 y1 y2 y3)) ∧ (∀ y0 y1 y2 y3 y4 y5, LeO (drovewayref05_Count.l1 k y0 y1 y2 y3 y4 y5) (drovewayref05_Count.l1 (k + 1) y0 y1 y2 y3 y4 y5))
  | 0 => ⟨fun _ _ r h => by simp [drovewayref05_Count.j0] at h, fun _ _ _ _ r h => by simp [drovewayref05_Count.l0] at h, fun _ _ _ _ _ _ r h => by simp [drovewayref05_Count.l1] at h⟩
  | k + 1 => by
    obtain ⟨ih0, ih1, ih2⟩ := drovewayref05_Count.mono_l k
    refine ⟨?_, ?_, ?_⟩
    · intro y0 y1
      unfold drovewayref05_Count.j0
      repeat' first
      | (with_reducible exact ih0 _ _)
      | (with_reducible exact ih1 _ _ _ _)
      | (with_reducible exact ih2 _ _ _ _ _ _)
      | (with_reducible exact drovewayref05_choose.mono _ _ _)
      | (with_reducible exact LeO.refl _)
      | (with_reducible exact LeO.none _)
      | (with_reducible refine LeO.ite ?_ ?_)
      | (with_reducible refine LeO.bind ?_ (fun _ => ?_))
      | exact ih0 _ _
      | exact ih1 _ _ _ _
      | exact ih2 _ _ _ _ _ _
      | exact drovewayref05_choose.mono _ _ _
      | exact LeO.none _
      | refine LeO.ite ?_ ?_
      | refine LeO.bind ?_ (fun _ => ?_)
    · intro y0 y1 y2 y3
      unfold drovewayref05_Count.l0
      repeat' first
      | (with_reducible exact ih0 _ _)
      | (with_reducible exact ih1 _ _ _ _)
      | (with_reducible exact ih2 _ _ _ _ _ _)
      | (with_reducible exact drovewayref05_choose.mono _ _ _)
      | (with_reducible exact LeO.refl _)
      | (with_reducible exact LeO.none _)
      | (with_reducible refine LeO.ite ?_ ?_)
      | (with_reducible refine LeO.bind ?_ (fun _ => ?_))
      | exact ih0 _ _
      | exact ih1 _ _ _ _
      | exact ih2 _ _ _ _ _ _
      | exact drovewayref05_choose.mono _ _ _
      | exact LeO.none _
      | refine LeO.ite ?_ ?_
      | refine LeO.bind ?_ (fun _ => ?_)
    · intro y0 y1 y2 y3 y4 y5
      unfold drovewayref05_Count.l1
      repeat' first
      | (with_reducible exact ih0 _ _)
      | (with_reducible exact ih1 _ _ _ _)
      | (with_reducible exact ih2 _ _ _ _ _ _)
      | (with_reducible exact drovewayref05_choose.mono _ _ _)
      | (with_reducible exact LeO.refl _)
      | (with_reducible exact LeO.none _)
      | (with_reducible refine LeO.ite ?_ ?_)
      | (with_reducible refine LeO.bind ?_ (fun _ => ?_))
      | exact ih0 _ _
      | exact ih1 _ _ _ _
      | exact ih2 _ _ _ _ _ _
      | exact drovewayref05_choose.mono _ _ _
      | exact LeO.none _
      | refine LeO.ite ?_ ?_
      | refine LeO.bind ?_ (fun _ => ?_)
theorem drovewayref05_Count.mono : ∀ a0 k, LeO (drovewayref05_Count.f k a0) (drovewayref05_Count.f (k + 1) a0) := by
  intro a0 k
  obtain ⟨ih0, ih1, ih2⟩ := drovewayref05_Count.mono_l k
  unfold drovewayref05_Count.f
  repeat' first
      | (with_reducible exact ih0 _ _)
      | (with_reducible exact ih1 _ _ _ _)
      | (with_reducible exact ih2 _ _ _ _ _ _)
      | (with_reducible exact drovewayref05_choose.mono _ _ _)
      | (with_reducible exact LeO.refl _)
      | (with_reducible exact LeO.none _)
      | (with_reducible refine LeO.ite ?_ ?_)
      | (with_reducible refine LeO.bind ?_ (fun _ => ?_))
      | exact ih0 _ _
      | exact ih1 _ _ _ _
      | exact ih2 _ _ _ _ _ _
      | exact drovewayref05_choose.mono _ _ _
      | exact LeO.none _
      | refine LeO.ite ?_ ?_
      | refine LeO.bind ?_ (fun _ => ?_)
set_option maxHeartbeats 8000000 in
set_option maxRecDepth 100000 in
theorem drovewayref05_Count.calls (k : Nat) (a0 : Int) (r1 : Int) (r2 : Int) (w : World) (h : drovewayref05_Count.f k a0 = some (r1, r2)) :
    Calls Tryd.prog 14 #[.int .i64 a0] w fun e w' => e = .returned (.tuple #[.int .i64 r1, .int .i64 r2]) ∧ Below w.heap.size w w' := by
  have HB := Aside0.mk (Below.refl w.heap.size w)
  have H : (if a0 < 1 then (drovewayref05_Count.j0 k a0 true) else (drovewayref05_Count.j0 k a0 (decide (a0 > 8)))) = some (r1, r2) := h
  clear h
  have HC2 := Aside0.mk H
  clear H
  go_enter Tryd.func14, Tryd.ntmps14
  go_upto_region 1 with (fail)
  repeat (go_quiet (fail); go_upto_region 1 with (fail))
  go_cut [14] (fun v14 wc => ∃ (kq : Nat) (x14_1 : Bool), v14 = .bool x14_1 ∧ Aside0 (drovewayref05_Count.j0 kq a0 x14_1 = some (r1, r2)) ∧ Aside0 (kq ≤ k) ∧ Aside0 (Below w.heap.size w wc))
  case first =>
    have H := HC2.out
    clear HC2
    by_cases c3 : a0 < 1
    · rw [if_pos c3] at H
      have c3b0 : decide (a0 < 1) = true := decide_eq_true c3
      clear c3
      (first | rw [c3b0] | (simp only [i64_w, i32_w]; rw [c3b0]) | skip)
      have H' := Aside0.mk H
      clear H
      go_wp2
      repeat (go_quiet (fail); try go_wp2)
      go_meet
      case rel => exact ⟨_, (true), (by first | rfl | (simp; done) | (simp [*]; done)), H', ⟨by first | omega | exact Nat.le_refl _⟩, ⟨by repeat (first | (with_reducible first | exact HB.out | apply below_alloc | apply pw_below_drewN | apply below_drew1) | exact HB.out)⟩⟩
    · rw [if_neg c3] at H
      have c3b0 : decide (a0 < 1) = false := decide_eq_false c3
      clear c3
      (first | rw [c3b0] | (simp only [i64_w, i32_w]; rw [c3b0]) | skip)
      have H' := Aside0.mk H
      clear H
      go_wp2
      repeat (go_quiet (fail); try go_wp2)
      go_meet
      case rel => exact ⟨_, (decide (a0 > 8)), (by first | rfl | (simp; done) | (simp [*]; done)), H', ⟨by first | omega | exact Nat.le_refl _⟩, ⟨by repeat (first | (with_reducible first | exact HB.out | apply below_alloc | apply pw_below_drewN | apply below_drew1) | exact HB.out)⟩⟩
  case rest =>
    clear HC2
    try clear c1
    try clear p2
    try clear c3
    try clear c3b0
    obtain ⟨kq, x14_1, rfl, HA, HJ1, HB⟩ := hcut
    cases kq with
    | zero => exact absurd HA.out (by simp [drovewayref05_Count.j0])
    | succ kj1 =>
      have H := HA.out
      clear HA
      simp only [drovewayref05_Count.j0] at H
      by_cases c4 : x14_1 = true
      · subst c4
        have H1 : (some (0, 2)) = some (r1, r2) := by rw [if_pos rfl] at H; exact H
        clear H
        have H := H1
        clear H1
        simp only [Option.some.injEq, Prod.mk.injEq] at H
        obtain ⟨rfl, rfl⟩ := H
        go_wp2
        repeat (go_quiet (fail); try go_wp2)
        go_ret2
        exact ⟨by first | rfl | (simp [errW_none, errW_some] <;> rfl) | (simp [*, errW_none, errW_some] <;> rfl), by repeat (first | (with_reducible first | exact HB.out | apply below_alloc | apply pw_below_drewN | apply below_drew1) | exact HB.out)⟩
      · replace c4 := Bool.eq_false_iff.mpr c4
        subst c4
        have H1 : (drovewayref05_Count.l0 kj1 a0 (([0, 1] : List Int)) (([1, 1] : List Int)) 2) = some (r1, r2) := by rw [if_neg (show ¬ (false = true) by decide)] at H; exact H
        clear H
        have H := H1
        clear H1
        obtain ⟨y116, hy116⟩ : ∃ y_ : List Int, y_ = (([0, 1] : List Int)) := ⟨_, rfl⟩
        replace H : (drovewayref05_Count.l0 kj1 a0 y116 (([1, 1] : List Int)) 2) = some (r1, r2) := by first | (rw [hy116]; with_reducible exact H) | (have H2_ := (Option.bind_some _ _).symm.trans H; rw [hy116]; with_reducible exact H2_) | (have H2_ := (Option.bind_some _ _).symm.trans H; with_reducible exact H2_) | with_reducible exact H | (rw [hy116]; exact H) | exact H
        have Ny116 := Aside0.mk hy116
        clear hy116
        obtain ⟨y119, hy119⟩ : ∃ y_ : List Int, y_ = (([1, 1] : List Int)) := ⟨_, rfl⟩
        replace H : (drovewayref05_Count.l0 kj1 a0 y116 y119 2) = some (r1, r2) := by first | (rw [hy119]; with_reducible exact H) | (have H2_ := (Option.bind_some _ _).symm.trans H; rw [hy119]; with_reducible exact H2_) | (have H2_ := (Option.bind_some _ _).symm.trans H; with_reducible exact H2_) | with_reducible exact H | (rw [hy119]; exact H) | exact H
        have Ny119 := Aside0.mk hy119
        clear hy119
        have H' := Aside0.mk H
        clear H
        go_wp2_with (first | ((with_reducible refine gate_dst (N := 15) rfl ?_); refine Kd.R_lit (Kd.int .i64) _ 3 ?hg (N := 15) ?hd (xs := ([0, 1] : List Int)) (inner := [.int .i64 0, .int .i64 1]) (ok := fun _ => True) (okp := fun _ => True) ?hr ?hp (fun _ hk => hk) trivial (Below.refl _ _) (Nat.le_refl _) (by simp) ?_; (case hd => rfl); (case hg => rfl); (case hr => first | (go_simp; done) | (go_simp; rfl)); (case hp => exact (Reps.one (show Kd.M (Kd.int .i64) _ _ _ 0 [.int .i64 0] from rfl) (Reps.one (show Kd.M (Kd.int .i64) _ _ _ 1 [.int .i64 1] from rfl) (Reps.none _ _)))); intro v117 w5 ho6 hb hg_ hnew_; clear hg_ hnew_; (first | rw [← Ny116.out] at ho6 | (simp only [Int.reduceToNat] at ho6; rw [← Ny116.out] at ho6)); have n0_ := Aside0.mk (Kd.R_lower ho6 (below_size (by repeat (first | (with_reducible first | exact HB.out | apply below_alloc | apply pw_below_drewN | apply below_drew1) | exact HB.out)))); have n1_ := Aside0.mk (below_step (by repeat (first | (with_reducible first | exact HB.out | apply below_alloc | apply pw_below_drewN | apply below_drew1) | exact HB.out)) hb); clear HB; have HO118 := n0_; have HB := n1_; clear n0_ n1_; clear hb ho6) | ((with_reducible refine gate_dst (N := 16) rfl ?_); refine Kd.R_lit (Kd.int .i64) _ 3 ?hg (N := 16) ?hd (xs := ([1, 1] : List Int)) (inner := [.int .i64 1, .int .i64 1]) (ok := fun _ => True) (okp := fun _ => True) ?hr ?hp (fun _ hk => hk) trivial (Below.refl _ _) (Nat.le_refl _) (by simp) ?_; (case hd => rfl); (case hg => rfl); (case hr => first | (go_simp; done) | (go_simp; rfl)); (case hp => exact (Reps.one (show Kd.M (Kd.int .i64) _ _ _ 1 [.int .i64 1] from rfl) (Reps.one (show Kd.M (Kd.int .i64) _ _ _ 1 [.int .i64 1] from rfl) (Reps.none _ _)))); intro v120 w7 ho8 hb hg_ hnew_; clear hg_ hnew_; (first | rw [← Ny119.out] at ho8 | (simp only [Int.reduceToNat] at ho8; rw [← Ny119.out] at ho8)); have n0_ := Aside0.mk (Kd.R_elder' (by (with_reducible repeat (first | apply Kd.R_alloc | apply Kd.R_drewN | apply Kd.R_drew)); exact HO118.out) (Kd.R_base ho8) hb); have n1_ := Aside0.mk (Kd.R_lower (Kd.R_new' ho8 (Kd.R_lt (by (with_reducible repeat (first | apply Kd.R_alloc | apply Kd.R_drewN | apply Kd.R_drew)); exact HO118.out))) (below_size (by repeat (first | (with_reducible first | exact HB.out | apply below_alloc | apply pw_below_drewN | apply below_drew1) | exact HB.out)))); have n2_ := Aside0.mk (below_step (by repeat (first | (with_reducible first | exact HB.out | apply below_alloc | apply pw_below_drewN | apply below_drew1) | exact HB.out)) hb); clear HO118; clear HB; have HO118 := n0_; have HO121 := n1_; have HB := n2_; clear n0_ n1_ n2_; clear hb ho8))
        repeat (go_quiet (first | ((with_reducible refine gate_dst (N := 15) rfl ?_); refine Kd.R_lit (Kd.int .i64) _ 3 ?hg (N := 15) ?hd (xs := ([0, 1] : List Int)) (inner := [.int .i64 0, .int .i64 1]) (ok := fun _ => True) (okp := fun _ => True) ?hr ?hp (fun _ hk => hk) trivial (Below.refl _ _) (Nat.le_refl _) (by simp) ?_; (case hd => rfl); (case hg => rfl); (case hr => first | (go_simp; done) | (go_simp; rfl)); (case hp => exact (Reps.one (show Kd.M (Kd.int .i64) _ _ _ 0 [.int .i64 0] from rfl) (Reps.one (show Kd.M (Kd.int .i64) _ _ _ 1 [.int .i64 1] from rfl) (Reps.none _ _)))); intro v117 w5 ho6 hb hg_ hnew_; clear hg_ hnew_; (first | rw [← Ny116.out] at ho6 | (simp only [Int.reduceToNat] at ho6; rw [← Ny116.out] at ho6)); have n0_ := Aside0.mk (Kd.R_lower ho6 (below_size (by repeat (first | (with_reducible first | exact HB.out | apply below_alloc | apply pw_below_drewN | apply below_drew1) | exact HB.out)))); have n1_ := Aside0.mk (below_step (by repeat (first | (with_reducible first | exact HB.out | apply below_alloc | apply pw_below_drewN | apply below_drew1) | exact HB.out)) hb); clear HB; have HO118 := n0_; have HB := n1_; clear n0_ n1_; clear hb ho6) | ((with_reducible refine gate_dst (N := 16) rfl ?_); refine Kd.R_lit (Kd.int .i64) _ 3 ?hg (N := 16) ?hd (xs := ([1, 1] : List Int)) (inner := [.int .i64 1, .int .i64 1]) (ok := fun _ => True) (okp := fun _ => True) ?hr ?hp (fun _ hk => hk) trivial (Below.refl _ _) (Nat.le_refl _) (by simp) ?_; (case hd => rfl); (case hg => rfl); (case hr => first | (go_simp; done) | (go_simp; rfl)); (case hp => exact (Reps.one (show Kd.M (Kd.int .i64) _ _ _ 1 [.int .i64 1] from rfl) (Reps.one (show Kd.M (Kd.int .i64) _ _ _ 1 [.int .i64 1] from rfl) (Reps.none _ _)))); intro v120 w7 ho8 hb hg_ hnew_; clear hg_ hnew_; (first | rw [← Ny119.out] at ho8 | (simp only [Int.reduceToNat] at ho8; rw [← Ny119.out] at ho8)); have n0_ := Aside0.mk (Kd.R_elder' (by (with_reducible repeat (first | apply Kd.R_alloc | apply Kd.R_drewN | apply Kd.R_drew)); exact HO118.out) (Kd.R_base ho8) hb); have n1_ := Aside0.mk (Kd.R_lower (Kd.R_new' ho8 (Kd.R_lt (by (with_reducible repeat (first | apply Kd.R_alloc | apply Kd.R_drewN | apply Kd.R_drew)); exact HO118.out))) (below_size (by repeat (first | (with_reducible first | exact HB.out | apply below_alloc | apply pw_below_drewN | apply below_drew1) | exact HB.out)))); have n2_ := Aside0.mk (below_step (by repeat (first | (with_reducible first | exact HB.out | apply below_alloc | apply pw_below_drewN | apply below_drew1) | exact HB.out)) hb); clear HO118; clear HB; have HO118 := n0_; have HO121 := n1_; have HB := n2_; clear n0_ n1_ n2_; clear hb ho8)); try go_wp2_with (first | ((with_reducible refine gate_dst (N := 15) rfl ?_); refine Kd.R_lit (Kd.int .i64) _ 3 ?hg (N := 15) ?hd (xs := ([0, 1] : List Int)) (inner := [.int .i64 0, .int .i64 1]) (ok := fun _ => True) (okp := fun _ => True) ?hr ?hp (fun _ hk => hk) trivial (Below.refl _ _) (Nat.le_refl _) (by simp) ?_; (case hd => rfl); (case hg => rfl); (case hr => first | (go_simp; done) | (go_simp; rfl)); (case hp => exact (Reps.one (show Kd.M (Kd.int .i64) _ _ _ 0 [.int .i64 0] from rfl) (Reps.one (show Kd.M (Kd.int .i64) _ _ _ 1 [.int .i64 1] from rfl) (Reps.none _ _)))); intro v117 w5 ho6 hb hg_ hnew_; clear hg_ hnew_; (first | rw [← Ny116.out] at ho6 | (simp only [Int.reduceToNat] at ho6; rw [← Ny116.out] at ho6)); have n0_ := Aside0.mk (Kd.R_lower ho6 (below_size (by repeat (first | (with_reducible first | exact HB.out | apply below_alloc | apply pw_below_drewN | apply below_drew1) | exact HB.out)))); have n1_ := Aside0.mk (below_step (by repeat (first | (with_reducible first | exact HB.out | apply below_alloc | apply pw_below_drewN | apply below_drew1) | exact HB.out)) hb); clear HB; have HO118 := n0_; have HB := n1_; clear n0_ n1_; clear hb ho6) | ((with_reducible refine gate_dst (N := 16) rfl ?_); refine Kd.R_lit (Kd.int .i64) _ 3 ?hg (N := 16) ?hd (xs := ([1, 1] : List Int)) (inner := [.int .i64 1, .int .i64 1]) (ok := fun _ => True) (okp := fun _ => True) ?hr ?hp (fun _ hk => hk) trivial (Below.refl _ _) (Nat.le_refl _) (by simp) ?_; (case hd => rfl); (case hg => rfl); (case hr => first | (go_simp; done) | (go_simp; rfl)); (case hp => exact (Reps.one (show Kd.M (Kd.int .i64) _ _ _ 1 [.int .i64 1] from rfl) (Reps.one (show Kd.M (Kd.int .i64) _ _ _ 1 [.int .i64 1] from rfl) (Reps.none _ _)))); intro v120 w7 ho8 hb hg_ hnew_; clear hg_ hnew_; (first | rw [← Ny119.out] at ho8 | (simp only [Int.reduceToNat] at ho8; rw [← Ny119.out] at ho8)); have n0_ := Aside0.mk (Kd.R_elder' (by (with_reducible repeat (first | apply Kd.R_alloc | apply Kd.R_drewN | apply Kd.R_drew)); exact HO118.out) (Kd.R_base ho8) hb); have n1_ := Aside0.mk (Kd.R_lower (Kd.R_new' ho8 (Kd.R_lt (by (with_reducible repeat (first | apply Kd.R_alloc | apply Kd.R_drewN | apply Kd.R_drew)); exact HO118.out))) (below_size (by repeat (first | (with_reducible first | exact HB.out | apply below_alloc | apply pw_below_drewN | apply below_drew1) | exact HB.out)))); have n2_ := Aside0.mk (below_step (by repeat (first | (with_reducible first | exact HB.out | apply below_alloc | apply pw_below_drewN | apply below_drew1) | exact HB.out)) hb); clear HO118; clear HB; have HO118 := n0_; have HO121 := n1_; have HB := n2_; clear n0_ n1_ n2_; clear hb ho8)))
        go_loopg [4, 5, 6] kj1 (fun kq v4 v5 v6 w' => ∃ (x4_2 : List Int) (x5_2 : List Int) (x6_2 : Int), v6 = .int .i64 x6_2 ∧ Aside0 (drovewayref05_Count.l0 kq a0 x4_2 x5_2 x6_2 = some (r1, r2)) ∧ Aside0 (kq ≤ kj1) ∧ Aside0 (Kd.R (Kd.int .i64) 3 w' w.heap.size (fun k_ => some k_ ≠ (v5 : Value).ownBlock) v4 x4_2) ∧ Aside0 (Kd.R (Kd.int .i64) 3 w' w.heap.size (fun k_ => some k_ ≠ (v4 : Value).ownBlock) v5 x5_2) ∧ Aside0 (Below w.heap.size w w'))
        case atStart => exact ⟨(y116), (y119), (2), (by first | rfl | (simp; done) | (simp [*]; done)), H', ⟨Nat.le_refl _⟩, ⟨by (with_reducible repeat (first | apply Kd.R_alloc | apply Kd.R_drewN | apply Kd.R_drew)); exact Kd.R_mono HO118.out (fun _ hk => hk.2)⟩, ⟨by (with_reducible repeat (first | apply Kd.R_alloc | apply Kd.R_drewN | apply Kd.R_drew)); exact Kd.R_mono HO121.out (fun _ hk => hk.2)⟩, ⟨by repeat (first | (with_reducible first | exact HB.out | apply below_alloc | apply pw_below_drewN | apply below_drew1) | exact HB.out)⟩⟩
        case round =>
          clear H'
          try clear c1
          try clear p2
          try clear c3
          try clear c3b0
          try clear c4
          try clear p2
          obtain ⟨x4_2, x5_2, x6_2, rfl, HA, HK2, HO_4, HO_5, HB⟩ := hrel
          cases gk with
          | zero => exact absurd HA.out (by simp [drovewayref05_Count.l0])
          | succ k2 =>
            have H := HA.out
            clear HA
            simp only [drovewayref05_Count.l0] at H
            by_cases c9 : x6_2 ≤ a0
            · rw [if_pos c9] at H
              have c9b0 : decide (x6_2 ≤ a0) = true := decide_eq_true c9
              clear c9
              have H' := Aside0.mk H
              clear H
              go_wp2
              repeat (go_quiet (fail); try go_wp2)
              go_loopg [7, 8] k2 (fun kq v7 v8 w' => ∃ (x7_3 : Int) (x8_3 : Int), v7 = .int .i64 x7_3 ∧ v8 = .int .i64 x8_3 ∧ Aside0 (drovewayref05_Count.l1 kq a0 x4_2 x5_2 x6_2 x7_3 x8_3 = some (r1, r2)) ∧ Aside0 (kq ≤ k2) ∧ Aside0 (Kd.R (Kd.int .i64) 3 w' w.heap.size (fun k_ => some k_ ≠ (u5 : Value).ownBlock) u4 x4_2) ∧ Aside0 (Kd.R (Kd.int .i64) 3 w' w.heap.size (fun k_ => some k_ ≠ (u4 : Value).ownBlock) u5 x5_2) ∧ Aside0 (Below w.heap.size w w'))
              case atStart => exact ⟨(0), (1), (by first | rfl | (simp; done) | (simp [*]; done)), (by first | rfl | (simp; done) | (simp [*]; done)), H', ⟨Nat.le_refl _⟩, ⟨by (with_reducible repeat (first | apply Kd.R_alloc | apply Kd.R_drewN | apply Kd.R_drew)); exact HO_4.out⟩, ⟨by (with_reducible repeat (first | apply Kd.R_alloc | apply Kd.R_drewN | apply Kd.R_drew)); exact HO_5.out⟩, ⟨by repeat (first | (with_reducible first | exact HB.out | apply below_alloc | apply pw_below_drewN | apply below_drew1) | exact HB.out)⟩⟩
              case round =>
                clear H'
                try clear c1
                try clear p2
                try clear c3
                try clear c3b0
                try clear c4
                try clear c9
                try clear c9b0
                try clear p2
                obtain ⟨x7_3, x8_3, rfl, rfl, HA, HK3, HO_4, HO_5, HB⟩ := hrel
                cases gk with
                | zero => exact absurd HA.out (by simp [drovewayref05_Count.l1])
                | succ k3 =>
                  have H := HA.out
                  clear HA
                  simp only [drovewayref05_Count.l1] at H
                  by_cases c10 : x8_3 < x6_2
                  · rw [if_pos c10] at H
                    have c10b0 : decide (x8_3 < x6_2) = true := decide_eq_true c10
                    clear c10
                    replace H := Option.bind_eq_some_iff.mp H
                    obtain ⟨t123, A110, H⟩ := H
                    replace H : (if 0 ≤ x8_3 then (if x8_3 < (x4_2.length : Int) then (if 0 ≤ (wrap64 (x6_2 - x8_3)) then (if (wrap64 (x6_2 - x8_3)) < (x5_2.length : Int) then (drovewayref05_Count.l1 k3 a0 x4_2 x5_2 x6_2 (wrap64 (x7_3 + (wrap64 ((wrap64 (t123 * (rd x4_2 x8_3))) * (rd x5_2 (wrap64 (x6_2 - x8_3))))))) (wrap64 (x8_3 + 1))) else (none)) else (none)) else (none)) else (none)) = some (r1, r2) := H
                    have A11 := Aside0.mk A110
                    clear A110
                    by_cases c12 : 0 ≤ x8_3
                    · rw [if_pos c12] at H
                      have c12b0 : decide (0 ≤ x8_3) = true := decide_eq_true c12
                      clear c12
                      by_cases c13 : x8_3 < (x4_2.length : Int)
                      · rw [if_pos c13] at H
                        have c13b0 : decide (x8_3 < (x4_2.length : Int)) = true := decide_eq_true c13
                        clear c13
                        obtain ⟨ji14, hji14⟩ : ∃ j_ : Int, (wrap64 (x6_2 - x8_3)) = j_ := ⟨_, rfl⟩
                        replace H : (if 0 ≤ (ji14) then (if (ji14) < (x5_2.length : Int) then (drovewayref05_Count.l1 k3 a0 x4_2 x5_2 x6_2 (wrap64 (x7_3 + (wrap64 ((wrap64 (t123 * (rd x4_2 x8_3))) * (rd x5_2 (ji14)))))) (wrap64 (x8_3 + 1))) else (none)) else (none)) = some (r1, r2) := by first | (rw [hji14] at H; exact H) | (simp only [hji14] at H ⊢; exact H)
                        (try rw [hji14] at A11)
                        have hji14w : (IntKind.i64.wrap (x6_2 - x8_3)) = ji14 := (i64_w _).trans hji14
                        by_cases c15 : 0 ≤ (ji14)
                        · rw [if_pos c15] at H
                          have c15b0 : decide (0 ≤ (ji14)) = true := decide_eq_true c15
                          clear c15
                          by_cases c16 : (ji14) < (x5_2.length : Int)
                          · rw [if_pos c16] at H
                            have c16b0 : decide ((ji14) < (x5_2.length : Int)) = true := decide_eq_true c16
                            clear c16
                            have H' := Aside0.mk H
                            clear H
                            obtain ⟨Ao17, co17, eo17⟩ := Kd.R_slice HO_4.out
                            subst eo17
                            have p124 : 0 ≤ (x8_3 : Int) := of_decide_eq_true (by first | (with_reducible assumption) | assumption)
                            have q124 : x8_3 < (x4_2.length : Int) := of_decide_eq_true (by first | (with_reducible assumption) | assumption)
                            obtain ⟨ad124, e124, hx124_0⟩ := Kd.at_int (Kd.R_reads' HO_4.out).2.2 x8_3 p124 q124
                            cases e124
                            replace p124 := eq_true p124
                            replace q124 := eq_true q124
                            obtain ⟨Ao18, co18, eo18⟩ := Kd.R_slice HO_5.out
                            subst eo18
                            have p125 : 0 ≤ ((ji14) : Int) := of_decide_eq_true (by first | (with_reducible assumption) | assumption)
                            have q125 : (ji14) < (x5_2.length : Int) := of_decide_eq_true (by first | (with_reducible assumption) | assumption)
                            obtain ⟨ad125, e125, hx125_0⟩ := Kd.at_int (Kd.R_reads' HO_5.out).2.2 (ji14) p125 q125
                            cases e125
                            replace p125 := eq_true p125
                            replace q125 := eq_true q125
                            generalize hv124 : rd x4_2 x8_3 = r124 at hx124_0
                            generalize hv125 : rd x5_2 ji14 = r125 at hx125_0
                            obtain ⟨b124, hb124⟩ : ∃ b, ad124.add x8_3.toNat = b := ⟨_, rfl⟩
                            obtain ⟨b125, hb125⟩ : ∃ b, ad125.add ji14.toNat = b := ⟨_, rfl⟩
                            rw [hb124] at hx124_0
                            rw [hb125] at hx125_0
                            go_upto_region 11 with fail
                            refine wp_region_noPanic ?_
                            refine wp_region_held_drew (S := fun w' => w'.cell? b124 = some (.int .i64 r124) ∧ w'.cell? b125 = some (.int .i64 r125)) (by kernel_rfl) (⟨hx124_0, hx125_0⟩) (fun hHeld => ?_)
                            refine H_on 0 27 ?vq0 rfl rfl (by kernel_rfl) (by kernel_rfl) (by kernel_rfl) (by rfl) ?hq0 hHeld ?rq0
                            case hq0 => (intro w hSw; obtain ⟨s0, s1⟩ := hSw; go_simp <;> with_reducible rfl)
                            simp only [Act.put, List.setIfInBounds_toArray, List.set_cons_zero, List.set_cons_succ]
                            refine H_on 1 28 ?vq1 rfl rfl (by kernel_rfl) (by kernel_rfl) (by kernel_rfl) (by rfl) ?hq1 hHeld ?rq1
                            case hq1 => (intro w hSw; obtain ⟨s0, s1⟩ := hSw; go_simp <;> with_reducible rfl)
                            simp only [Act.put, List.setIfInBounds_toArray, List.set_cons_zero, List.set_cons_succ]
                            refine H_on 2 29 ?vq2 rfl rfl (by kernel_rfl) (by kernel_rfl) (by kernel_rfl) (by rfl) ?hq2 hHeld ?rq2
                            case hq2 => (intro w hSw; obtain ⟨s0, s1⟩ := hSw; go_simp <;> with_reducible rfl)
                            simp only [Act.put, List.setIfInBounds_toArray, List.set_cons_zero, List.set_cons_succ]
                            refine H_on 3 30 ?vq3 rfl rfl (by kernel_rfl) (by kernel_rfl) (by kernel_rfl) (by rfl) ?hq3 hHeld ?rq3
                            case hq3 => (intro w hSw; obtain ⟨s0, s1⟩ := hSw; go_simp <;> with_reducible rfl)
                            simp only [Act.put, List.setIfInBounds_toArray, List.set_cons_zero, List.set_cons_succ]
                            refine H_on 4 31 ?vq4 rfl rfl (by kernel_rfl) (by kernel_rfl) (by kernel_rfl) (by rfl) ?hq4 hHeld ?rq4
                            case hq4 => (intro w hSw; obtain ⟨s0, s1⟩ := hSw; go_simp <;> with_reducible rfl)
                            simp only [Act.put, List.setIfInBounds_toArray, List.set_cons_zero, List.set_cons_succ]
                            refine H_on 6 33 ?vq6 rfl rfl (by kernel_rfl) (by kernel_rfl) (by kernel_rfl) (by rfl) ?hq6 hHeld ?rq6
                            case hq6 => (intro w hSw; obtain ⟨s0, s1⟩ := hSw; go_simp <;> with_reducible rfl)
                            simp only [Act.put, List.setIfInBounds_toArray, List.set_cons_zero, List.set_cons_succ]
                            refine H_on 7 34 ?vq7 rfl rfl (by kernel_rfl) (by kernel_rfl) (by kernel_rfl) (by rfl) ?hq7 hHeld ?rq7
                            case hq7 => (intro w hSw; obtain ⟨s0, s1⟩ := hSw; go_simp <;> with_reducible rfl)
                            simp only [Act.put, List.setIfInBounds_toArray, List.set_cons_zero, List.set_cons_succ]
                            refine H_on 8 35 ?vq8 rfl rfl (by kernel_rfl) (by kernel_rfl) (by kernel_rfl) (by rfl) ?hq8 hHeld ?rq8
                            case hq8 => (intro w hSw; obtain ⟨s0, s1⟩ := hSw; go_simp <;> with_reducible rfl)
                            simp only [Act.put, List.setIfInBounds_toArray, List.set_cons_zero, List.set_cons_succ]
                            refine H_on 9 36 ?vq9 rfl rfl (by kernel_rfl) (by kernel_rfl) (by kernel_rfl) (by rfl) ?hq9 hHeld ?rq9
                            case hq9 => (intro w hSw; obtain ⟨s0, s1⟩ := hSw; go_simp <;> with_reducible rfl)
                            simp only [Act.put, List.setIfInBounds_toArray, List.set_cons_zero, List.set_cons_succ]
                            refine H_on 11 38 ?vq11 rfl rfl (by kernel_rfl) (by kernel_rfl) (by kernel_rfl) (by rfl) ?hq11 hHeld ?rq11
                            case hq11 => (intro w hSw; obtain ⟨s0, s1⟩ := hSw; go_simp <;> with_reducible rfl)
                            simp only [Act.put, List.setIfInBounds_toArray, List.set_cons_zero, List.set_cons_succ]
                            refine H_on 12 39 ?vq12 rfl rfl (by kernel_rfl) (by kernel_rfl) (by kernel_rfl) (by rfl) ?hq12 hHeld ?rq12
                            case hq12 => (intro w hSw; obtain ⟨s0, s1⟩ := hSw; go_simp <;> with_reducible rfl)
                            simp only [Act.put, List.setIfInBounds_toArray, List.set_cons_zero, List.set_cons_succ]
                            refine H_on 13 40 ?vq13 rfl rfl (by kernel_rfl) (by kernel_rfl) (by kernel_rfl) (by rfl) ?hq13 hHeld ?rq13
                            case hq13 => (intro w hSw; obtain ⟨s0, s1⟩ := hSw; go_simp <;> with_reducible rfl)
                            simp only [Act.put, List.setIfInBounds_toArray, List.set_cons_zero, List.set_cons_succ]
                            refine H_on 14 41 ?vq14 rfl rfl (by kernel_rfl) (by kernel_rfl) (by kernel_rfl) (by rfl) ?hq14 hHeld ?rq14
                            case hq14 => (intro w hSw; obtain ⟨s0, s1⟩ := hSw; go_simp <;> with_reducible rfl)
                            simp only [Act.put, List.setIfInBounds_toArray, List.set_cons_zero, List.set_cons_succ]
                            refine H_on 15 42 ?vq15 rfl rfl (by kernel_rfl) (by kernel_rfl) (by kernel_rfl) (by rfl) ?hq15 hHeld ?rq15
                            case hq15 => (intro w hSw; obtain ⟨s0, s1⟩ := hSw; go_simp <;> with_reducible rfl)
                            simp only [Act.put, List.setIfInBounds_toArray, List.set_cons_zero, List.set_cons_succ]
                            refine H_on 16 43 ?vq16 rfl rfl (by kernel_rfl) (by kernel_rfl) (by kernel_rfl) (by rfl) ?hq16 hHeld ?rq16
                            case hq16 => (intro w hSw; obtain ⟨s0, s1⟩ := hSw; go_simp <;> with_reducible rfl)
                            simp only [Act.put, List.setIfInBounds_toArray, List.set_cons_zero, List.set_cons_succ]
                            refine wpAnyH_ready (rs := [5]) (by kernel_rfl) (by simp) ?_
                            refine AllReadyH.cons rfl (fun K hK => ?_) AllReadyH.nil
                            go_simp
                            rw [show IntKind.i64.wrap (x6_2 - 1) = wrap64 (x6_2 - 1) from i64_w _, show IntKind.i64.wrap (x8_3 - 1) = wrap64 (x8_3 - 1) from i64_w _]
                            (with_reducible refine (drovewayref05_choose.calls k3 (wrap64 (x6_2 - 1)) (wrap64 (x8_3 - 1)) t123 _ A11.out).mono ?_)
                            rintro e w' ⟨rfl, ⟨nd, rfl⟩⟩
                            go_wp2_with fail
                            refine hK.out _ _ (⟨hx124_0, hx125_0⟩) (fun hHeld => ?_)
                            clear hK K
                            try simp only [Act.put, List.setIfInBounds_toArray, List.set_cons_zero, List.set_cons_succ]
                            refine H_on 10 37 ?vq10 rfl rfl (by kernel_rfl) (by kernel_rfl) (by kernel_rfl) (by rfl) ?hq10 hHeld ?rq10
                            case hq10 => (intro w hSw; obtain ⟨s0, s1⟩ := hSw; go_simp <;> with_reducible rfl)
                            simp only [Act.put, List.setIfInBounds_toArray, List.set_cons_zero, List.set_cons_succ]
                            refine H_on 17 44 ?vq17 rfl rfl (by kernel_rfl) (by kernel_rfl) (by kernel_rfl) (by rfl) ?hq17 hHeld ?rq17
                            case hq17 => (intro w hSw; obtain ⟨s0, s1⟩ := hSw; go_simp <;> with_reducible rfl)
                            simp only [Act.put, List.setIfInBounds_toArray, List.set_cons_zero, List.set_cons_succ]
                            refine H_on 18 45 ?vq18 rfl rfl (by kernel_rfl) (by kernel_rfl) (by kernel_rfl) (by rfl) ?hq18 hHeld ?rq18
                            case hq18 => (intro w hSw; obtain ⟨s0, s1⟩ := hSw; go_simp <;> with_reducible rfl)
                            simp only [Act.put, List.setIfInBounds_toArray, List.set_cons_zero, List.set_cons_succ]
                            refine H_on 19 7 ?vq19 rfl rfl (by kernel_rfl) (by kernel_rfl) (by kernel_rfl) (by rfl) ?hq19 hHeld ?rq19
                            case hq19 => (intro w hSw; obtain ⟨s0, s1⟩ := hSw; go_simp <;> with_reducible rfl)
                            simp only [Act.put, List.setIfInBounds_toArray, List.set_cons_zero, List.set_cons_succ]
                            refine wpAnyH_done (by kernel_rfl) ?_ _
                            refine NoPanic.normal ?_
                            clear hHeld
                            go_wp2
                            go_roundg k3
                            case measure => have := HJ1.out; have := HK2.out; have := HK3.out; omega
                            case rel => exact ⟨(wrap64 (x7_3 + (wrap64 ((wrap64 (t123 * (rd x4_2 x8_3))) * (rd x5_2 (ji14)))))), (wrap64 (x8_3 + 1)), (by rw [hv124, hv125]; simp only [i64_w]), (by first | rfl | (simp; done) | (simp [*]; done)), H', ⟨by have := HJ1.out; have := HK2.out; have := HK3.out; omega⟩, ⟨by (with_reducible repeat (first | apply Kd.R_alloc | apply Kd.R_drewN | apply Kd.R_drew)); exact HO_4.out⟩, ⟨by (with_reducible repeat (first | apply Kd.R_alloc | apply Kd.R_drewN | apply Kd.R_drew)); exact HO_5.out⟩, ⟨by repeat (first | (with_reducible first | exact HB.out | apply below_alloc | apply pw_below_drewN | apply below_drew1) | exact HB.out)⟩⟩
                          · rw [if_neg c16] at H
                            exact absurd H (by simp)
                        · rw [if_neg c15] at H
                          exact absurd H (by simp)
                      · rw [if_neg c13] at H
                        exact absurd H (by simp)
                    · rw [if_neg c12] at H
                      exact absurd H (by simp)
                  · rw [if_neg c10] at H
                    have c10b0 : decide (x8_3 < x6_2) = false := decide_eq_false c10
                    clear c10
                    by_cases c19 : x4_2.length < 17592186044416
                    · rw [if_pos c19] at H
                      have LMc19 := Aside0.mk c19
                      clear c19
                      obtain ⟨y126, hy126⟩ : ∃ y_ : List Int, y_ = (x4_2 ++ [x7_3]) := ⟨_, rfl⟩
                      replace H : (if x5_2.length < 17592186044416 then (drovewayref05_Count.l0 k3 a0 y126 (x5_2 ++ [wrap64 (2 * x7_3)]) (wrap64 (x6_2 + 1))) else (none)) = some (r1, r2) := by first | (rw [hy126]; with_reducible exact H) | (have H2_ := (Option.bind_some _ _).symm.trans H; rw [hy126]; with_reducible exact H2_) | (have H2_ := (Option.bind_some _ _).symm.trans H; with_reducible exact H2_) | with_reducible exact H | (rw [hy126]; exact H) | exact H
                      have Ny126 := Aside0.mk hy126
                      clear hy126
                      by_cases c20 : x5_2.length < 17592186044416
                      · rw [if_pos c20] at H
                        have LMc20 := Aside0.mk c20
                        clear c20
                        obtain ⟨y129, hy129⟩ : ∃ y_ : List Int, y_ = (x5_2 ++ [wrap64 (2 * x7_3)]) := ⟨_, rfl⟩
                        replace H : (drovewayref05_Count.l0 k3 a0 y126 y129 (wrap64 (x6_2 + 1))) = some (r1, r2) := by first | (rw [hy129]; with_reducible exact H) | (have H2_ := (Option.bind_some _ _).symm.trans H; rw [hy129]; with_reducible exact H2_) | (have H2_ := (Option.bind_some _ _).symm.trans H; with_reducible exact H2_) | with_reducible exact H | (rw [hy129]; exact H) | exact H
                        have Ny129 := Aside0.mk hy129
                        clear hy129
                        have H' := Aside0.mk H
                        clear H
                        go_wp2_with (first | ((with_reducible refine gate_builtin (b := .append) (xs := #[.tmp 46, .tmp 48]) rfl ?_); at_builtin; refine Kd.R_append (Kd.int .i64) (w0 := w) w.heap.size rfl (.tmp 46) (.tmp 48) 32 3 (.int .i64 0) 8 rfl Tryd.underlying32 info3 rfl (by decide) (by omega) u4 x4_2 x7_3 [.int .i64 x7_3] (fun k_ => some k_ ≠ (u5 : Value).ownBlock) (fun _ => False) rfl rfl ?aP (fun _ hk => hk.elim) ?aF ?aO ?aB ?aS ?aL ?_; (case aP => exact rfl); (case aB => exact (by repeat (first | (with_reducible first | exact HB.out | apply below_alloc | apply pw_below_drewN | apply below_drew1) | exact HB.out))); (case aF => exact (fun k_ hk => Kd.fresh' (Kd.R_lt (by (with_reducible repeat (first | apply Kd.R_alloc | apply Kd.R_drewN | apply Kd.R_drew)); exact HO_5.out)) k_ hk)); (case aO => exact (by (with_reducible repeat (first | apply Kd.R_alloc | apply Kd.R_drewN | apply Kd.R_drew)); exact HO_4.out)); (case aS => exact (below_size (by repeat (first | (with_reducible first | exact HB.out | apply below_alloc | apply pw_below_drewN | apply below_drew1) | exact HB.out)))); (case aL => have := LMc19.out; omega); intro v127 w21 ho hb hg hat; rw [← Ny126.out] at ho; have n0_ := Aside0.mk (Kd.R_after (ok := (fun _ => True)) (by (with_reducible repeat (first | apply Kd.R_alloc | apply Kd.R_drewN | apply Kd.R_drew)); exact Kd.R_mono HO_5.out (fun _ hk => ⟨trivial, hk⟩)) hg hat); have n1_ := Aside0.mk (hb); have n2_ := Aside0.mk (ho); clear HO_5; clear HB; clear HO_4; have HO_5 := n0_; have HB := n1_; have HO128 := n2_; clear n0_ n1_ n2_; clear ho hb hg hat) | ((with_reducible refine gate_builtin (b := .append) (xs := #[.tmp 50, .tmp 53]) rfl ?_); at_builtin; refine Kd.R_append (Kd.int .i64) (w0 := w) w.heap.size rfl (.tmp 50) (.tmp 53) 32 3 (.int .i64 0) 8 rfl Tryd.underlying32 info3 rfl (by decide) (by omega) u5 x5_2 (wrap64 (2 * x7_3)) [.int .i64 (wrap64 (2 * x7_3))] (fun k_ => some k_ ≠ (v127 : Value).ownBlock) (fun _ => False) rfl rfl ?aP (fun _ hk => hk.elim) ?aF ?aO ?aB ?aS ?aL ?_; (case aP => exact rfl); (case aB => exact (by repeat (first | (with_reducible first | exact HB.out | apply below_alloc | apply pw_below_drewN | apply below_drew1) | exact HB.out))); (case aF => exact (fun k_ hk => Kd.fresh' (Kd.R_lt (by (with_reducible repeat (first | apply Kd.R_alloc | apply Kd.R_drewN | apply Kd.R_drew)); exact HO128.out)) k_ hk)); (case aO => exact (by (with_reducible repeat (first | apply Kd.R_alloc | apply Kd.R_drewN | apply Kd.R_drew)); exact Kd.R_mono HO_5.out (fun _ hk => hk.2))); (case aS => exact (below_size (by repeat (first | (with_reducible first | exact HB.out | apply below_alloc | apply pw_below_drewN | apply below_drew1) | exact HB.out)))); (case aL => have := LMc20.out; omega); intro v130 w22 ho hb hg hat; rw [← Ny129.out] at ho; have n0_ := Aside0.mk (Kd.R_after (ok := (fun _ => True)) (by (with_reducible repeat (first | apply Kd.R_alloc | apply Kd.R_drewN | apply Kd.R_drew)); exact Kd.R_mono HO128.out (fun _ hk => ⟨trivial, hk⟩)) hg hat); have n1_ := Aside0.mk (hb); have n2_ := Aside0.mk (ho); clear HO128; clear HB; clear HO_5; have HO128 := n0_; have HB := n1_; have HO131 := n2_; clear n0_ n1_ n2_; clear ho hb hg hat))
                        repeat (go_quiet (first | ((with_reducible refine gate_builtin (b := .append) (xs := #[.tmp 46, .tmp 48]) rfl ?_); at_builtin; refine Kd.R_append (Kd.int .i64) (w0 := w) w.heap.size rfl (.tmp 46) (.tmp 48) 32 3 (.int .i64 0) 8 rfl Tryd.underlying32 info3 rfl (by decide) (by omega) u4 x4_2 x7_3 [.int .i64 x7_3] (fun k_ => some k_ ≠ (u5 : Value).ownBlock) (fun _ => False) rfl rfl ?aP (fun _ hk => hk.elim) ?aF ?aO ?aB ?aS ?aL ?_; (case aP => exact rfl); (case aB => exact (by repeat (first | (with_reducible first | exact HB.out | apply below_alloc | apply pw_below_drewN | apply below_drew1) | exact HB.out))); (case aF => exact (fun k_ hk => Kd.fresh' (Kd.R_lt (by (with_reducible repeat (first | apply Kd.R_alloc | apply Kd.R_drewN | apply Kd.R_drew)); exact HO_5.out)) k_ hk)); (case aO => exact (by (with_reducible repeat (first | apply Kd.R_alloc | apply Kd.R_drewN | apply Kd.R_drew)); exact HO_4.out)); (case aS => exact (below_size (by repeat (first | (with_reducible first | exact HB.out | apply below_alloc | apply pw_below_drewN | apply below_drew1) | exact HB.out)))); (case aL => have := LMc19.out; omega); intro v127 w21 ho hb hg hat; rw [← Ny126.out] at ho; have n0_ := Aside0.mk (Kd.R_after (ok := (fun _ => True)) (by (with_reducible repeat (first | apply Kd.R_alloc | apply Kd.R_drewN | apply Kd.R_drew)); exact Kd.R_mono HO_5.out (fun _ hk => ⟨trivial, hk⟩)) hg hat); have n1_ := Aside0.mk (hb); have n2_ := Aside0.mk (ho); clear HO_5; clear HB; clear HO_4; have HO_5 := n0_; have HB := n1_; have HO128 := n2_; clear n0_ n1_ n2_; clear ho hb hg hat) | ((with_reducible refine gate_builtin (b := .append) (xs := #[.tmp 50, .tmp 53]) rfl ?_); at_builtin; refine Kd.R_append (Kd.int .i64) (w0 := w) w.heap.size rfl (.tmp 50) (.tmp 53) 32 3 (.int .i64 0) 8 rfl Tryd.underlying32 info3 rfl (by decide) (by omega) u5 x5_2 (wrap64 (2 * x7_3)) [.int .i64 (wrap64 (2 * x7_3))] (fun k_ => some k_ ≠ (v127 : Value).ownBlock) (fun _ => False) rfl rfl ?aP (fun _ hk => hk.elim) ?aF ?aO ?aB ?aS ?aL ?_; (case aP => exact rfl); (case aB => exact (by repeat (first | (with_reducible first | exact HB.out | apply below_alloc | apply pw_below_drewN | apply below_drew1) | exact HB.out))); (case aF => exact (fun k_ hk => Kd.fresh' (Kd.R_lt (by (with_reducible repeat (first | apply Kd.R_alloc | apply Kd.R_drewN | apply Kd.R_drew)); exact HO128.out)) k_ hk)); (case aO => exact (by (with_reducible repeat (first | apply Kd.R_alloc | apply Kd.R_drewN | apply Kd.R_drew)); exact Kd.R_mono HO_5.out (fun _ hk => hk.2))); (case aS => exact (below_size (by repeat (first | (with_reducible first | exact HB.out | apply below_alloc | apply pw_below_drewN | apply below_drew1) | exact HB.out)))); (case aL => have := LMc20.out; omega); intro v130 w22 ho hb hg hat; rw [← Ny129.out] at ho; have n0_ := Aside0.mk (Kd.R_after (ok := (fun _ => True)) (by (with_reducible repeat (first | apply Kd.R_alloc | apply Kd.R_drewN | apply Kd.R_drew)); exact Kd.R_mono HO128.out (fun _ hk => ⟨trivial, hk⟩)) hg hat); have n1_ := Aside0.mk (hb); have n2_ := Aside0.mk (ho); clear HO128; clear HB; clear HO_5; have HO128 := n0_; have HB := n1_; have HO131 := n2_; clear n0_ n1_ n2_; clear ho hb hg hat)); try go_wp2_with (first | ((with_reducible refine gate_builtin (b := .append) (xs := #[.tmp 46, .tmp 48]) rfl ?_); at_builtin; refine Kd.R_append (Kd.int .i64) (w0 := w) w.heap.size rfl (.tmp 46) (.tmp 48) 32 3 (.int .i64 0) 8 rfl Tryd.underlying32 info3 rfl (by decide) (by omega) u4 x4_2 x7_3 [.int .i64 x7_3] (fun k_ => some k_ ≠ (u5 : Value).ownBlock) (fun _ => False) rfl rfl ?aP (fun _ hk => hk.elim) ?aF ?aO ?aB ?aS ?aL ?_; (case aP => exact rfl); (case aB => exact (by repeat (first | (with_reducible first | exact HB.out | apply below_alloc | apply pw_below_drewN | apply below_drew1) | exact HB.out))); (case aF => exact (fun k_ hk => Kd.fresh' (Kd.R_lt (by (with_reducible repeat (first | apply Kd.R_alloc | apply Kd.R_drewN | apply Kd.R_drew)); exact HO_5.out)) k_ hk)); (case aO => exact (by (with_reducible repeat (first | apply Kd.R_alloc | apply Kd.R_drewN | apply Kd.R_drew)); exact HO_4.out)); (case aS => exact (below_size (by repeat (first | (with_reducible first | exact HB.out | apply below_alloc | apply pw_below_drewN | apply below_drew1) | exact HB.out)))); (case aL => have := LMc19.out; omega); intro v127 w21 ho hb hg hat; rw [← Ny126.out] at ho; have n0_ := Aside0.mk (Kd.R_after (ok := (fun _ => True)) (by (with_reducible repeat (first | apply Kd.R_alloc | apply Kd.R_drewN | apply Kd.R_drew)); exact Kd.R_mono HO_5.out (fun _ hk => ⟨trivial, hk⟩)) hg hat); have n1_ := Aside0.mk (hb); have n2_ := Aside0.mk (ho); clear HO_5; clear HB; clear HO_4; have HO_5 := n0_; have HB := n1_; have HO128 := n2_; clear n0_ n1_ n2_; clear ho hb hg hat) | ((with_reducible refine gate_builtin (b := .append) (xs := #[.tmp 50, .tmp 53]) rfl ?_); at_builtin; refine Kd.R_append (Kd.int .i64) (w0 := w) w.heap.size rfl (.tmp 50) (.tmp 53) 32 3 (.int .i64 0) 8 rfl Tryd.underlying32 info3 rfl (by decide) (by omega) u5 x5_2 (wrap64 (2 * x7_3)) [.int .i64 (wrap64 (2 * x7_3))] (fun k_ => some k_ ≠ (v127 : Value).ownBlock) (fun _ => False) rfl rfl ?aP (fun _ hk => hk.elim) ?aF ?aO ?aB ?aS ?aL ?_; (case aP => exact rfl); (case aB => exact (by repeat (first | (with_reducible first | exact HB.out | apply below_alloc | apply pw_below_drewN | apply below_drew1) | exact HB.out))); (case aF => exact (fun k_ hk => Kd.fresh' (Kd.R_lt (by (with_reducible repeat (first | apply Kd.R_alloc | apply Kd.R_drewN | apply Kd.R_drew)); exact HO128.out)) k_ hk)); (case aO => exact (by (with_reducible repeat (first | apply Kd.R_alloc | apply Kd.R_drewN | apply Kd.R_drew)); exact Kd.R_mono HO_5.out (fun _ hk => hk.2))); (case aS => exact (below_size (by repeat (first | (with_reducible first | exact HB.out | apply below_alloc | apply pw_below_drewN | apply below_drew1) | exact HB.out)))); (case aL => have := LMc20.out; omega); intro v130 w22 ho hb hg hat; rw [← Ny129.out] at ho; have n0_ := Aside0.mk (Kd.R_after (ok := (fun _ => True)) (by (with_reducible repeat (first | apply Kd.R_alloc | apply Kd.R_drewN | apply Kd.R_drew)); exact Kd.R_mono HO128.out (fun _ hk => ⟨trivial, hk⟩)) hg hat); have n1_ := Aside0.mk (hb); have n2_ := Aside0.mk (ho); clear HO128; clear HB; clear HO_5; have HO128 := n0_; have HB := n1_; have HO131 := n2_; clear n0_ n1_ n2_; clear ho hb hg hat)))
                        go_roundg k3
                        case measure => have := HJ1.out; have := HK2.out; have := HK3.out; omega
                        case rel => exact ⟨(y126), (y129), (wrap64 (x6_2 + 1)), (by first | rfl | (simp; done) | (simp [*]; done)), H', ⟨by have := HJ1.out; have := HK2.out; have := HK3.out; omega⟩, ⟨by (with_reducible repeat (first | apply Kd.R_alloc | apply Kd.R_drewN | apply Kd.R_drew)); exact Kd.R_mono HO128.out (fun _ hk => hk.2)⟩, ⟨by (with_reducible repeat (first | apply Kd.R_alloc | apply Kd.R_drewN | apply Kd.R_drew)); exact HO131.out⟩, ⟨by repeat (first | (with_reducible first | exact HB.out | apply below_alloc | apply pw_below_drewN | apply below_drew1) | exact HB.out)⟩⟩
                      · rw [if_neg c20] at H
                        exact absurd H (by simp)
                    · rw [if_neg c19] at H
                      exact absurd H (by simp)
            · rw [if_neg c9] at H
              have c9b0 : decide (x6_2 ≤ a0) = false := decide_eq_false c9
              clear c9
              by_cases c23 : 0 ≤ a0
              · rw [if_pos c23] at H
                have c23b0 : decide (0 ≤ a0) = true := decide_eq_true c23
                clear c23
                by_cases c24 : a0 < (x4_2.length : Int)
                · rw [if_pos c24] at H
                  have c24b0 : decide (a0 < (x4_2.length : Int)) = true := decide_eq_true c24
                  clear c24
                  simp only [Option.some.injEq, Prod.mk.injEq] at H
                  obtain ⟨rfl, rfl⟩ := H
                  obtain ⟨Ao25, co25, eo25⟩ := Kd.R_slice HO_4.out
                  subst eo25
                  have p122 : 0 ≤ (a0 : Int) := of_decide_eq_true (by first | (with_reducible assumption) | assumption)
                  have q122 : a0 < (x4_2.length : Int) := of_decide_eq_true (by first | (with_reducible assumption) | assumption)
                  obtain ⟨ad122, e122, hx122_0⟩ := Kd.at_int (Kd.R_reads' HO_4.out).2.2 a0 p122 q122
                  cases e122
                  replace p122 := eq_true p122
                  replace q122 := eq_true q122
                  go_wp2
                  repeat (go_quiet (fail); try go_wp2)
                  go_ret2
                  exact ⟨by first | rfl | (simp [errW_none, errW_some] <;> rfl) | (simp [*, errW_none, errW_some] <;> rfl), by repeat (first | (with_reducible first | exact HB.out | apply below_alloc | apply pw_below_drewN | apply below_drew1) | exact HB.out)⟩
                · rw [if_neg c24] at H
                  exact absurd H (by simp)
              · rw [if_neg c23] at H
                exact absurd H (by simp)

end
end Go.Proofs.YtdbbcngmnpejnaaDoor.B

/- Count and the reference's Count give the same. -/
namespace Go.Proofs.YtdbbcngmnpejnaaDoor.B
open Go.Proofs.YtdbbcngmnpejnaaDoor.A
open Go.RowKit Go.Proofs.YtdbbcngmnpejnaaDoorW.PrintWords Go.Proofs.YtdbbcngmnpejnaaDoorW.PrintMore

def countE (n : Int) : Int × Int := if 1 ≤ n ∧ n ≤ 8 then (([0, 1, 1, 4, 26, 236, 2752, 39208, 660032] : List Int).getD n.toNat 0, 0) else (0, 2)
theorem count_in : (List.range 9).all (fun n => n == 0 || (decide (breed_Count.f 80 (n : Int) = some (countE n)) && decide (drovewayref05_Count.f 160 (n : Int) = some (countE n)))) = true := by decide +kernel
theorem count_some (n : Int) : ∃ k, breed_Count.f k n = some (countE n) := by
  by_cases h : 1 ≤ n ∧ n ≤ 8
  · have h1 := List.all_eq_true.1 count_in n.toNat (List.mem_range.2 (by omega))
    have h2 : ((n.toNat : Nat) : Int) = n := by omega
    have h3 : (n.toNat == 0) = false := by rw [beq_eq_false_iff_ne]; omega
    rw [h2, h3, Bool.false_or, Bool.and_eq_true, decide_eq_true_iff, decide_eq_true_iff] at h1
    exact ⟨80, h1.1⟩
  · refine ⟨1, ?_⟩
    unfold breed_Count.f breed_herd.f countE
    rw [if_neg h]
    by_cases h1 : n ≥ 1
    · rw [if_pos h1, Option.bind_some, if_neg (by rw [decide_eq_true_iff]; omega)]
    · rw [if_neg h1, Option.bind_some, if_neg Bool.false_ne_true]
theorem rcount_some (n : Int) : ∃ k, drovewayref05_Count.f k n = some (countE n) := by
  by_cases h : 1 ≤ n ∧ n ≤ 8
  · have h1 := List.all_eq_true.1 count_in n.toNat (List.mem_range.2 (by omega))
    have h2 : ((n.toNat : Nat) : Int) = n := by omega
    have h3 : (n.toNat == 0) = false := by rw [beq_eq_false_iff_ne]; omega
    rw [h2, h3, Bool.false_or, Bool.and_eq_true, decide_eq_true_iff, decide_eq_true_iff] at h1
    exact ⟨160, h1.2⟩
  · refine ⟨1, ?_⟩
    unfold drovewayref05_Count.f countE
    rw [if_neg h]
    by_cases h1 : n < 1
    · rw [if_pos h1, drovewayref05_Count.j0, if_pos rfl]
    · rw [if_neg h1, drovewayref05_Count.j0, if_pos (by rw [decide_eq_true_iff]; omega)]
theorem Count_calls (n : Int) (W : World) : Calls Tryd.prog 13 #[.int .i64 n] W fun e w' => e = .returned (.tuple #[.int .i64 (countE n).1, .int .i64 (countE n).2]) ∧ Below W.heap.size W w' := by
  obtain ⟨k, hk⟩ := count_some n
  exact (breed_Count.calls k n _ _ W hk).mono fun _ _ h => h
theorem RCount_calls (n : Int) (W : World) : Calls Tryd.prog 14 #[.int .i64 n] W fun e w' => e = .returned (.tuple #[.int .i64 (countE n).1, .int .i64 (countE n).2]) ∧ Below W.heap.size W w' := by
  obtain ⟨k, hk⟩ := rcount_some n
  exact (drovewayref05_Count.calls k n _ _ W hk).mono fun _ _ h => h
end Go.Proofs.YtdbbcngmnpejnaaDoor.B

/- alive: what every right program knows of a few beasts. -/
namespace Go.Proofs.YtdbbcngmnpejnaaDoor.B
open Go.Proofs.YtdbbcngmnpejnaaDoor.A
open Go.RowKit Go.Proofs.YtdbbcngmnpejnaaDoorW.PrintWords Go.Proofs.YtdbbcngmnpejnaaDoorW.PrintMore

/-- Two triples in a row that has just been made. -/
theorem two_reads (W : World) (a b : S44) : Kd.C k44 (W.alloc (.cells #[.int .i64 a.f0, .int .i64 a.f1, .int .i64 a.f2, .int .i64 b.f0, .int .i64 b.f1, .int .i64 b.f2] 44)) (some ⟨W.heap.size, 0, none⟩) 2 [a, b] := by
  refine ⟨rfl, by decide, fun _ => ⟨_, rfl, fun j p hj => ?_⟩⟩
  have hb := heap_alloc_new W (.cells #[.int .i64 a.f0, .int .i64 a.f1, .int .i64 a.f2, .int .i64 b.f0, .int .i64 b.f1, .int .i64 b.f2] 44)
  refine ⟨_, rfl, k44_mk _ p, fun i u hu => ?_⟩
  rw [add_plain, blk_cell hb]
  match j, hj, i, hu with
  | 0, hj, 0, hu => cases hj; exact hu
  | 0, hj, 1, hu => cases hj; exact hu
  | 0, hj, 2, hu => cases hj; exact hu
  | 1, hj, 0, hu => cases hj; exact hu
  | 1, hj, 1, hu => cases hj; exact hu
  | 1, hj, 2, hu => cases hj; exact hu
theorem alive_Build : buildE 4 [⟨0, 1, 2⟩, ⟨1, 2, 3⟩] = (⟨#[40, 40, 40, 48, 44, 49, 41, 44, 50, 41, 44, 51, 41]⟩, 0) := by kernel_rfl
theorem alive_Knot : knotE 3 [⟨0, 1, 2⟩, ⟨1, 2, 0⟩] = (7, 0) := by kernel_rfl
theorem sort_two {a b : BT} (h : low a.set ≤ low b.set) : sortB [a, b] = [a, b] := by
  unfold sortB
  refine List.mergeSort_of_pairwise ?_
  simp [h]
theorem alive_parse : parseE 4 [40, 40, 40, 48, 44, 49, 41, 44, 50, 41, 44, 51, 41] = some (.node [.node [.node [.leaf 0, .leaf 1], .leaf 2], .leaf 3]) := by kernel_rfl
theorem alive_text : (strB (BT.node [.node [.leaf 0, .leaf 2], .leaf 3]).text, (0 : Int)) = (⟨#[40, 40, 48, 44, 50, 41, 44, 51, 41]⟩, 0) := by kernel_rfl
theorem alive_Kept : keptE 4 [40, 40, 40, 48, 44, 49, 41, 44, 50, 41, 44, 51, 41] 13 = (⟨#[40, 40, 48, 44, 50, 41, 44, 51, 41]⟩, 0) := by
  unfold keptE
  rw [alive_parse]
  have h : BT.kept 13 (.node [.node [.node [.leaf 0, .leaf 1], .leaf 2], .leaf 3]) = some (.node [.node [.leaf 0, .leaf 2], .leaf 3]) := by
    have h0 : BT.kept 13 (.leaf 0) = some (.leaf 0) := by kernel_rfl
    have h1 : BT.kept 13 (.leaf 1) = none := by kernel_rfl
    have h2 : BT.kept 13 (.leaf 2) = some (.leaf 2) := by kernel_rfl
    have h3 : BT.kept 13 (.leaf 3) = some (.leaf 3) := by kernel_rfl
    have ha : BT.kept 13 (.node [.leaf 0, .leaf 1]) = some (.leaf 0) := by
      rw [BT.kept, BT.keptL, h0, BT.keptL, h1, BT.keptL]; rfl
    have hb : BT.kept 13 (.node [.node [.leaf 0, .leaf 1], .leaf 2]) = some (.node [.leaf 0, .leaf 2]) := by
      rw [BT.kept, BT.keptL, ha, BT.keptL, h2, BT.keptL]
      show some (BT.node (sortB _)) = _
      rw [sort_two (by decide +kernel)]
    rw [BT.kept, BT.keptL, hb, BT.keptL, h3, BT.keptL]
    show some (BT.node (sortB _)) = _
    rw [sort_two (by decide +kernel)]
  simp only []
  rw [if_pos (by decide), show (13 : Int).toNat = 13 from rfl, h]
  exact alive_text
theorem alive_Family : familyE 3 [40, 40, 48, 44, 49, 41, 44, 50, 41] 0 1 = (3, 0) := by kernel_rfl

set_option maxRecDepth 100000 in
set_option maxHeartbeats 3200000 in
theorem alive_calls (w : World) (hT : TabAt w) : Calls Tryd.prog 15 #[] w fun e w' => e = .returned (.bool true) ∧ Below w.heap.size w w' := by
  have HT := Aside0.mk hT
  have HB := Aside0.mk (Below.refl w.heap.size w)
  have H1 : Aside0 (∀ W, TabAt W → Calls Tryd.prog 17 #[.int .i64 4, .slice (some ⟨W.heap.size, 0, none⟩) 2 2] (W.alloc (.cells #[.int .i64 0, .int .i64 1, .int .i64 2, .int .i64 1, .int .i64 2, .int .i64 3] 44)) fun e w' => e = .returned (.tuple #[.string ⟨#[40, 40, 40, 48, 44, 49, 41, 44, 50, 41, 44, 51, 41]⟩, .int .i64 0]) ∧ Below W.heap.size W w') := ⟨fun W hT => by
    have := Build_calls 4 (some ⟨W.heap.size, 0, none⟩) 2 [⟨0, 1, 2⟩, ⟨1, 2, 3⟩] _ (two_reads W ⟨0, 1, 2⟩ ⟨1, 2, 3⟩) (by decide) (hT.next ((Below.refl _ _).alloc (Nat.le_refl _) _))
    rw [alive_Build] at this
    exact this.mono fun e w' ⟨h1, h2⟩ => ⟨h1, below_then ((Below.refl _ W).alloc (Nat.le_refl _) _) ((Below.refl _ W).alloc (Nat.le_refl _) _).size h2⟩⟩
  have H2 : Aside0 (∀ W, Calls Tryd.prog 19 #[.int .i64 3, .slice (some ⟨W.heap.size, 0, none⟩) 2 2] (W.alloc (.cells #[.int .i64 0, .int .i64 1, .int .i64 2, .int .i64 1, .int .i64 2, .int .i64 0] 44)) fun e w' => e = .returned (.tuple #[.int .i64 7, .int .i64 0]) ∧ Below W.heap.size W w') := ⟨fun W => by
    have := Knot_calls 3 (some ⟨W.heap.size, 0, none⟩) 2 [⟨0, 1, 2⟩, ⟨1, 2, 0⟩] _ (two_reads W ⟨0, 1, 2⟩ ⟨1, 2, 0⟩) (by decide)
    rw [alive_Knot] at this
    exact this.mono fun e w' ⟨h1, h2⟩ => ⟨h1, below_then ((Below.refl _ W).alloc (Nat.le_refl _) _) ((Below.refl _ W).alloc (Nat.le_refl _) _).size h2⟩⟩
  have H3 : Aside0 (∀ W, Calls Tryd.prog 13 #[.int .i64 5] W fun e w' => e = .returned (.tuple #[.int .i64 236, .int .i64 0]) ∧ Below W.heap.size W w') := ⟨fun W => Count_calls 5 W⟩
  have H4 : Aside0 (∀ W, TabAt W → Calls Tryd.prog 24 #[.int .i64 4, .string ⟨#[40, 40, 40, 48, 44, 49, 41, 44, 50, 41, 44, 51, 41]⟩, .int .i64 13] W fun e w' => e = .returned (.tuple #[.string ⟨#[40, 40, 48, 44, 50, 41, 44, 51, 41]⟩, .int .i64 0]) ∧ Below W.heap.size W w') := ⟨fun W hT => by
    have := Kept_calls 4 [40, 40, 40, 48, 44, 49, 41, 44, 50, 41, 44, 51, 41] 13 W hT
    rw [alive_Kept] at this
    exact this⟩
  have H5 : Aside0 (∀ W, TabAt W → Calls Tryd.prog 42 #[.int .i64 3, .string ⟨#[40, 40, 48, 44, 49, 41, 44, 50, 41]⟩, .int .i64 0, .int .i64 1] W fun e w' => e = .returned (.tuple #[.int .i64 3, .int .i64 0]) ∧ Below W.heap.size W w') := ⟨fun W hT => by
    have := Family_calls 3 [40, 40, 48, 44, 49, 41, 44, 50, 41] 0 1 W hT
    rw [alive_Family] at this
    exact this⟩
  clear hT
  go_enter Tryd.func15, Tryd.ntmps15
  go_wp2_with (first
    | (go_at_call 17; go_must (refine (H1.out _ HT.out).mono ?_; rintro e w1 ⟨rfl, hb⟩; have HB1 := Aside0.mk hb; clear hb))
    | (go_at_call 19; go_must (refine (H2.out _).mono ?_; rintro e w2 ⟨rfl, hb⟩; have HB2 := Aside0.mk (below_then HB1.out HB1.out.size hb); clear hb))
    | (go_at_call 13; go_must (refine (H3.out _).mono ?_; rintro e w3 ⟨rfl, hb⟩; have HB3 := Aside0.mk (below_then HB2.out HB2.out.size hb); clear hb))
    | (go_at_call 24; go_must (refine (H4.out _ (HT.out.next HB3.out)).mono ?_; rintro e w4 ⟨rfl, hb⟩; have HB4 := Aside0.mk (below_then HB3.out HB3.out.size hb); clear hb))
    | (go_at_call 42; go_must (refine (H5.out _ (HT.out.next HB4.out)).mono ?_; rintro e w5 ⟨rfl, hb⟩; have HB5 := Aside0.mk (below_then HB4.out HB4.out.size hb); clear hb)))
  go_ret
  exact ⟨rfl, HB5.out⟩
end Go.Proofs.YtdbbcngmnpejnaaDoor.B

/- What the laid variables give the walks: the table of math/bits lies; and the door's own heap meets the condition. -/
namespace Go.Proofs.YtdbbcngmnpejnaaDoor.B
open Go.Proofs.YtdbbcngmnpejnaaDoor.A
open Go Go.ChangeShapes Go.WideShapes Go.ChangeAt Go.RowKit
def laidB : List (String × DataW Unit) := [("math/bits.deBruijn32tab", Rows.laid_math_bits_deBruijn32tab), ("math/bits.deBruijn64tab", Rows.laid_math_bits_deBruijn64tab)]
theorem gTab : Tryd.prog.globalNamed "math/bits.deBruijn64tab" = some 1 := by kernel_rfl
theorem tTab : (Tryd.prog.globals[1]?).map (·.type) = some 150 := by kernel_rfl
theorem uTab : Tryd.prog.underlying 150 = some (.array 64 5) := Tryd.underlying150
theorem uU8 : Tryd.prog.underlying 5 = some (.int .u8) := Tryd.underlying5
theorem cU8 : Tryd.prog.cellsOf 5 = 1 := by kernel_rfl
/-- The door's own heap meets the condition. -/
theorem door_met (os : Os) (args : Array Value) : laidMetH Tryd.prog laidB ((World.doorLaid Tryd.prog 24 os).forCall (fun _ _ => 0) ⟨#[], args, []⟩).memory :=
  laidMetH_of_parts3 (fuel := 8) (laidMet_of_run' 8 (by kernel_rfl) (by kernel_rfl)) (by kernel_rfl) (by kernel_rfl)
theorem tab_data : (Rows.laid_math_bits_deBruijn64tab : DataW Unit) = .agg (tab64.map fun n => .lit (.int .u8 n)) := by rfl
theorem of_laid {W : World} (h : laidMetH Tryd.prog laidB W) : TabAt W := by
  rw [MakeChecks.laidMetH_plain _ _ _ (by kernel_rfl)] at h
  obtain ⟨ps, ⟨g0, t0, cs0, f0, p0, q0, hg0, ht0, hv0, hd0, ⟨g1, t1, cs1, f1, p1, q1, hg1, ht1, hv1, hd1, _, _⟩, _⟩, _, _⟩ := h
  obtain rfl := Option.some.inj (gTab.symm.trans hg1)
  obtain rfl := Option.some.inj (tTab.symm.trans ht1)
  rw [tab_data] at hd1
  obtain ⟨xs, m1, rfl, hx1, hlen, hn3, hel⟩ := DataW.trod_array uTab hd1
  intro j hj
  have hj' : j < xs.length := by omega
  have h0 := hel j hj
  rw [cU8, Nat.mul_one, List.getElem?_eq_getElem hj'] at h0
  obtain ⟨k, e1, e2, _⟩ := DataW.trod_int uU8 h0
  simp only [Prod.mk.injEq, DataW.agg.injEq] at hx1
  have hx := congrArg (fun l : List (DataW Unit) => l[j]?) hx1.1
  simp only [List.getElem?_map, List.getElem?_eq_getElem hj', Option.map_some, e2] at hx
  have hjt : j < tab64.length := hj
  rw [List.getElem?_eq_getElem hjt] at hx
  simp only [Option.map_some, Option.some.injEq, DataW.lit.injEq, Lit.int.injEq, true_and] at hx
  have hc := World.var?_cell hg1 hv1 j
  rw [hc]
  have e3 : cs1.toList[j]? = some (.int .u8 k) := by
    have := congrArg (fun l : List Value => l[0]?) e1
    simpa [List.getElem?_take, List.getElem?_drop] using this
  rw [Array.getElem?_toList] at e3
  rw [e3, ← hx]
  simp [List.getD_eq_getElem?_getD, List.getElem?_eq_getElem hjt]
end Go.Proofs.YtdbbcngmnpejnaaDoor.B
