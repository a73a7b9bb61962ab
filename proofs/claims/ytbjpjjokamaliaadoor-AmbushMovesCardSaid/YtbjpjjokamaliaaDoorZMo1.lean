/- The law package's own 'alive' (what every right program knows) and 'pairs', as they are called. -/
import Derived.Test.YtbjpjjokamaliaaDoorZMo0
import Derived.Test.YtbjpjjokamaliaaDoorProg
import Derived.Below
import Derived.Deep.Draws
import Derived.Deep.AppendLies
import Derived.Maps.AppendAt
import Derived.OwnWalk
import Derived.Laws.BytesArg
import Derived.Laws.MakeOwn
import Derived.Laws.OwnMore
import Derived.Deep.OwnRows
import Derived.Tactics
import Derived.Lib.ConvBytes
import Derived.Laws.Slices
import Derived.WalkKit
import Derived.KernelRfl
import Derived.RowKit3
import Derived.Deep.LoopGhost
import Derived.Deep.QuietTactic
import Derived.BigQuiet
import Derived.WideLaws
import Derived.Deep.DeepCutAuto
import Derived.Deep.CutBlock
import Derived.Deep.RegionHeld3
import Derived.Laws.Rows
import Derived.Lib.AppendStr
import Derived.ArgAppend
import Derived.Laws.IdiomCopy
import Derived.OrdersHeld
import Derived.Laws.BitsLemmas
import Derived.RowKit
import Derived.Test.YtbjpjjokamaliaaDoorWWords
import Derived.Test.YtbjpjjokamaliaaDoorWLast
import Derived.Test.YtbjpjjokamaliaaDoorWTab
import Derived.Test.YtbjpjjokamaliaaDoorWFour
import Derived.Test.YtbjpjjokamaliaaDoorWQPut
import Derived.Test.YtbjpjjokamaliaaDoorWApart
import Derived.Test.YtbjpjjokamaliaaDoorWArr
import Derived.Test.YtbjpjjokamaliaaDoorWZeros
import Derived.Test.YtbjpjjokamaliaaDoorWFoot
import Derived.Test.YtbjpjjokamaliaaDoorWKept
import Derived.Test.YtbjpjjokamaliaaDoorWShare
import Derived.Test.YtbjpjjokamaliaaDoorWN
import Derived.Test.YtbjpjjokamaliaaDoorWFootNe
import Derived.Test.YtbjpjjokamaliaaDoorWAt
import Derived.Test.YtbjpjjokamaliaaDoorWEqStruct
import Derived.Test.YtbjpjjokamaliaaDoorWRepsOne
import Derived.Test.YtbjpjjokamaliaaDoorWInv
import Derived.Test.YtbjpjjokamaliaaDoorWInvWords
import Derived.Test.YtbjpjjokamaliaaDoorWGuard
import Derived.Test.YtbjpjjokamaliaaDoorWNEv
import Derived.Test.YtbjpjjokamaliaaDoorWMore
import Derived.Test.YtbjpjjokamaliaaDoorRows
import Derived.ProofKit
import Derived.LaidMore
import Derived.OpenShut
import Derived.Stop.Joined
/- The law package's own 'alive' (what every right program knows) and 'pairs', as they are called. -/
namespace Go.Proofs.YtbjpjjokamaliaaDoor.B
open Go.Proofs.YtbjpjjokamaliaaDoor.A
open Go.RowKit Go.Proofs.YtbjpjjokamaliaaDoorW.PrintWords Go.Proofs.YtbjpjjokamaliaaDoorW.PrintLast Go.Proofs.YtbjpjjokamaliaaDoorW.PrintMore
section
attribute [local go_sem] max2_int min2_int max_two min_two max_three min_three max_four min_four   -- for this text's walks alone
set_option linter.unusedVariables false
set_option linter.unusedSimpArgs false
def errW : Option Int → Value
  | none => .nilIface
  | some c => .iface 0 (.int .i64 c)
theorem errW_none : errW none = .nilIface := rfl
theorem errW_some (c : Int) : errW (some c) = .iface 0 (.int .i64 c) := rfl
theorem eqA59 (d : Nat) (w : World) (x0 y0 : Int) (x1 y1 : Int) :
    (Op.equalIn (d + 2) 43 (.agg #[.int .i64 x0, .int .i64 x1]) (.agg #[.int .i64 y0, .int .i64 y1])).run Tryd.prog w = .ok (x0 == y0 && (x1 == y1)) w := by
  refine eqA_of Tryd.underlying43 (by kernel_rfl) ?_
  refine eqf_cons (by rfl) (by go_simp; rfl) (by go_simp; rfl) (by go_simp) ?_
  exact eqf_last (by rfl) (by go_simp; rfl) (by go_simp; rfl) (by go_simp)
attribute [local go_sem high] eqA59
/-! ### drovewaylaw04_pairs: function 28 -/
def drovewaylaw04_pairs.l0 : Nat → List (S59) → List (S59) → Int → Option (Bool)
  | 0, _, _, _ => none
  | k + 1, x0, x1, x5 => if x5 < (x0.length : Int) then (if 0 ≤ x5 then (if x5 < (x1.length : Int) then (if (!(((rd_T59 x0 x5).f0) == ((rd_T59 x1 x5).f0)) || (!(((rd_T59 x0 x5).f1) == ((rd_T59 x1 x5).f1)))) = true then (some false) else (drovewaylaw04_pairs.l0 k x0 x1 (wrap64 (x5 + 1)))) else (none)) else (none)) else (some true)
def drovewaylaw04_pairs.f (k : Nat) (l0 : List (S59)) (l1 : List (S59)) : Option (Bool) := if (l0.length : Int) = (l1.length : Int) then (drovewaylaw04_pairs.l0 k l0 l1 0) else (some false)
theorem drovewaylaw04_pairs.mono_l : ∀ k, (∀ y0 y1 y2, LeO (drovewaylaw04_pairs.l0 k y0 y1 y2) (drovewaylaw04_pairs.l0 (k + 1) y0 y1 y2))
  | 0 => fun _ _ _ r h => by simp [drovewaylaw04_pairs.l0] at h
  | k + 1 => by
    have ih0 := drovewaylaw04_pairs.mono_l k
    · intro y0 y1 y2
      unfold drovewaylaw04_pairs.l0
      repeat' first
      | (with_reducible exact ih0 _ _ _)
      | (with_reducible exact LeO.refl _)
      | (with_reducible exact LeO.none _)
      | (with_reducible refine LeO.ite ?_ ?_)
      | (with_reducible refine LeO.bind ?_ (fun _ => ?_))
      | exact ih0 _ _ _
      | exact LeO.none _
      | refine LeO.ite ?_ ?_
      | refine LeO.bind ?_ (fun _ => ?_)
theorem drovewaylaw04_pairs.mono : ∀ a0 a1 k, LeO (drovewaylaw04_pairs.f k a0 a1) (drovewaylaw04_pairs.f (k + 1) a0 a1) := by
  intro a0 a1 k
  have ih0 := drovewaylaw04_pairs.mono_l k
  unfold drovewaylaw04_pairs.f
  repeat' first
      | (with_reducible exact ih0 _ _ _)
      | (with_reducible exact LeO.refl _)
      | (with_reducible exact LeO.none _)
      | (with_reducible refine LeO.ite ?_ ?_)
      | (with_reducible refine LeO.bind ?_ (fun _ => ?_))
      | exact ih0 _ _ _
      | exact LeO.none _
      | refine LeO.ite ?_ ?_
      | refine LeO.bind ?_ (fun _ => ?_)
set_option maxHeartbeats 8000000 in
set_option maxRecDepth 100000 in
theorem drovewaylaw04_pairs.calls (k : Nat) (A0 : Option Addr) (c0 : Nat) (l0 : List (S59)) (A1 : Option Addr) (c1 : Nat) (l1 : List (S59)) (r : Bool) (w : World) (hr0 : Kd.C k59 w A0 l0.length l0) (hc0 : l0.length ≤ c0) (hr1 : Kd.C k59 w A1 l1.length l1) (hc1 : l1.length ≤ c1) (h : drovewaylaw04_pairs.f k l0 l1 = some r) :
    Calls Tryd.prog 17 #[.slice A0 l0.length c0, .slice A1 l1.length c1] w fun e w' => e = .returned (.bool r) ∧ Drawn0 w w' := by
  have hu59 := Tryd.underlying43
  have HR0 := Aside0.mk hr0
  have HC0 := Aside0.mk hc0
  clear hr0 hc0
  have HR1 := Aside0.mk hr1
  have HC1 := Aside0.mk hc1
  clear hr1 hc1
  have H : (if (l0.length : Int) = (l1.length : Int) then (drovewaylaw04_pairs.l0 k l0 l1 0) else (some false)) = some r := h
  clear h
  by_cases c3 : (l0.length : Int) = (l1.length : Int)
  · rw [if_pos c3] at H
    have c3b0 : ((l0.length : Int) == (l1.length : Int)) = true := beq_iff_eq.mpr c3
    have c3b1 : ((l0.length : Int) != (l1.length : Int)) = false := bne_eq_false_iff_eq.mpr c3
    have c3b2 : (l0.length == l1.length) = true := by first | simpa using c3 | (simp at c3 ⊢; omega)
    clear c3
    have H' := Aside0.mk H
    clear H
    go_enter Tryd.func17, Tryd.ntmps17
    go_wp2
    repeat (go_quiet (fail); try go_wp2)
    go_loopg [5] k (fun kq v5 w' => ∃ (x5_1 : Int), v5 = .int .i64 x5_1 ∧ Aside0 (drovewaylaw04_pairs.l0 kq l0 l1 x5_1 = some r) ∧ Aside0 (kq ≤ k) ∧ Drawn0 w w')
    case atStart => exact ⟨(0), (by first | rfl | (simp; done) | (simp [*]; done)), H', ⟨Nat.le_refl _⟩, by repeat (first | exact Drawn0.refl _ | apply Drawn0.step)⟩
    case round =>
      clear H'
      try clear c1
      try clear c2
      try clear p2
      try clear c3
      try clear c3b0
      try clear c3b1
      try clear c3b2
      obtain ⟨x5_1, rfl, HA, HK1, ⟨m1, rfl⟩⟩ := hrel
      cases gk with
      | zero => exact absurd HA.out (by simp [drovewaylaw04_pairs.l0])
      | succ k1 =>
        have H := HA.out
        clear HA
        simp only [drovewaylaw04_pairs.l0] at H
        by_cases c4 : x5_1 < (l0.length : Int)
        · rw [if_pos c4] at H
          have c4b0 : decide (x5_1 < (l0.length : Int)) = true := decide_eq_true c4
          clear c4
          by_cases c5 : 0 ≤ x5_1
          · rw [if_pos c5] at H
            have c5b0 : decide (0 ≤ x5_1) = true := decide_eq_true c5
            clear c5
            by_cases c6 : x5_1 < (l1.length : Int)
            · rw [if_pos c6] at H
              have c6b0 : decide (x5_1 < (l1.length : Int)) = true := decide_eq_true c6
              clear c6
              by_cases c7 : (!(((rd_T59 l0 x5_1).f0) == ((rd_T59 l1 x5_1).f0)) || (!(((rd_T59 l0 x5_1).f1) == ((rd_T59 l1 x5_1).f1)))) = true
              · rw [if_pos c7] at H
                have c7b0 : (!(((rd_T59 l0 x5_1).f0) == ((rd_T59 l1 x5_1).f0)) || (!(((rd_T59 l0 x5_1).f1) == ((rd_T59 l1 x5_1).f1)))) = true := c7
                clear c7
                obtain rfl := Option.some.inj H
                have p101 : 0 ≤ (x5_1 : Int) := of_decide_eq_true (by first | (with_reducible assumption) | assumption)
                have q101 : x5_1 < (l0.length : Int) := of_decide_eq_true (by first | (with_reducible assumption) | assumption)
                obtain ⟨ad101, e101, hx101_0, hx101_1⟩ := at_T59 HR0.out x5_1 p101 q101
                cases e101
                replace p101 := eq_true p101
                replace q101 := eq_true q101
                have p102 : 0 ≤ (x5_1 : Int) := of_decide_eq_true (by first | (with_reducible assumption) | assumption)
                have q102 : x5_1 < (l1.length : Int) := of_decide_eq_true (by first | (with_reducible assumption) | assumption)
                obtain ⟨ad102, e102, hx102_0, hx102_1⟩ := at_T59 HR1.out x5_1 p102 q102
                cases e102
                replace p102 := eq_true p102
                replace q102 := eq_true q102
                go_wp2
                repeat (go_quiet (fail); try go_wp2)
                go_ret
                exact ⟨by first | rfl | (simp; done) | (simp [*]; done), by repeat (first | exact Drawn0.refl _ | apply Drawn0.step)⟩
              · rw [if_neg c7] at H
                have c7b0 : (!(((rd_T59 l0 x5_1).f0) == ((rd_T59 l1 x5_1).f0)) || (!(((rd_T59 l0 x5_1).f1) == ((rd_T59 l1 x5_1).f1)))) = false := by simpa using c7
                clear c7
                have H' := Aside0.mk H
                clear H
                have p101 : 0 ≤ (x5_1 : Int) := of_decide_eq_true (by first | (with_reducible assumption) | assumption)
                have q101 : x5_1 < (l0.length : Int) := of_decide_eq_true (by first | (with_reducible assumption) | assumption)
                obtain ⟨ad101, e101, hx101_0, hx101_1⟩ := at_T59 HR0.out x5_1 p101 q101
                cases e101
                replace p101 := eq_true p101
                replace q101 := eq_true q101
                have p102 : 0 ≤ (x5_1 : Int) := of_decide_eq_true (by first | (with_reducible assumption) | assumption)
                have q102 : x5_1 < (l1.length : Int) := of_decide_eq_true (by first | (with_reducible assumption) | assumption)
                obtain ⟨ad102, e102, hx102_0, hx102_1⟩ := at_T59 HR1.out x5_1 p102 q102
                cases e102
                replace p102 := eq_true p102
                replace q102 := eq_true q102
                go_wp2
                repeat (go_quiet (fail); try go_wp2)
                go_roundg k1
                case measure => have := HK1.out; omega
                case rel => exact ⟨(wrap64 (x5_1 + 1)), (by first | rfl | (simp; done) | (simp [*]; done)), H', ⟨by have := HK1.out; omega⟩, by repeat (first | exact Drawn0.refl _ | apply Drawn0.step)⟩
            · rw [if_neg c6] at H
              exact absurd H (by simp)
          · rw [if_neg c5] at H
            exact absurd H (by simp)
        · rw [if_neg c4] at H
          have c4b0 : decide (x5_1 < (l0.length : Int)) = false := decide_eq_false c4
          clear c4
          obtain rfl := Option.some.inj H
          go_wp2
          repeat (go_quiet (fail); try go_wp2)
          go_ret
          exact ⟨by first | rfl | (simp; done) | (simp [*]; done), by repeat (first | exact Drawn0.refl _ | apply Drawn0.step)⟩
  · rw [if_neg c3] at H
    have c3b0 : ((l0.length : Int) == (l1.length : Int)) = false := beq_eq_false_iff_ne.mpr c3
    have c3b1 : ((l0.length : Int) != (l1.length : Int)) = true := bne_iff_ne.mpr c3
    have c3b2 : (l0.length == l1.length) = false := by first | simpa using c3 | (simp at c3 ⊢; omega)
    obtain rfl := Option.some.inj H
    go_enter Tryd.func17, Tryd.ntmps17
    go_wp2
    repeat (go_quiet (fail); try go_wp2)
    go_ret
    exact ⟨by first | rfl | (simp; done) | (simp [*]; done), by repeat (first | exact Drawn0.refl _ | apply Drawn0.step)⟩

def drovewaylaw04_alive.f : Option Bool := some true
set_option maxHeartbeats 8000000 in
set_option maxRecDepth 100000 in
theorem drovewaylaw04_alive.calls (r : Bool) (w : World) (h : drovewaylaw04_alive.f = some r) :
    Calls Tryd.prog 6 #[] w fun e w' => e = .returned (.bool r) ∧ Below w.heap.size w w' := by
  have hu59 := Tryd.underlying43
  have HB := Aside0.mk (Below.refl w.heap.size w)
  have hr : r = true := by cases h; rfl
  clear h
  obtain ⟨y103, hy⟩ : ∃ y_ : List Int, y_ = ([3, 5, 6] : List Int) := ⟨_, rfl⟩
  obtain ⟨t106, t107, A0, c7, c6⟩ : ∃ (t106 : ByteArray) (t107 : Int), ambush_Winner.f 3 y103 (⟨#[46, 46, 46]⟩ : ByteArray) (⟨#[119]⟩ : ByteArray) = some (t106, t107) ∧ t106.toList = ([119] : List UInt8) ∧ t107 = 0 := by subst hy; exact ⟨⟨#[119]⟩, 0, by kernel_rfl, by decide +kernel, rfl⟩
  have Ny103 := Aside0.mk hy
  clear hy
  have A1 := Aside0.mk A0
  clear A0
  obtain ⟨y108, hy⟩ : ∃ y_ : List Int, y_ = ([3, 5, 6] : List Int) := ⟨_, rfl⟩
  obtain ⟨t111, t112, A0, c9, c8⟩ : ∃ (t111 : ByteArray) (t112 : Int), ambush_Winner.f 3 y108 (⟨#[46, 46, 46]⟩ : ByteArray) (⟨#[100]⟩ : ByteArray) = some (t111, t112) ∧ t111.toList = ([100] : List UInt8) ∧ t112 = 0 := by subst hy; exact ⟨⟨#[100]⟩, 0, by kernel_rfl, by decide +kernel, rfl⟩
  have Ny108 := Aside0.mk hy
  clear hy
  have A2 := Aside0.mk A0
  clear A0
  obtain ⟨y113, hy⟩ : ∃ y_ : List Int, y_ = ([3] : List Int) := ⟨_, rfl⟩
  obtain ⟨t116, t117, A0, c11, c10⟩ : ∃ (t116 : Int) (t117 : Int), ambush_Danger.f 2 y113 (⟨#[119, 46]⟩ : ByteArray) = some (t116, t117) ∧ t116 = 2 ∧ t117 = 0 := by subst hy; exact ⟨2, 0, by kernel_rfl, rfl, rfl⟩
  have Ny113 := Aside0.mk hy
  clear hy
  have A3 := Aside0.mk A0
  clear A0
  obtain ⟨y118, hy⟩ : ∃ y_ : List Int, y_ = ([3] : List Int) := ⟨_, rfl⟩
  obtain ⟨t121, t122, A0, c13, c12⟩ : ∃ (t121 : List S59) (t122 : Int), ambush_Pairing.f 2 y118 = some (t121, t122) ∧ t121 = [⟨0, 1⟩] ∧ t122 = 0 := by subst hy; exact ⟨[⟨0, 1⟩], 0, by kernel_rfl, rfl, rfl⟩
  have Ny118 := Aside0.mk hy
  clear hy
  have A4 := Aside0.mk A0
  clear A0
  obtain ⟨y125, hy⟩ : ∃ y_ : List Int, y_ = ([3, 5, 6] : List Int) := ⟨_, rfl⟩
  obtain ⟨t128, t129, A0, c16, c15⟩ : ∃ (t128 : Int) (t129 : Int), ambush_Needs.f 3 y125 = some (t128, t129) ∧ t128 = 1 ∧ t129 = 0 := by subst hy; exact ⟨1, 0, by kernel_rfl, rfl, rfl⟩
  have Ny125 := Aside0.mk hy
  clear hy
  have A5 := Aside0.mk A0
  clear A0
  obtain ⟨y130, hy130⟩ : ∃ y_ : List (S59), y_ = (([(⟨0, 1⟩ : S59)] : List (S59))) := ⟨_, rfl⟩
  obtain ⟨k, t133, A130, c14⟩ : ∃ (k : Nat) (t133 : Bool), drovewaylaw04_pairs.f k t121 y130 = some t133 ∧ t133 = true := by subst hy130; subst c13; exact ⟨3, true, by kernel_rfl, rfl⟩
  have Ny130 := Aside0.mk hy130
  clear hy130 c13
  have A13 := Aside0.mk A130
  clear A130
  subst c14
  have c6b0 : (t107 == 0) = true := beq_iff_eq.mpr c6
  have c6b1 : (t107 != 0) = false := bne_eq_false_iff_eq.mpr c6
  clear c6
  have c7b0 : (t106.toList == ([119] : List UInt8)) = true := beq_iff_eq.mpr c7
  have c7b1 : (t106.toList != ([119] : List UInt8)) = false := bne_eq_false_iff_eq.mpr c7
  clear c7
  have c8b0 : (t112 == 0) = true := beq_iff_eq.mpr c8
  have c8b1 : (t112 != 0) = false := bne_eq_false_iff_eq.mpr c8
  clear c8
  have c9b0 : (t111.toList == ([100] : List UInt8)) = true := beq_iff_eq.mpr c9
  have c9b1 : (t111.toList != ([100] : List UInt8)) = false := bne_eq_false_iff_eq.mpr c9
  clear c9
  have c10b0 : (t117 == 0) = true := beq_iff_eq.mpr c10
  have c10b1 : (t117 != 0) = false := bne_eq_false_iff_eq.mpr c10
  clear c10
  have c11b0 : (t116 == 2) = true := beq_iff_eq.mpr c11
  have c11b1 : (t116 != 2) = false := bne_eq_false_iff_eq.mpr c11
  clear c11
  have c12b0 : (t122 == 0) = true := beq_iff_eq.mpr c12
  have c12b1 : (t122 != 0) = false := bne_eq_false_iff_eq.mpr c12
  clear c12
  have c15b0 : (t129 == 0) = true := beq_iff_eq.mpr c15
  have c15b1 : (t129 != 0) = false := bne_eq_false_iff_eq.mpr c15
  clear c15
  have H : (some (t128 == 1)) = some r := by rw [c16, hr]; rfl
  clear c16 hr
  obtain rfl := Option.some.inj H
  go_enter Tryd.func6, Tryd.ntmps6
  go_wp2_with (first | ((with_reducible refine gate_dst (N := 12) rfl ?_); (try (refine gate_guard (by rfl) ?_; dsimp only)); refine Kd.R_lit (Kd.int .i64) _ 3 ?hg (N := 12) ?hd (xs := ([3, 5, 6] : List Int)) (inner := [.int .i64 3, .int .i64 5, .int .i64 6]) (ok := fun _ => True) (okp := fun _ => True) ?hr ?hp (fun _ hk => hk) trivial (Below.refl _ _) (Nat.le_refl _) (by simp) ?_; (case hd => rfl); (case hg => rfl); (case hr => first | (go_simp; done) | (go_simp; rfl)); (case hp => exact (Reps.one (show Kd.M (Kd.int .i64) _ _ _ 3 [.int .i64 3] from rfl) (Reps.one (show Kd.M (Kd.int .i64) _ _ _ 5 [.int .i64 5] from rfl) (Reps.one (show Kd.M (Kd.int .i64) _ _ _ 6 [.int .i64 6] from rfl) (Reps.none _ _))))); intro v104 w16 ho17 hb hg_ hnew_; clear hg_ hnew_; (first | rw [← Ny103.out] at ho17 | (simp only [Int.reduceToNat] at ho17; rw [← Ny103.out] at ho17)); have n0_ := Aside0.mk (Kd.R_lower ho17 (below_size (by repeat (first | (with_reducible first | exact HB.out | apply below_alloc | apply pw_below_drewN | apply below_drew1) | exact HB.out)))); have n1_ := Aside0.mk (below_step (by repeat (first | (with_reducible first | exact HB.out | apply below_alloc | apply pw_below_drewN | apply below_drew1) | exact HB.out)) hb); clear HB; have HO105 := n0_; have HB := n1_; clear n0_ n1_; clear hb ho17; obtain ⟨Ao18, co18, eo18⟩ := Kd.R_slice HO105.out; subst eo18) | ((with_reducible refine gate_callee (f := 7) rfl ?_); refine goesL_ (some 13) rfl rfl Tryd.func7 (by kernel_rfl) rfl #[.int .i64 3, .slice Ao18 y103.length co18, .string (⟨#[46, 46, 46]⟩ : ByteArray), .string (⟨#[119]⟩ : ByteArray)] rfl (by (try simp only [List.map_toArray, List.map_cons, List.map_nil]); first | done | rfl | (simp only [List.length_drop, List.length_take]; rfl)) ?_; (with_reducible refine (ambush_Winner.calls 3 _ _ y103 (⟨#[46, 46, 46]⟩ : ByteArray) (⟨#[119]⟩ : ByteArray) t106 t107 _ ?side1 ?side2 A1.out).mono ?_); (case side1 => repeat (first | exact (Kd.R_reads' HO105.out).2.2 | (with_reducible refine Kd.C_alloc ?_ _) | (with_reducible refine Kd.C_drewN ?_ _) | (with_reducible refine Kd.C_drew ?_))); (case side2 => exact (Kd.R_reads' HO105.out).2.1); rintro e w19 ⟨rfl, hb⟩; refine ⟨_, rfl, ?_⟩; have n0_ := Aside0.mk (Kd.R_below (by (with_reducible repeat (first | apply Kd.R_alloc | apply Kd.R_drewN | apply Kd.R_drew)); exact HO105.out) hb); have n1_ := Aside0.mk (below_step (by repeat (first | (with_reducible first | exact HB.out | apply below_alloc | apply pw_below_drewN | apply below_drew1) | exact HB.out)) hb); clear HO105; clear HB; have HO105 := n0_; have HB := n1_; clear n0_ n1_; (try clear hb); (try clear hb2); (try clear hk); (try clear hi)) | ((with_reducible refine gate_dst (N := 17) rfl ?_); (try (refine gate_guard (by rfl) ?_; dsimp only)); refine Kd.R_lit (Kd.int .i64) _ 3 ?hg (N := 17) ?hd (xs := ([3, 5, 6] : List Int)) (inner := [.int .i64 3, .int .i64 5, .int .i64 6]) (ok := fun _ => True) (okp := fun _ => True) ?hr ?hp (fun _ hk => hk) trivial (Below.refl _ _) (Nat.le_refl _) (by simp) ?_; (case hd => rfl); (case hg => rfl); (case hr => first | (go_simp; done) | (go_simp; rfl)); (case hp => exact (Reps.one (show Kd.M (Kd.int .i64) _ _ _ 3 [.int .i64 3] from rfl) (Reps.one (show Kd.M (Kd.int .i64) _ _ _ 5 [.int .i64 5] from rfl) (Reps.one (show Kd.M (Kd.int .i64) _ _ _ 6 [.int .i64 6] from rfl) (Reps.none _ _))))); intro v109 w20 ho21 hb hg_ hnew_; clear hg_ hnew_; (first | rw [← Ny108.out] at ho21 | (simp only [Int.reduceToNat] at ho21; rw [← Ny108.out] at ho21)); have n0_ := Aside0.mk (Kd.R_elder' (by (with_reducible repeat (first | apply Kd.R_alloc | apply Kd.R_drewN | apply Kd.R_drew)); exact HO105.out) (Kd.R_base ho21) hb); have n1_ := Aside0.mk (Kd.R_lower (Kd.R_new' ho21 (Kd.R_lt (by (with_reducible repeat (first | apply Kd.R_alloc | apply Kd.R_drewN | apply Kd.R_drew)); exact HO105.out))) (below_size (by repeat (first | (with_reducible first | exact HB.out | apply below_alloc | apply pw_below_drewN | apply below_drew1) | exact HB.out)))); have n2_ := Aside0.mk (below_step (by repeat (first | (with_reducible first | exact HB.out | apply below_alloc | apply pw_below_drewN | apply below_drew1) | exact HB.out)) hb); clear HO105; clear HB; have HO105 := n0_; have HO110 := n1_; have HB := n2_; clear n0_ n1_ n2_; clear hb ho21; obtain ⟨Ao22, co22, eo22⟩ := Kd.R_slice HO110.out; subst eo22) | ((with_reducible refine gate_callee (f := 7) rfl ?_); refine goesL_ (some 18) rfl rfl Tryd.func7 (by kernel_rfl) rfl #[.int .i64 3, .slice Ao22 y108.length co22, .string (⟨#[46, 46, 46]⟩ : ByteArray), .string (⟨#[100]⟩ : ByteArray)] rfl (by (try simp only [List.map_toArray, List.map_cons, List.map_nil]); first | done | rfl | (simp only [List.length_drop, List.length_take]; rfl)) ?_; (with_reducible refine (ambush_Winner.calls 3 _ _ y108 (⟨#[46, 46, 46]⟩ : ByteArray) (⟨#[100]⟩ : ByteArray) t111 t112 _ ?side1 ?side2 A2.out).mono ?_); (case side1 => repeat (first | exact (Kd.R_reads' HO110.out).2.2 | (with_reducible refine Kd.C_alloc ?_ _) | (with_reducible refine Kd.C_drewN ?_ _) | (with_reducible refine Kd.C_drew ?_))); (case side2 => exact (Kd.R_reads' HO110.out).2.1); rintro e w23 ⟨rfl, hb⟩; refine ⟨_, rfl, ?_⟩; have n0_ := Aside0.mk (Kd.R_below (by (with_reducible repeat (first | apply Kd.R_alloc | apply Kd.R_drewN | apply Kd.R_drew)); exact HO105.out) hb); have n1_ := Aside0.mk (Kd.R_below (by (with_reducible repeat (first | apply Kd.R_alloc | apply Kd.R_drewN | apply Kd.R_drew)); exact HO110.out) hb); have n2_ := Aside0.mk (below_step (by repeat (first | (with_reducible first | exact HB.out | apply below_alloc | apply pw_below_drewN | apply below_drew1) | exact HB.out)) hb); clear HO105; clear HO110; clear HB; have HO105 := n0_; have HO110 := n1_; have HB := n2_; clear n0_ n1_ n2_; (try clear hb); (try clear hb2); (try clear hk); (try clear hi)) | ((with_reducible refine gate_dst (N := 22) rfl ?_); (try (refine gate_guard (by rfl) ?_; dsimp only)); refine Kd.R_lit (Kd.int .i64) _ 3 ?hg (N := 22) ?hd (xs := ([3] : List Int)) (inner := [.int .i64 3]) (ok := fun _ => True) (okp := fun _ => True) ?hr ?hp (fun _ hk => hk) trivial (Below.refl _ _) (Nat.le_refl _) (by simp) ?_; (case hd => rfl); (case hg => rfl); (case hr => first | (go_simp; done) | (go_simp; rfl)); (case hp => exact (Reps.one (show Kd.M (Kd.int .i64) _ _ _ 3 [.int .i64 3] from rfl) (Reps.none _ _))); intro v114 w24 ho25 hb hg_ hnew_; clear hg_ hnew_; (first | rw [← Ny113.out] at ho25 | (simp only [Int.reduceToNat] at ho25; rw [← Ny113.out] at ho25)); have n0_ := Aside0.mk (Kd.R_elder' (by (with_reducible repeat (first | apply Kd.R_alloc | apply Kd.R_drewN | apply Kd.R_drew)); exact HO105.out) (Kd.R_base ho25) hb); have n1_ := Aside0.mk (Kd.R_elder' (by (with_reducible repeat (first | apply Kd.R_alloc | apply Kd.R_drewN | apply Kd.R_drew)); exact HO110.out) (Kd.R_base ho25) hb); have n2_ := Aside0.mk (Kd.R_lower (Kd.R_new' (Kd.R_new' ho25 (Kd.R_lt (by (with_reducible repeat (first | apply Kd.R_alloc | apply Kd.R_drewN | apply Kd.R_drew)); exact HO105.out))) (Kd.R_lt (by (with_reducible repeat (first | apply Kd.R_alloc | apply Kd.R_drewN | apply Kd.R_drew)); exact HO110.out))) (below_size (by repeat (first | (with_reducible first | exact HB.out | apply below_alloc | apply pw_below_drewN | apply below_drew1) | exact HB.out)))); have n3_ := Aside0.mk (below_step (by repeat (first | (with_reducible first | exact HB.out | apply below_alloc | apply pw_below_drewN | apply below_drew1) | exact HB.out)) hb); clear HO105; clear HO110; clear HB; have HO105 := n0_; have HO110 := n1_; have HO115 := n2_; have HB := n3_; clear n0_ n1_ n2_ n3_; clear hb ho25; obtain ⟨Ao26, co26, eo26⟩ := Kd.R_slice HO115.out; subst eo26) | ((with_reducible refine gate_callee (f := 14) rfl ?_); refine goesL_ (some 23) rfl rfl Tryd.func14 (by kernel_rfl) rfl #[.int .i64 2, .slice Ao26 y113.length co26, .string (⟨#[119, 46]⟩ : ByteArray)] rfl (by (try simp only [List.map_toArray, List.map_cons, List.map_nil]); first | done | rfl | (simp only [List.length_drop, List.length_take]; rfl)) ?_; (with_reducible refine (ambush_Danger.calls 2 _ _ y113 (⟨#[119, 46]⟩ : ByteArray) t116 t117 _ ?side1 ?side2 A3.out).mono ?_); (case side1 => repeat (first | exact (Kd.R_reads' HO115.out).2.2 | (with_reducible refine Kd.C_alloc ?_ _) | (with_reducible refine Kd.C_drewN ?_ _) | (with_reducible refine Kd.C_drew ?_))); (case side2 => exact (Kd.R_reads' HO115.out).2.1); rintro e w27 ⟨rfl, hb⟩; refine ⟨_, rfl, ?_⟩; have n0_ := Aside0.mk (Kd.R_below (by (with_reducible repeat (first | apply Kd.R_alloc | apply Kd.R_drewN | apply Kd.R_drew)); exact HO105.out) hb); have n1_ := Aside0.mk (Kd.R_below (by (with_reducible repeat (first | apply Kd.R_alloc | apply Kd.R_drewN | apply Kd.R_drew)); exact HO110.out) hb); have n2_ := Aside0.mk (Kd.R_below (by (with_reducible repeat (first | apply Kd.R_alloc | apply Kd.R_drewN | apply Kd.R_drew)); exact HO115.out) hb); have n3_ := Aside0.mk (below_step (by repeat (first | (with_reducible first | exact HB.out | apply below_alloc | apply pw_below_drewN | apply below_drew1) | exact HB.out)) hb); clear HO105; clear HO110; clear HO115; clear HB; have HO105 := n0_; have HO110 := n1_; have HO115 := n2_; have HB := n3_; clear n0_ n1_ n2_ n3_; (try clear hb); (try clear hb2); (try clear hk); (try clear hi)) | ((with_reducible refine gate_dst (N := 27) rfl ?_); (try (refine gate_guard (by rfl) ?_; dsimp only)); refine Kd.R_lit (Kd.int .i64) _ 3 ?hg (N := 27) ?hd (xs := ([3] : List Int)) (inner := [.int .i64 3]) (ok := fun _ => True) (okp := fun _ => True) ?hr ?hp (fun _ hk => hk) trivial (Below.refl _ _) (Nat.le_refl _) (by simp) ?_; (case hd => rfl); (case hg => rfl); (case hr => first | (go_simp; done) | (go_simp; rfl)); (case hp => exact (Reps.one (show Kd.M (Kd.int .i64) _ _ _ 3 [.int .i64 3] from rfl) (Reps.none _ _))); intro v119 w28 ho29 hb hg_ hnew_; clear hg_ hnew_; (first | rw [← Ny118.out] at ho29 | (simp only [Int.reduceToNat] at ho29; rw [← Ny118.out] at ho29)); have n0_ := Aside0.mk (Kd.R_elder' (by (with_reducible repeat (first | apply Kd.R_alloc | apply Kd.R_drewN | apply Kd.R_drew)); exact HO105.out) (Kd.R_base ho29) hb); have n1_ := Aside0.mk (Kd.R_elder' (by (with_reducible repeat (first | apply Kd.R_alloc | apply Kd.R_drewN | apply Kd.R_drew)); exact HO110.out) (Kd.R_base ho29) hb); have n2_ := Aside0.mk (Kd.R_elder' (by (with_reducible repeat (first | apply Kd.R_alloc | apply Kd.R_drewN | apply Kd.R_drew)); exact HO115.out) (Kd.R_base ho29) hb); have n3_ := Aside0.mk (Kd.R_lower (Kd.R_new' (Kd.R_new' (Kd.R_new' ho29 (Kd.R_lt (by (with_reducible repeat (first | apply Kd.R_alloc | apply Kd.R_drewN | apply Kd.R_drew)); exact HO105.out))) (Kd.R_lt (by (with_reducible repeat (first | apply Kd.R_alloc | apply Kd.R_drewN | apply Kd.R_drew)); exact HO110.out))) (Kd.R_lt (by (with_reducible repeat (first | apply Kd.R_alloc | apply Kd.R_drewN | apply Kd.R_drew)); exact HO115.out))) (below_size (by repeat (first | (with_reducible first | exact HB.out | apply below_alloc | apply pw_below_drewN | apply below_drew1) | exact HB.out)))); have n4_ := Aside0.mk (below_step (by repeat (first | (with_reducible first | exact HB.out | apply below_alloc | apply pw_below_drewN | apply below_drew1) | exact HB.out)) hb); clear HO105; clear HO110; clear HO115; clear HB; have HO105 := n0_; have HO110 := n1_; have HO115 := n2_; have HO120 := n3_; have HB := n4_; clear n0_ n1_ n2_ n3_ n4_; clear hb ho29; obtain ⟨Ao30, co30, eo30⟩ := Kd.R_slice HO120.out; subst eo30) | ((with_reducible refine gate_callee (f := 15) rfl ?_); refine goesL_ (some 28) rfl rfl Tryd.func15 (by kernel_rfl) rfl #[.int .i64 2, .slice Ao30 y118.length co30] rfl (by (try simp only [List.map_toArray, List.map_cons, List.map_nil]); first | done | rfl | (simp only [List.length_drop, List.length_take]; rfl)) ?_; (with_reducible refine (ambush_Pairing.calls 2 _ _ y118 t121 t122 _ ?side1 ?side2 A4.out).mono ?_); (case side1 => repeat (first | exact (Kd.R_reads' HO120.out).2.2 | (with_reducible refine Kd.C_alloc ?_ _) | (with_reducible refine Kd.C_drewN ?_ _) | (with_reducible refine Kd.C_drew ?_))); (case side2 => exact (Kd.R_reads' HO120.out).2.1); rintro e w31 ⟨v123, rfl, ho0, hb⟩; refine ⟨_, rfl, ?_⟩; have n0_ := Aside0.mk (Kd.R_below (by (with_reducible repeat (first | apply Kd.R_alloc | apply Kd.R_drewN | apply Kd.R_drew)); exact HO105.out) hb); have n1_ := Aside0.mk (Kd.R_below (by (with_reducible repeat (first | apply Kd.R_alloc | apply Kd.R_drewN | apply Kd.R_drew)); exact HO110.out) hb); have n2_ := Aside0.mk (Kd.R_below (by (with_reducible repeat (first | apply Kd.R_alloc | apply Kd.R_drewN | apply Kd.R_drew)); exact HO115.out) hb); have n3_ := Aside0.mk (Kd.R_below (by (with_reducible repeat (first | apply Kd.R_alloc | apply Kd.R_drewN | apply Kd.R_drew)); exact HO120.out) hb); have n4_ := Aside0.mk (Kd.R_lower ho0 (below_size (by repeat (first | (with_reducible first | exact HB.out | apply below_alloc | apply pw_below_drewN | apply below_drew1) | exact HB.out)))); have n5_ := Aside0.mk (below_step (by repeat (first | (with_reducible first | exact HB.out | apply below_alloc | apply pw_below_drewN | apply below_drew1) | exact HB.out)) hb); clear HO105; clear HO110; clear HO115; clear HO120; clear HB; have HO105 := n0_; have HO110 := n1_; have HO115 := n2_; have HO120 := n3_; have HO124 := n4_; have HB := n5_; clear n0_ n1_ n2_ n3_ n4_ n5_; (try clear hb); (try clear hb2); (try clear hk); (try clear hi); (try clear ho0)) | ((with_reducible refine gate_dst (N := 32) rfl ?_); (try (refine gate_guard (by rfl) ?_; dsimp only)); refine Kd.R_lit (Kd.int .i64) _ 3 ?hg (N := 32) ?hd (xs := ([3, 5, 6] : List Int)) (inner := [.int .i64 3, .int .i64 5, .int .i64 6]) (ok := fun _ => True) (okp := fun _ => True) ?hr ?hp (fun _ hk => hk) trivial (Below.refl _ _) (Nat.le_refl _) (by simp) ?_; (case hd => rfl); (case hg => rfl); (case hr => first | (go_simp; done) | (go_simp; rfl)); (case hp => exact (Reps.one (show Kd.M (Kd.int .i64) _ _ _ 3 [.int .i64 3] from rfl) (Reps.one (show Kd.M (Kd.int .i64) _ _ _ 5 [.int .i64 5] from rfl) (Reps.one (show Kd.M (Kd.int .i64) _ _ _ 6 [.int .i64 6] from rfl) (Reps.none _ _))))); intro v126 w32 ho33 hb hg_ hnew_; clear hg_ hnew_; (first | rw [← Ny125.out] at ho33 | (simp only [Int.reduceToNat] at ho33; rw [← Ny125.out] at ho33)); have n0_ := Aside0.mk (Kd.R_elder' (by (with_reducible repeat (first | apply Kd.R_alloc | apply Kd.R_drewN | apply Kd.R_drew)); exact HO105.out) (Kd.R_base ho33) hb); have n1_ := Aside0.mk (Kd.R_elder' (by (with_reducible repeat (first | apply Kd.R_alloc | apply Kd.R_drewN | apply Kd.R_drew)); exact HO110.out) (Kd.R_base ho33) hb); have n2_ := Aside0.mk (Kd.R_elder' (by (with_reducible repeat (first | apply Kd.R_alloc | apply Kd.R_drewN | apply Kd.R_drew)); exact HO115.out) (Kd.R_base ho33) hb); have n3_ := Aside0.mk (Kd.R_elder' (by (with_reducible repeat (first | apply Kd.R_alloc | apply Kd.R_drewN | apply Kd.R_drew)); exact HO120.out) (Kd.R_base ho33) hb); have n4_ := Aside0.mk (Kd.R_below (by (with_reducible repeat (first | apply Kd.R_alloc | apply Kd.R_drewN | apply Kd.R_drew)); exact HO124.out) hb); have n5_ := Aside0.mk (Kd.R_lower (Kd.R_new' (Kd.R_new' (Kd.R_new' (Kd.R_new' ho33 (Kd.R_lt (by (with_reducible repeat (first | apply Kd.R_alloc | apply Kd.R_drewN | apply Kd.R_drew)); exact HO105.out))) (Kd.R_lt (by (with_reducible repeat (first | apply Kd.R_alloc | apply Kd.R_drewN | apply Kd.R_drew)); exact HO110.out))) (Kd.R_lt (by (with_reducible repeat (first | apply Kd.R_alloc | apply Kd.R_drewN | apply Kd.R_drew)); exact HO115.out))) (Kd.R_lt (by (with_reducible repeat (first | apply Kd.R_alloc | apply Kd.R_drewN | apply Kd.R_drew)); exact HO120.out))) (below_size (by repeat (first | (with_reducible first | exact HB.out | apply below_alloc | apply pw_below_drewN | apply below_drew1) | exact HB.out)))); have n6_ := Aside0.mk (below_step (by repeat (first | (with_reducible first | exact HB.out | apply below_alloc | apply pw_below_drewN | apply below_drew1) | exact HB.out)) hb); clear HO105; clear HO110; clear HO115; clear HO120; clear HO124; clear HB; have HO105 := n0_; have HO110 := n1_; have HO115 := n2_; have HO120 := n3_; have HO124 := n4_; have HO127 := n5_; have HB := n6_; clear n0_ n1_ n2_ n3_ n4_ n5_ n6_; clear hb ho33; obtain ⟨Ao34, co34, eo34⟩ := Kd.R_slice HO127.out; subst eo34) | ((with_reducible refine gate_callee (f := 16) rfl ?_); refine goesL_ (some 33) rfl rfl Tryd.func16 (by kernel_rfl) rfl #[.int .i64 3, .slice Ao34 y125.length co34] rfl (by (try simp only [List.map_toArray, List.map_cons, List.map_nil]); first | done | rfl | (simp only [List.length_drop, List.length_take]; rfl)) ?_; (with_reducible refine (ambush_Needs.calls 3 _ _ y125 t128 t129 _ ?side1 ?side2 A5.out).mono ?_); (case side1 => repeat (first | exact (Kd.R_reads' HO127.out).2.2 | (with_reducible refine Kd.C_alloc ?_ _) | (with_reducible refine Kd.C_drewN ?_ _) | (with_reducible refine Kd.C_drew ?_))); (case side2 => exact (Kd.R_reads' HO127.out).2.1); rintro e w35 ⟨rfl, hb⟩; refine ⟨_, rfl, ?_⟩; have n0_ := Aside0.mk (Kd.R_below (by (with_reducible repeat (first | apply Kd.R_alloc | apply Kd.R_drewN | apply Kd.R_drew)); exact HO105.out) hb); have n1_ := Aside0.mk (Kd.R_below (by (with_reducible repeat (first | apply Kd.R_alloc | apply Kd.R_drewN | apply Kd.R_drew)); exact HO110.out) hb); have n2_ := Aside0.mk (Kd.R_below (by (with_reducible repeat (first | apply Kd.R_alloc | apply Kd.R_drewN | apply Kd.R_drew)); exact HO115.out) hb); have n3_ := Aside0.mk (Kd.R_below (by (with_reducible repeat (first | apply Kd.R_alloc | apply Kd.R_drewN | apply Kd.R_drew)); exact HO120.out) hb); have n4_ := Aside0.mk (Kd.R_below (by (with_reducible repeat (first | apply Kd.R_alloc | apply Kd.R_drewN | apply Kd.R_drew)); exact HO124.out) hb); have n5_ := Aside0.mk (Kd.R_below (by (with_reducible repeat (first | apply Kd.R_alloc | apply Kd.R_drewN | apply Kd.R_drew)); exact HO127.out) hb); have n6_ := Aside0.mk (below_step (by repeat (first | (with_reducible first | exact HB.out | apply below_alloc | apply pw_below_drewN | apply below_drew1) | exact HB.out)) hb); clear HO105; clear HO110; clear HO115; clear HO120; clear HO124; clear HO127; clear HB; have HO105 := n0_; have HO110 := n1_; have HO115 := n2_; have HO120 := n3_; have HO124 := n4_; have HO127 := n5_; have HB := n6_; clear n0_ n1_ n2_ n3_ n4_ n5_ n6_; (try clear hb); (try clear hb2); (try clear hk); (try clear hi)) | ((with_reducible refine gate_dst (N := 65) rfl ?_); (try (refine gate_guard (by rfl) ?_; dsimp only)); refine Kd.R_lit k59 _ 43 ?hg (N := 65) ?hd (xs := ([(⟨0, 1⟩ : S59)] : List (S59))) (inner := [.int .i64 0, .int .i64 1]) (ok := fun _ => True) (okp := fun _ => True) ?hr ?hp (fun _ hk => hk) trivial (Below.refl _ _) (Nat.le_refl _) (by simp) ?_; (case hd => rfl); (case hg => rfl); (case hr => first | (go_simp; done) | (go_simp; rfl)); (case hp => exact (Reps.c2 (show Kd.M k59 _ _ _ (⟨0, 1⟩ : S59) [.int .i64 0, .int .i64 1] from (k59_mkM _ _ _ (⟨0, 1⟩ : S59) )) (Reps.none _ _))); intro v131 w36 ho37 hb hg_ hnew_; clear hg_ hnew_; (first | rw [← Ny130.out] at ho37 | (simp only [Int.reduceToNat] at ho37; rw [← Ny130.out] at ho37)); have n0_ := Aside0.mk (Kd.R_below (by (with_reducible repeat (first | apply Kd.R_alloc | apply Kd.R_drewN | apply Kd.R_drew)); exact HO105.out) hb); have n1_ := Aside0.mk (Kd.R_below (by (with_reducible repeat (first | apply Kd.R_alloc | apply Kd.R_drewN | apply Kd.R_drew)); exact HO110.out) hb); have n2_ := Aside0.mk (Kd.R_below (by (with_reducible repeat (first | apply Kd.R_alloc | apply Kd.R_drewN | apply Kd.R_drew)); exact HO115.out) hb); have n3_ := Aside0.mk (Kd.R_below (by (with_reducible repeat (first | apply Kd.R_alloc | apply Kd.R_drewN | apply Kd.R_drew)); exact HO120.out) hb); have n4_ := Aside0.mk (Kd.R_elder' (by (with_reducible repeat (first | apply Kd.R_alloc | apply Kd.R_drewN | apply Kd.R_drew)); exact HO124.out) (Kd.R_base ho37) hb); have n5_ := Aside0.mk (Kd.R_below (by (with_reducible repeat (first | apply Kd.R_alloc | apply Kd.R_drewN | apply Kd.R_drew)); exact HO127.out) hb); have n6_ := Aside0.mk (Kd.R_lower (Kd.R_new' ho37 (Kd.R_lt (by (with_reducible repeat (first | apply Kd.R_alloc | apply Kd.R_drewN | apply Kd.R_drew)); exact HO124.out))) (below_size (by repeat (first | (with_reducible first | exact HB.out | apply below_alloc | apply pw_below_drewN | apply below_drew1) | exact HB.out)))); have n7_ := Aside0.mk (below_step (by repeat (first | (with_reducible first | exact HB.out | apply below_alloc | apply pw_below_drewN | apply below_drew1) | exact HB.out)) hb); clear HO105; clear HO110; clear HO115; clear HO120; clear HO124; clear HO127; clear HB; have HO105 := n0_; have HO110 := n1_; have HO115 := n2_; have HO120 := n3_; have HO124 := n4_; have HO127 := n5_; have HO132 := n6_; have HB := n7_; clear n0_ n1_ n2_ n3_ n4_ n5_ n6_ n7_; clear hb ho37; obtain ⟨Ao38, co38, eo38⟩ := Kd.R_slice HO124.out; subst eo38; obtain ⟨Ao39, co39, eo39⟩ := Kd.R_slice HO132.out; subst eo39) | (go_at_call 17; (with_reducible refine (drovewaylaw04_pairs.calls k _ _ t121 _ _ y130 true _ ?side1 ?side2 ?side3 ?side4 A13.out).mono ?_); (case side1 => repeat (first | exact (Kd.R_reads' HO124.out).2.2 | (with_reducible refine Kd.C_alloc ?_ _) | (with_reducible refine Kd.C_drewN ?_ _) | (with_reducible refine Kd.C_drew ?_))); (case side2 => exact (Kd.R_reads' HO124.out).2.1); (case side3 => repeat (first | exact (Kd.R_reads' HO132.out).2.2 | (with_reducible refine Kd.C_alloc ?_ _) | (with_reducible refine Kd.C_drewN ?_ _) | (with_reducible refine Kd.C_drew ?_))); (case side4 => exact (Kd.R_reads' HO132.out).2.1); rintro e w' ⟨rfl, ⟨nd, rfl⟩⟩))
  go_ret
  exact ⟨by first | rfl | (simp [errW_none, errW_some] <;> rfl) | (simp [*, errW_none, errW_some] <;> rfl), by repeat (first | (with_reducible first | exact HB.out | apply below_alloc | apply pw_below_drewN | apply below_drew1) | exact HB.out)⟩
end
end Go.Proofs.YtbjpjjokamaliaaDoor.B

/- Field, Placed, turn, as they are called (printed). -/
namespace Go.Proofs.YtbjpjjokamaliaaDoor.B
open Go.Proofs.YtbjpjjokamaliaaDoor.A
open Go.RowKit Go.Proofs.YtbjpjjokamaliaaDoorW.PrintWords Go.Proofs.YtbjpjjokamaliaaDoorW.PrintLast Go.Proofs.YtbjpjjokamaliaaDoorW.PrintMore
section
attribute [local go_sem] max2_int min2_int max_two min_two max_three min_three max_four min_four   -- for this text's walks alone
set_option linter.unusedVariables false
set_option linter.unusedSimpArgs false
/-! ### drovewaylaw04_few: function 5 -/
def drovewaylaw04_few.f (l0 : List Int) (a1 : ByteArray) (a2 : ByteArray) : Option (Bool) := if (l0.length : Int) ≤ 40 then (if (a1.size : Int) ≤ 40 then (some (decide ((a2.size : Int) ≤ 40))) else (some false)) else (some false)
set_option maxHeartbeats 8000000 in
set_option maxRecDepth 100000 in
theorem drovewaylaw04_few.calls (A0 : Option Addr) (c0 : Nat) (l0 : List Int) (a1 : ByteArray) (a2 : ByteArray) (r : Bool) (w : World) (hr0 : Kd.C (Kd.int .i64) w A0 l0.length l0) (hc0 : l0.length ≤ c0) (h : drovewaylaw04_few.f l0 a1 a2 = some r) :
    Calls Tryd.prog 5 #[.slice A0 l0.length c0, .string a1, .string a2] w fun e w' => e = .returned (.bool r) ∧ Drawn0 w w' := by
  have HR0 := Aside0.mk hr0
  have HC0 := Aside0.mk hc0
  clear hr0 hc0
  have H : (if (l0.length : Int) ≤ 40 then (if (a1.size : Int) ≤ 40 then (some (decide ((a2.size : Int) ≤ 40))) else (some false)) else (some false)) = some r := h
  clear h
  by_cases c4 : (l0.length : Int) ≤ 40
  · rw [if_pos c4] at H
    have c4b0 : decide ((l0.length : Int) ≤ 40) = true := decide_eq_true c4
    have c4b1 : decide (l0.length ≤ 40) = true := decide_eq_true (by omega)
    clear c4
    by_cases c5 : (a1.size : Int) ≤ 40
    · rw [if_pos c5] at H
      have c5b0 : decide ((a1.size : Int) ≤ 40) = true := decide_eq_true c5
      have c5b1 : decide (a1.size ≤ 40) = true := decide_eq_true (by omega)
      clear c5
      obtain rfl := Option.some.inj H
      go_enter Tryd.func5, Tryd.ntmps5
      go_wp2
      go_ret
      exact ⟨by first | rfl | (simp; done) | (simp [*]; done), by repeat (first | exact Drawn0.refl _ | apply Drawn0.step)⟩
    · rw [if_neg c5] at H
      have c5b0 : decide ((a1.size : Int) ≤ 40) = false := decide_eq_false c5
      have c5b1 : decide (a1.size ≤ 40) = false := decide_eq_false (by omega)
      clear c5
      obtain rfl := Option.some.inj H
      go_enter Tryd.func5, Tryd.ntmps5
      go_wp2
      go_ret
      exact ⟨by first | rfl | (simp; done) | (simp [*]; done), by repeat (first | exact Drawn0.refl _ | apply Drawn0.step)⟩
  · rw [if_neg c4] at H
    have c4b0 : decide ((l0.length : Int) ≤ 40) = false := decide_eq_false c4
    have c4b1 : decide (l0.length ≤ 40) = false := decide_eq_false (by omega)
    clear c4
    obtain rfl := Option.some.inj H
    go_enter Tryd.func5, Tryd.ntmps5
    go_wp2
    go_ret
    exact ⟨by first | rfl | (simp; done) | (simp [*]; done), by repeat (first | exact Drawn0.refl _ | apply Drawn0.step)⟩

-- by hand: function 6 (drovewaylaw04_alive)

-- by hand: function 7 (ambush_Winner)

/-! ### drovewayref04_Field: function 30 -/
mutual
def drovewayref04_Field.j0 : Nat → Int → List Int → Bool → Option (Int)
  | 0, _, _, _ => none
  | k + 1, x0, x1, x11 => if x11 = true then (some 2) else (if (x1.length : Int) > 12 then (some 3) else (drovewayref04_Field.l0 k x0 x1 0))
def drovewayref04_Field.l0 : Nat → Int → List Int → Int → Option (Int)
  | 0, _, _, _ => none
  | k + 1, x0, x1, x5 => if x5 < (x1.length : Int) then (if 0 ≤ x5 then (if (rd x1 x5) < 1 then (some 2) else (if 0 ≤ x0 then (if (rd x1 x5) ≥ (shl .i64 1 x0) then (some 2) else (drovewayref04_Field.l0 k x0 x1 (wrap64 (x5 + 1)))) else (none))) else (none)) else (some 0)
end
def drovewayref04_Field.f (k : Nat) (a0 : Int) (l1 : List Int) : Option (Int) := if a0 < 1 then (drovewayref04_Field.j0 k a0 l1 true) else (drovewayref04_Field.j0 k a0 l1 (decide (a0 > 9)))
theorem drovewayref04_Field.mono_l : ∀ k, (∀ y0 y1 y2, LeO (drovewayref04_Field.j0 k y0 y1 y2) (drovewayref04_Field.j0 (k + 1) y0 y1 y2)) ∧ (∀ y0 y1 y2, LeO (drovewayref04_Field.l0 k y0 y1 y2) (drovewayref04_Field.l0 (k + 1) y0 y1 y2))
  | 0 => ⟨fun _ _ _ r h => by simp [drovewayref04_Field.j0] at h, fun _ _ _ r h => by simp [drovewayref04_Field.l0] at h⟩
  | k + 1 => by
    obtain ⟨ih0, ih1⟩ := drovewayref04_Field.mono_l k
    refine ⟨?_, ?_⟩
    · intro y0 y1 y2
      unfold drovewayref04_Field.j0
      repeat' first
      | (with_reducible exact ih0 _ _ _)
      | (with_reducible exact ih1 _ _ _)
      | (with_reducible exact LeO.refl _)
      | (with_reducible exact LeO.none _)
      | (with_reducible refine LeO.ite ?_ ?_)
      | (with_reducible refine LeO.bind ?_ (fun _ => ?_))
      | exact ih0 _ _ _
      | exact ih1 _ _ _
      | exact LeO.none _
      | refine LeO.ite ?_ ?_
      | refine LeO.bind ?_ (fun _ => ?_)
    · intro y0 y1 y2
      unfold drovewayref04_Field.l0
      repeat' first
      | (with_reducible exact ih0 _ _ _)
      | (with_reducible exact ih1 _ _ _)
      | (with_reducible exact LeO.refl _)
      | (with_reducible exact LeO.none _)
      | (with_reducible refine LeO.ite ?_ ?_)
      | (with_reducible refine LeO.bind ?_ (fun _ => ?_))
      | exact ih0 _ _ _
      | exact ih1 _ _ _
      | exact LeO.none _
      | refine LeO.ite ?_ ?_
      | refine LeO.bind ?_ (fun _ => ?_)
theorem drovewayref04_Field.mono : ∀ a0 a1 k, LeO (drovewayref04_Field.f k a0 a1) (drovewayref04_Field.f (k + 1) a0 a1) := by
  intro a0 a1 k
  obtain ⟨ih0, ih1⟩ := drovewayref04_Field.mono_l k
  unfold drovewayref04_Field.f
  repeat' first
      | (with_reducible exact ih0 _ _ _)
      | (with_reducible exact ih1 _ _ _)
      | (with_reducible exact LeO.refl _)
      | (with_reducible exact LeO.none _)
      | (with_reducible refine LeO.ite ?_ ?_)
      | (with_reducible refine LeO.bind ?_ (fun _ => ?_))
      | exact ih0 _ _ _
      | exact ih1 _ _ _
      | exact LeO.none _
      | refine LeO.ite ?_ ?_
      | refine LeO.bind ?_ (fun _ => ?_)
set_option maxHeartbeats 8000000 in
set_option maxRecDepth 100000 in
theorem drovewayref04_Field.calls (k : Nat) (a0 : Int) (A1 : Option Addr) (c1 : Nat) (l1 : List Int) (r : Int) (w : World) (hr1 : Kd.C (Kd.int .i64) w A1 l1.length l1) (hc1 : l1.length ≤ c1) (h : drovewayref04_Field.f k a0 l1 = some r) :
    Calls Tryd.prog 30 #[.int .i64 a0, .slice A1 l1.length c1] w fun e w' => e = .returned (.int .i64 r) ∧ Drawn0 w w' := by
  have HR1 := Aside0.mk hr1
  have HC1 := Aside0.mk hc1
  clear hr1 hc1
  have H : (if a0 < 1 then (drovewayref04_Field.j0 k a0 l1 true) else (drovewayref04_Field.j0 k a0 l1 (decide (a0 > 9)))) = some r := h
  clear h
  have HC3 := Aside0.mk H
  clear H
  go_enter Tryd.func30, Tryd.ntmps30
  go_upto_region 1 with (fail)
  repeat (go_quiet (fail); go_upto_region 1 with (fail))
  go_cut [11] (fun v11 wc => ∃ (kq : Nat) (x11_2 : Bool), v11 = .bool x11_2 ∧ Aside0 (drovewayref04_Field.j0 kq a0 l1 x11_2 = some r) ∧ Aside0 (kq ≤ k) ∧ Drawn0 w wc)
  case first =>
    have H := HC3.out
    clear HC3
    by_cases c4 : a0 < 1
    · rw [if_pos c4] at H
      have c4b0 : decide (a0 < 1) = true := decide_eq_true c4
      clear c4
      (first | rw [c4b0] | (simp only [i64_w, i32_w]; rw [c4b0]) | skip)
      have H' := Aside0.mk H
      clear H
      go_wp2
      repeat (go_quiet (fail); try go_wp2)
      go_meet
      case rel => exact ⟨_, (true), (by first | rfl | (simp; done) | (simp [*]; done) | (simp; exact beq_not_bne _ _)), H', ⟨by first | omega | exact Nat.le_refl _⟩, by repeat (first | exact Drawn0.refl _ | apply Drawn0.step)⟩
    · rw [if_neg c4] at H
      have c4b0 : decide (a0 < 1) = false := decide_eq_false c4
      clear c4
      (first | rw [c4b0] | (simp only [i64_w, i32_w]; rw [c4b0]) | skip)
      have H' := Aside0.mk H
      clear H
      go_wp2
      repeat (go_quiet (fail); try go_wp2)
      go_meet
      case rel => exact ⟨_, (decide (a0 > 9)), (by first | rfl | (simp; done) | (simp [*]; done) | (simp; exact beq_not_bne _ _)), H', ⟨by first | omega | exact Nat.le_refl _⟩, by repeat (first | exact Drawn0.refl _ | apply Drawn0.step)⟩
  case rest =>
    clear HC3
    try clear c1
    try clear p2
    try clear c3
    try clear c4
    try clear c4b0
    obtain ⟨kq, x11_2, rfl, HA, HJ2, ⟨mc2, rfl⟩⟩ := hcut
    cases kq with
    | zero => exact absurd HA.out (by simp [drovewayref04_Field.j0])
    | succ kj2 =>
      have H := HA.out
      clear HA
      simp only [drovewayref04_Field.j0] at H
      by_cases c5 : x11_2 = true
      · subst c5
        have H1 : (some 2) = some r := by rw [if_pos rfl] at H; exact H
        clear H
        have H := H1
        clear H1
        obtain rfl := Option.some.inj H
        go_wp2
        repeat (go_quiet (fail); try go_wp2)
        go_ret
        exact ⟨by first | rfl | (simp; done) | (simp [*]; done), by repeat (first | exact Drawn0.refl _ | apply Drawn0.step)⟩
      · replace c5 := Bool.eq_false_iff.mpr c5
        subst c5
        have H1 : (if (l1.length : Int) > 12 then (some 3) else (drovewayref04_Field.l0 kj2 a0 l1 0)) = some r := by rw [if_neg (show ¬ (false = true) by decide)] at H; exact H
        clear H
        have H := H1
        clear H1
        by_cases c6 : (l1.length : Int) > 12
        · rw [if_pos c6] at H
          have c6b0 : decide (12 < (l1.length : Int)) = true := decide_eq_true c6
          have c6b1 : decide (12 < l1.length) = true := decide_eq_true (by omega)
          clear c6
          obtain rfl := Option.some.inj H
          go_wp2
          repeat (go_quiet (fail); try go_wp2)
          go_ret
          exact ⟨by first | rfl | (simp; done) | (simp [*]; done), by repeat (first | exact Drawn0.refl _ | apply Drawn0.step)⟩
        · rw [if_neg c6] at H
          have c6b0 : decide (12 < (l1.length : Int)) = false := decide_eq_false c6
          have c6b1 : decide (12 < l1.length) = false := decide_eq_false (by omega)
          clear c6
          have H' := Aside0.mk H
          clear H
          go_wp2
          repeat (go_quiet (fail); try go_wp2)
          go_loopg [5] kj2 (fun kq v5 w' => ∃ (x5_2 : Int), v5 = .int .i64 x5_2 ∧ Aside0 (drovewayref04_Field.l0 kq a0 l1 x5_2 = some r) ∧ Aside0 (kq ≤ kj2) ∧ Drawn0 w w')
          case atStart => exact ⟨(0), (by first | rfl | (simp; done) | (simp [*]; done) | (simp; exact beq_not_bne _ _)), H', ⟨Nat.le_refl _⟩, by repeat (first | exact Drawn0.refl _ | apply Drawn0.step)⟩
          case round =>
            clear H'
            try clear c1
            try clear c2
            try clear p2
            try clear c3
            try clear c4
            try clear c4b0
            try clear c5
            try clear c6
            try clear c6b0
            try clear c6b1
            try clear p2
            obtain ⟨x5_2, rfl, HA, HK2, ⟨m2, rfl⟩⟩ := hrel
            cases gk with
            | zero => exact absurd HA.out (by simp [drovewayref04_Field.l0])
            | succ k2 =>
              have H := HA.out
              clear HA
              simp only [drovewayref04_Field.l0] at H
              by_cases c7 : x5_2 < (l1.length : Int)
              · rw [if_pos c7] at H
                have c7b0 : decide (x5_2 < (l1.length : Int)) = true := decide_eq_true c7
                clear c7
                by_cases c8 : 0 ≤ x5_2
                · rw [if_pos c8] at H
                  have c8b0 : decide (0 ≤ x5_2) = true := decide_eq_true c8
                  clear c8
                  by_cases c9 : (rd l1 x5_2) < 1
                  · rw [if_pos c9] at H
                    have c9b0 : decide ((rd l1 x5_2) < 1) = true := decide_eq_true c9
                    clear c9
                    obtain rfl := Option.some.inj H
                    have p101 : 0 ≤ (x5_2 : Int) := of_decide_eq_true (by first | (with_reducible assumption) | assumption)
                    have q101 : x5_2 < (l1.length : Int) := of_decide_eq_true (by first | (with_reducible assumption) | assumption)
                    obtain ⟨ad101, e101, hx101_0⟩ := Kd.at_int HR1.out x5_2 p101 q101
                    cases e101
                    replace p101 := eq_true p101
                    replace q101 := eq_true q101
                    go_wp2
                    repeat (go_quiet (fail); try go_wp2)
                    go_ret
                    exact ⟨by first | rfl | (simp; done) | (simp [*]; done), by repeat (first | exact Drawn0.refl _ | apply Drawn0.step)⟩
                  · rw [if_neg c9] at H
                    have c9b0 : decide ((rd l1 x5_2) < 1) = false := decide_eq_false c9
                    clear c9
                    by_cases c10 : 0 ≤ a0
                    · rw [if_pos c10] at H
                      have c10b0 := eq_true c10
                      have c10b1 : decide (0 ≤ a0) = true := decide_eq_true c10
                      clear c10
                      obtain ⟨ji11, hji11⟩ : ∃ j_ : Int, (shl .i64 1 a0) = j_ := ⟨_, rfl⟩
                      replace H : (if (rd l1 x5_2) ≥ (ji11) then (some 2) else (drovewayref04_Field.l0 k2 a0 l1 (wrap64 (x5_2 + 1)))) = some r := by first | (rw [hji11] at H; exact H) | (simp only [hji11] at H ⊢; exact H)
                      have hji11_ : (IntKind.i64.wrap (1 * 2 ^ min a0.toNat 64)) = ji11 := hji11
                      have hji11z : a0 ≤ 64 → (IntKind.i64.wrap (1 * 2 ^ a0.toNat)) = ji11 := shl_small hji11
                      have hji11u : (IntKind.i64.wrap (2 ^ min a0.toNat 64)) = ji11 := by have h_ := hji11_; rw [Int.one_mul] at h_; exact h_
                      have hji11v : a0 ≤ 64 → (IntKind.i64.wrap (2 ^ a0.toNat)) = ji11 := fun hle_ => by have h_ := hji11z hle_; rw [Int.one_mul] at h_; exact h_
                      have hji11y : (wrap64 (1 * 2 ^ min a0.toNat 64)) = ji11 := (i64_w _).symm.trans hji11_
                      have hji11x : a0 ≤ 64 → (wrap64 (1 * 2 ^ a0.toNat)) = ji11 := fun h_ => (i64_w _).symm.trans (hji11z h_)
                      by_cases c12 : (rd l1 x5_2) ≥ (ji11)
                      · rw [if_pos c12] at H
                        have c12b0 : decide ((ji11) ≤ (rd l1 x5_2)) = true := decide_eq_true c12
                        clear c12
                        obtain rfl := Option.some.inj H
                        have p101 : 0 ≤ (x5_2 : Int) := of_decide_eq_true (by first | (with_reducible assumption) | assumption)
                        have q101 : x5_2 < (l1.length : Int) := of_decide_eq_true (by first | (with_reducible assumption) | assumption)
                        obtain ⟨ad101, e101, hx101_0⟩ := Kd.at_int HR1.out x5_2 p101 q101
                        cases e101
                        replace p101 := eq_true p101
                        replace q101 := eq_true q101
                        have p102 : 0 ≤ (x5_2 : Int) := of_decide_eq_true (by first | (with_reducible assumption) | assumption)
                        have q102 : x5_2 < (l1.length : Int) := of_decide_eq_true (by first | (with_reducible assumption) | assumption)
                        obtain ⟨ad102, e102, hx102_0⟩ := Kd.at_int HR1.out x5_2 p102 q102
                        obtain rfl : ad101 = ad102 := (by injection e102)
                        replace p102 := eq_true p102
                        replace q102 := eq_true q102
                        go_wp2
                        repeat (go_quiet (fail); try go_wp2)
                        go_ret
                        exact ⟨by first | rfl | (simp; done) | (simp only [← hji11] <;> (first | rfl | simp)) | (simp [*]; done), by repeat (first | exact Drawn0.refl _ | apply Drawn0.step)⟩
                      · rw [if_neg c12] at H
                        have c12b0 : decide ((ji11) ≤ (rd l1 x5_2)) = false := decide_eq_false c12
                        clear c12
                        have H' := Aside0.mk H
                        clear H
                        have p101 : 0 ≤ (x5_2 : Int) := of_decide_eq_true (by first | (with_reducible assumption) | assumption)
                        have q101 : x5_2 < (l1.length : Int) := of_decide_eq_true (by first | (with_reducible assumption) | assumption)
                        obtain ⟨ad101, e101, hx101_0⟩ := Kd.at_int HR1.out x5_2 p101 q101
                        cases e101
                        replace p101 := eq_true p101
                        replace q101 := eq_true q101
                        have p102 : 0 ≤ (x5_2 : Int) := of_decide_eq_true (by first | (with_reducible assumption) | assumption)
                        have q102 : x5_2 < (l1.length : Int) := of_decide_eq_true (by first | (with_reducible assumption) | assumption)
                        obtain ⟨ad102, e102, hx102_0⟩ := Kd.at_int HR1.out x5_2 p102 q102
                        obtain rfl : ad101 = ad102 := (by injection e102)
                        replace p102 := eq_true p102
                        replace q102 := eq_true q102
                        go_wp2
                        repeat (go_quiet (fail); try go_wp2)
                        go_roundg k2
                        case measure => have := HJ2.out; have := HK2.out; omega
                        case rel => exact ⟨(wrap64 (x5_2 + 1)), (by first | rfl | (simp; done) | (simp [*]; done) | (simp; exact beq_not_bne _ _)), H', ⟨by have := HJ2.out; have := HK2.out; omega⟩, by repeat (first | exact Drawn0.refl _ | apply Drawn0.step)⟩
                    · rw [if_neg c10] at H
                      exact absurd H (by simp)
                · rw [if_neg c8] at H
                  exact absurd H (by simp)
              · rw [if_neg c7] at H
                have c7b0 : decide (x5_2 < (l1.length : Int)) = false := decide_eq_false c7
                clear c7
                obtain rfl := Option.some.inj H
                go_wp2
                repeat (go_quiet (fail); try go_wp2)
                go_ret
                exact ⟨by first | rfl | (simp; done) | (simp [*]; done), by repeat (first | exact Drawn0.refl _ | apply Drawn0.step)⟩

/-! ### drovewayref04_Placed: function 12 -/
def drovewayref04_Placed.l0 : Nat → Int → ByteArray → Int → Int → Int → Option (Int × Int × Int)
  | 0, _, _, _, _, _ => none
  | k + 1, x0, x2, x10, x11, x12 => if x12 < x0 then (if 0 ≤ x12 then (if x12 < (x2.size : Int) then (if (bt x2 x12) = 119 then (drovewayref04_Placed.l0 k x0 x2 (wrap64 (x10 + (shl .i64 1 x12))) x11 (wrap64 (x12 + 1))) else (if (bt x2 x12) = 100 then (drovewayref04_Placed.l0 k x0 x2 x10 (wrap64 (x11 + (shl .i64 1 x12))) (wrap64 (x12 + 1))) else (if (bt x2 x12) = 46 then (drovewayref04_Placed.l0 k x0 x2 x10 x11 (wrap64 (x12 + 1))) else (some (0, 0, 5))))) else (none)) else (none)) else (some (x10, x11, 0))
def drovewayref04_Placed.f (k : Nat) (a0 : Int) (l1 : List Int) (a2 : ByteArray) : Option (Int × Int × Int) := (drovewayref04_Field.f k a0 l1).bind fun t103 => (if t103 = 0 then (if (a2.size : Int) = a0 then (drovewayref04_Placed.l0 k a0 a2 0 0 0) else (some (0, 0, 5))) else (some (0, 0, t103)))
theorem drovewayref04_Placed.mono_l : ∀ k, (∀ y0 y1 y2 y3 y4, LeO (drovewayref04_Placed.l0 k y0 y1 y2 y3 y4) (drovewayref04_Placed.l0 (k + 1) y0 y1 y2 y3 y4))
  | 0 => fun _ _ _ _ _ r h => by simp [drovewayref04_Placed.l0] at h
  | k + 1 => by
    have ih0 := drovewayref04_Placed.mono_l k
    · intro y0 y1 y2 y3 y4
      unfold drovewayref04_Placed.l0
      repeat' first
      | (with_reducible exact ih0 _ _ _ _ _)
      | (with_reducible exact drovewayref04_Field.mono _ _ _)
      | (with_reducible exact LeO.refl _)
      | (with_reducible exact LeO.none _)
      | (with_reducible refine LeO.ite ?_ ?_)
      | (with_reducible refine LeO.bind ?_ (fun _ => ?_))
      | exact ih0 _ _ _ _ _
      | exact drovewayref04_Field.mono _ _ _
      | exact LeO.none _
      | refine LeO.ite ?_ ?_
      | refine LeO.bind ?_ (fun _ => ?_)
theorem drovewayref04_Placed.mono : ∀ a0 a1 a2 k, LeO (drovewayref04_Placed.f k a0 a1 a2) (drovewayref04_Placed.f (k + 1) a0 a1 a2) := by
  intro a0 a1 a2 k
  have ih0 := drovewayref04_Placed.mono_l k
  unfold drovewayref04_Placed.f
  repeat' first
      | (with_reducible exact ih0 _ _ _ _ _)
      | (with_reducible exact drovewayref04_Field.mono _ _ _)
      | (with_reducible exact LeO.refl _)
      | (with_reducible exact LeO.none _)
      | (with_reducible refine LeO.ite ?_ ?_)
      | (with_reducible refine LeO.bind ?_ (fun _ => ?_))
      | exact ih0 _ _ _ _ _
      | exact drovewayref04_Field.mono _ _ _
      | exact LeO.none _
      | refine LeO.ite ?_ ?_
      | refine LeO.bind ?_ (fun _ => ?_)
set_option maxHeartbeats 8000000 in
set_option maxRecDepth 100000 in
theorem drovewayref04_Placed.calls (k : Nat) (a0 : Int) (A1 : Option Addr) (c1 : Nat) (l1 : List Int) (a2 : ByteArray) (r1 : Int) (r2 : Int) (r3 : Int) (w : World) (hr1 : Kd.C (Kd.int .i64) w A1 l1.length l1) (hc1 : l1.length ≤ c1) (h : drovewayref04_Placed.f k a0 l1 a2 = some (r1, r2, r3)) :
    Calls Tryd.prog 12 #[.int .i64 a0, .slice A1 l1.length c1, .string a2] w fun e w' => e = .returned (.tuple #[.int .i64 r1, .int .i64 r2, .int .i64 r3]) ∧ Drawn0 w w' := by
  have HR1 := Aside0.mk hr1
  have HC1 := Aside0.mk hc1
  clear hr1 hc1
  have H : ((drovewayref04_Field.f k a0 l1).bind fun t103 => (if t103 = 0 then (if (a2.size : Int) = a0 then (drovewayref04_Placed.l0 k a0 a2 0 0 0) else (some (0, 0, 5))) else (some (0, 0, t103)))) = some (r1, r2, r3) := h
  clear h
  replace H := Option.bind_eq_some_iff.mp H
  obtain ⟨t103, A40, H⟩ := H
  replace H : (if t103 = 0 then (if (a2.size : Int) = a0 then (drovewayref04_Placed.l0 k a0 a2 0 0 0) else (some (0, 0, 5))) else (some (0, 0, t103))) = some (r1, r2, r3) := H
  have A4 := Aside0.mk A40
  clear A40
  by_cases c5 : t103 = 0
  · rw [if_pos c5] at H
    have c5b0 : (t103 == 0) = true := beq_iff_eq.mpr c5
    have c5b1 : (t103 != 0) = false := bne_eq_false_iff_eq.mpr c5
    clear c5
    by_cases c6 : (a2.size : Int) = a0
    · rw [if_pos c6] at H
      have c6b0 : ((a2.size : Int) == a0) = true := beq_iff_eq.mpr c6
      have c6b1 : ((a2.size : Int) != a0) = false := bne_eq_false_iff_eq.mpr c6
      clear c6
      have H' := Aside0.mk H
      clear H
      go_enter Tryd.func12, Tryd.ntmps12
      go_wp2_with (first | ((with_reducible refine gate_callee (f := 30) rfl ?_); refine goesL_ (some 15) rfl rfl Tryd.func30 (by kernel_rfl) rfl #[.int .i64 a0, .slice A1 l1.length c1] rfl (by (try simp only [List.map_toArray, List.map_cons, List.map_nil]); first | done | rfl | (simp only [List.length_drop, List.length_take]; rfl)) ?_; (with_reducible refine (drovewayref04_Field.calls k a0 _ _ l1 t103 _ ?side1 ?side2 A4.out).mono ?_); (case side1 => repeat (first | exact HR1.out | (with_reducible refine Kd.C_alloc ?_ _) | (with_reducible refine Kd.C_drewN ?_ _) | (with_reducible refine Kd.C_drew ?_))); (case side2 => exact HC1.out); rintro e w' ⟨rfl, ⟨nd, rfl⟩⟩; refine ⟨_, rfl, ?_⟩))
      go_loopg [10, 11, 12] k (fun kq v10 v11 v12 w' => ∃ (x10_1 : Int) (x11_1 : Int) (x12_1 : Int), v10 = .int .i64 x10_1 ∧ v11 = .int .i64 x11_1 ∧ v12 = .int .i64 x12_1 ∧ Aside0 (drovewayref04_Placed.l0 kq a0 a2 x10_1 x11_1 x12_1 = some (r1, r2, r3)) ∧ Aside0 (kq ≤ k) ∧ Drawn0 w w')
      case atStart => exact ⟨(0), (0), (0), (by first | rfl | (simp; done) | (simp [*]; done) | (simp; exact beq_not_bne _ _)), (by first | rfl | (simp; done) | (simp [*]; done)), (by first | rfl | (simp; done) | (simp [*]; done)), H', ⟨Nat.le_refl _⟩, by repeat (first | exact Drawn0.refl _ | apply Drawn0.step)⟩
      case round =>
        clear H'
        try clear c1
        try clear p2
        try clear c3
        try clear c5
        try clear c5b0
        try clear c5b1
        try clear c6
        try clear c6b0
        try clear c6b1
        obtain ⟨x10_1, x11_1, x12_1, rfl, rfl, rfl, HA, HK1, ⟨m1, rfl⟩⟩ := hrel
        cases gk with
        | zero => exact absurd HA.out (by simp [drovewayref04_Placed.l0])
        | succ k1 =>
          have H := HA.out
          clear HA
          simp only [drovewayref04_Placed.l0] at H
          by_cases c7 : x12_1 < a0
          · rw [if_pos c7] at H
            have c7b0 : decide (x12_1 < a0) = true := decide_eq_true c7
            clear c7
            by_cases c8 : 0 ≤ x12_1
            · rw [if_pos c8] at H
              have c8b0 : decide (0 ≤ x12_1) = true := decide_eq_true c8
              clear c8
              by_cases c9 : x12_1 < (a2.size : Int)
              · rw [if_pos c9] at H
                have c9b0 : decide (x12_1 < (a2.size : Int)) = true := decide_eq_true c9
                clear c9
                by_cases c11 : (bt a2 x12_1) = 119
                · rw [if_pos c11] at H
                  have c11b0 : ((bt a2 x12_1) == 119) = true := beq_iff_eq.mpr c11
                  have c11b1 : ((bt a2 x12_1) != 119) = false := bne_eq_false_iff_eq.mpr c11
                  clear c11
                  have c12b0 := eq_true (of_decide_eq_true (by first | (with_reducible assumption) | assumption) : 0 ≤ x12_1)
                  obtain ⟨ji13, hji13⟩ : ∃ j_ : Int, (shl .i64 1 x12_1) = j_ := ⟨_, rfl⟩
                  replace H : (drovewayref04_Placed.l0 k1 a0 a2 (wrap64 (x10_1 + (ji13))) x11_1 (wrap64 (x12_1 + 1))) = some (r1, r2, r3) := by first | (rw [hji13] at H; exact H) | (simp only [hji13] at H ⊢; exact H)
                  have hji13_ : (IntKind.i64.wrap (1 * 2 ^ min x12_1.toNat 64)) = ji13 := hji13
                  have hji13z : x12_1 ≤ 64 → (IntKind.i64.wrap (1 * 2 ^ x12_1.toNat)) = ji13 := shl_small hji13
                  have hji13u : (IntKind.i64.wrap (2 ^ min x12_1.toNat 64)) = ji13 := by have h_ := hji13_; rw [Int.one_mul] at h_; exact h_
                  have hji13v : x12_1 ≤ 64 → (IntKind.i64.wrap (2 ^ x12_1.toNat)) = ji13 := fun hle_ => by have h_ := hji13z hle_; rw [Int.one_mul] at h_; exact h_
                  have hji13y : (wrap64 (1 * 2 ^ min x12_1.toNat 64)) = ji13 := (i64_w _).symm.trans hji13_
                  have hji13x : x12_1 ≤ 64 → (wrap64 (1 * 2 ^ x12_1.toNat)) = ji13 := fun h_ => (i64_w _).symm.trans (hji13z h_)
                  have H' := Aside0.mk H
                  clear H
                  have p10 : 0 ≤ (x12_1 : Int) := of_decide_eq_true (by first | (with_reducible assumption) | assumption)
                  have q10 : x12_1 < (a2.size : Int) := of_decide_eq_true (by first | (with_reducible assumption) | assumption)
                  have hx10 := bt_at a2 x12_1
                  replace p10 := eq_true p10
                  replace q10 := eq_true q10
                  go_wp2
                  go_roundg k1
                  case measure => have := HK1.out; omega
                  case rel => exact ⟨(wrap64 (x10_1 + (ji13))), (x11_1), (wrap64 (x12_1 + 1)), (by first | rfl | (simp; done) | (simp only [← hji13] <;> (first | rfl | simp)) | (simp [*]; done)), (by first | rfl | (simp; done) | (simp [*]; done) | (simp; exact beq_not_bne _ _)), (by first | rfl | (simp; done) | (simp [*]; done)), H', ⟨by have := HK1.out; omega⟩, by repeat (first | exact Drawn0.refl _ | apply Drawn0.step)⟩
                · rw [if_neg c11] at H
                  have c11b0 : ((bt a2 x12_1) == 119) = false := beq_eq_false_iff_ne.mpr c11
                  have c11b1 : ((bt a2 x12_1) != 119) = true := bne_iff_ne.mpr c11
                  by_cases c14 : (bt a2 x12_1) = 100
                  · rw [if_pos c14] at H
                    have c14b0 : ((bt a2 x12_1) == 100) = true := beq_iff_eq.mpr c14
                    have c14b1 : ((bt a2 x12_1) != 100) = false := bne_eq_false_iff_eq.mpr c14
                    clear c14
                    have c15b0 := eq_true (of_decide_eq_true (by first | (with_reducible assumption) | assumption) : 0 ≤ x12_1)
                    obtain ⟨ji16, hji16⟩ : ∃ j_ : Int, (shl .i64 1 x12_1) = j_ := ⟨_, rfl⟩
                    replace H : (drovewayref04_Placed.l0 k1 a0 a2 x10_1 (wrap64 (x11_1 + (ji16))) (wrap64 (x12_1 + 1))) = some (r1, r2, r3) := by first | (rw [hji16] at H; exact H) | (simp only [hji16] at H ⊢; exact H)
                    have hji16_ : (IntKind.i64.wrap (1 * 2 ^ min x12_1.toNat 64)) = ji16 := hji16
                    have hji16z : x12_1 ≤ 64 → (IntKind.i64.wrap (1 * 2 ^ x12_1.toNat)) = ji16 := shl_small hji16
                    have hji16u : (IntKind.i64.wrap (2 ^ min x12_1.toNat 64)) = ji16 := by have h_ := hji16_; rw [Int.one_mul] at h_; exact h_
                    have hji16v : x12_1 ≤ 64 → (IntKind.i64.wrap (2 ^ x12_1.toNat)) = ji16 := fun hle_ => by have h_ := hji16z hle_; rw [Int.one_mul] at h_; exact h_
                    have hji16y : (wrap64 (1 * 2 ^ min x12_1.toNat 64)) = ji16 := (i64_w _).symm.trans hji16_
                    have hji16x : x12_1 ≤ 64 → (wrap64 (1 * 2 ^ x12_1.toNat)) = ji16 := fun h_ => (i64_w _).symm.trans (hji16z h_)
                    have H' := Aside0.mk H
                    clear H
                    have p10 : 0 ≤ (x12_1 : Int) := of_decide_eq_true (by first | (with_reducible assumption) | assumption)
                    have q10 : x12_1 < (a2.size : Int) := of_decide_eq_true (by first | (with_reducible assumption) | assumption)
                    have hx10 := bt_at a2 x12_1
                    replace p10 := eq_true p10
                    replace q10 := eq_true q10
                    go_wp2
                    go_roundg k1
                    case measure => have := HK1.out; omega
                    case rel => exact ⟨(x10_1), (wrap64 (x11_1 + (ji16))), (wrap64 (x12_1 + 1)), (by first | rfl | (simp; done) | (simp [*]; done) | (simp; exact beq_not_bne _ _)), (by first | rfl | (simp; done) | (simp only [← hji16] <;> (first | rfl | simp)) | (simp [*]; done)), (by first | rfl | (simp; done) | (simp [*]; done)), H', ⟨by have := HK1.out; omega⟩, by repeat (first | exact Drawn0.refl _ | apply Drawn0.step)⟩
                  · rw [if_neg c14] at H
                    have c14b0 : ((bt a2 x12_1) == 100) = false := beq_eq_false_iff_ne.mpr c14
                    have c14b1 : ((bt a2 x12_1) != 100) = true := bne_iff_ne.mpr c14
                    by_cases c17 : (bt a2 x12_1) = 46
                    · rw [if_pos c17] at H
                      have c17b0 : ((bt a2 x12_1) == 46) = true := beq_iff_eq.mpr c17
                      have c17b1 : ((bt a2 x12_1) != 46) = false := bne_eq_false_iff_eq.mpr c17
                      clear c17
                      have H' := Aside0.mk H
                      clear H
                      have p10 : 0 ≤ (x12_1 : Int) := of_decide_eq_true (by first | (with_reducible assumption) | assumption)
                      have q10 : x12_1 < (a2.size : Int) := of_decide_eq_true (by first | (with_reducible assumption) | assumption)
                      have hx10 := bt_at a2 x12_1
                      replace p10 := eq_true p10
                      replace q10 := eq_true q10
                      go_wp2
                      go_roundg k1
                      case measure => have := HK1.out; omega
                      case rel => exact ⟨(x10_1), (x11_1), (wrap64 (x12_1 + 1)), (by first | rfl | (simp; done) | (simp [*]; done) | (simp; exact beq_not_bne _ _)), (by first | rfl | (simp; done) | (simp [*]; done)), (by first | rfl | (simp; done) | (simp [*]; done)), H', ⟨by have := HK1.out; omega⟩, by repeat (first | exact Drawn0.refl _ | apply Drawn0.step)⟩
                    · rw [if_neg c17] at H
                      have c17b0 : ((bt a2 x12_1) == 46) = false := beq_eq_false_iff_ne.mpr c17
                      have c17b1 : ((bt a2 x12_1) != 46) = true := bne_iff_ne.mpr c17
                      simp only [Option.some.injEq, Prod.mk.injEq] at H
                      obtain ⟨rfl, rfl, rfl⟩ := H
                      have p10 : 0 ≤ (x12_1 : Int) := of_decide_eq_true (by first | (with_reducible assumption) | assumption)
                      have q10 : x12_1 < (a2.size : Int) := of_decide_eq_true (by first | (with_reducible assumption) | assumption)
                      have hx10 := bt_at a2 x12_1
                      replace p10 := eq_true p10
                      replace q10 := eq_true q10
                      go_wp2
                      go_ret3
                      exact ⟨by first | rfl | (simp; done) | (simp [*]; done), by repeat (first | exact Drawn0.refl _ | apply Drawn0.step)⟩
              · rw [if_neg c9] at H
                exact absurd H (by simp)
            · rw [if_neg c8] at H
              exact absurd H (by simp)
          · rw [if_neg c7] at H
            have c7b0 : decide (x12_1 < a0) = false := decide_eq_false c7
            clear c7
            simp only [Option.some.injEq, Prod.mk.injEq] at H
            obtain ⟨rfl, rfl, rfl⟩ := H
            go_wp2
            go_ret3
            exact ⟨by first | rfl | (simp; done) | (simp [*]; done), by repeat (first | exact Drawn0.refl _ | apply Drawn0.step)⟩
    · rw [if_neg c6] at H
      have c6b0 : ((a2.size : Int) == a0) = false := beq_eq_false_iff_ne.mpr c6
      have c6b1 : ((a2.size : Int) != a0) = true := bne_iff_ne.mpr c6
      simp only [Option.some.injEq, Prod.mk.injEq] at H
      obtain ⟨rfl, rfl, rfl⟩ := H
      go_enter Tryd.func12, Tryd.ntmps12
      go_wp2_with (first | ((with_reducible refine gate_callee (f := 30) rfl ?_); refine goesL_ (some 15) rfl rfl Tryd.func30 (by kernel_rfl) rfl #[.int .i64 a0, .slice A1 l1.length c1] rfl (by (try simp only [List.map_toArray, List.map_cons, List.map_nil]); first | done | rfl | (simp only [List.length_drop, List.length_take]; rfl)) ?_; (with_reducible refine (drovewayref04_Field.calls k a0 _ _ l1 t103 _ ?side1 ?side2 A4.out).mono ?_); (case side1 => repeat (first | exact HR1.out | (with_reducible refine Kd.C_alloc ?_ _) | (with_reducible refine Kd.C_drewN ?_ _) | (with_reducible refine Kd.C_drew ?_))); (case side2 => exact HC1.out); rintro e w' ⟨rfl, ⟨nd, rfl⟩⟩; refine ⟨_, rfl, ?_⟩))
      go_ret3
      exact ⟨by first | rfl | (simp; done) | (simp [*]; done), by repeat (first | exact Drawn0.refl _ | apply Drawn0.step)⟩
  · rw [if_neg c5] at H
    have c5b0 : (t103 == 0) = false := beq_eq_false_iff_ne.mpr c5
    have c5b1 : (t103 != 0) = true := bne_iff_ne.mpr c5
    simp only [Option.some.injEq, Prod.mk.injEq] at H
    obtain ⟨rfl, rfl, rfl⟩ := H
    go_enter Tryd.func12, Tryd.ntmps12
    go_wp2_with (first | ((with_reducible refine gate_callee (f := 30) rfl ?_); refine goesL_ (some 15) rfl rfl Tryd.func30 (by kernel_rfl) rfl #[.int .i64 a0, .slice A1 l1.length c1] rfl (by (try simp only [List.map_toArray, List.map_cons, List.map_nil]); first | done | rfl | (simp only [List.length_drop, List.length_take]; rfl)) ?_; (with_reducible refine (drovewayref04_Field.calls k a0 _ _ l1 t103 _ ?side1 ?side2 A4.out).mono ?_); (case side1 => repeat (first | exact HR1.out | (with_reducible refine Kd.C_alloc ?_ _) | (with_reducible refine Kd.C_drewN ?_ _) | (with_reducible refine Kd.C_drew ?_))); (case side2 => exact HC1.out); rintro e w' ⟨rfl, ⟨nd, rfl⟩⟩; refine ⟨_, rfl, ?_⟩))
    go_ret3
    exact ⟨by first | rfl | (simp; done) | (simp [*]; done), by repeat (first | exact Drawn0.refl _ | apply Drawn0.step)⟩

/-! ### drovewayref04_turn: function 21 -/
def drovewayref04_turn.f (a0 : ByteArray) : Option (Int × Int) := if a0.toList = ([119] : List UInt8) then (some (0, 0)) else (if a0.toList = ([100] : List UInt8) then (some (1, 0)) else (some (0, 5)))
set_option maxHeartbeats 8000000 in
set_option maxRecDepth 100000 in
theorem drovewayref04_turn.calls (a0 : ByteArray) (r1 : Int) (r2 : Int) (w : World) (h : drovewayref04_turn.f a0 = some (r1, r2)) :
    Calls Tryd.prog 21 #[.string a0] w fun e w' => e = .returned (.tuple #[.int .i64 r1, .int .i64 r2]) ∧ Drawn0 w w' := by
  have H : (if a0.toList = ([119] : List UInt8) then (some (0, 0)) else (if a0.toList = ([100] : List UInt8) then (some (1, 0)) else (some (0, 5)))) = some (r1, r2) := h
  clear h
  by_cases c2 : a0.toList = ([119] : List UInt8)
  · rw [if_pos c2] at H
    have c2b0 : (a0.toList == ([119] : List UInt8)) = true := beq_iff_eq.mpr c2
    have c2b1 : (a0.toList != ([119] : List UInt8)) = false := bne_eq_false_iff_eq.mpr c2
    clear c2
    simp only [Option.some.injEq, Prod.mk.injEq] at H
    obtain ⟨rfl, rfl⟩ := H
    go_enter Tryd.func21, Tryd.ntmps21
    go_wp2
    go_ret2
    exact ⟨by first | rfl | (simp; done) | (simp [*]; done), by repeat (first | exact Drawn0.refl _ | apply Drawn0.step)⟩
  · rw [if_neg c2] at H
    have c2b0 : (a0.toList == ([119] : List UInt8)) = false := beq_eq_false_iff_ne.mpr c2
    have c2b1 : (a0.toList != ([119] : List UInt8)) = true := bne_iff_ne.mpr c2
    by_cases c3 : a0.toList = ([100] : List UInt8)
    · rw [if_pos c3] at H
      have c3b0 : (a0.toList == ([100] : List UInt8)) = true := beq_iff_eq.mpr c3
      have c3b1 : (a0.toList != ([100] : List UInt8)) = false := bne_eq_false_iff_eq.mpr c3
      clear c3
      simp only [Option.some.injEq, Prod.mk.injEq] at H
      obtain ⟨rfl, rfl⟩ := H
      go_enter Tryd.func21, Tryd.ntmps21
      go_wp2
      go_ret2
      exact ⟨by first | rfl | (simp; done) | (simp [*]; done), by repeat (first | exact Drawn0.refl _ | apply Drawn0.step)⟩
    · rw [if_neg c3] at H
      have c3b0 : (a0.toList == ([100] : List UInt8)) = false := beq_eq_false_iff_ne.mpr c3
      have c3b1 : (a0.toList != ([100] : List UInt8)) = true := bne_iff_ne.mpr c3
      simp only [Option.some.injEq, Prod.mk.injEq] at H
      obtain ⟨rfl, rfl⟩ := H
      go_enter Tryd.func21, Tryd.ntmps21
      go_wp2
      go_ret2
      exact ⟨by first | rfl | (simp; done) | (simp [*]; done), by repeat (first | exact Drawn0.refl _ | apply Drawn0.step)⟩

-- NOT PRINTED: function 22 (drovewayref04_newGame)

end
end Go.Proofs.YtbjpjjokamaliaaDoor.B

/- The plain game: more spots for the wolves never help the dogs; who wins when the other one is next wins when next. -/
namespace Go.Proofs.YtbjpjjokamaliaaDoor.A
open Go.RowKit Go.Proofs.YtbjpjjokamaliaaDoorW.PrintWords Go.Proofs.YtbjpjjokamaliaaDoorW.PrintMore

/-- A set is within another one. -/
def Sub (f g : Nat → Bool) : Prop := ∀ i, f i = true → g i = true
theorem Sub.refl (f : Nat → Bool) : Sub f f := fun _ h => h
theorem Sub.trans {f g h : Nat → Bool} (a : Sub f g) (b : Sub g h) : Sub f h := fun i x => b i (a i x)
theorem up_iff (f : Nat → Bool) (i j : Nat) : up f i j = true ↔ (f j = true ∨ j = i) := by simp [up]
theorem Sub.up {f g : Nat → Bool} (h : Sub f g) (i : Nat) : Sub (up f i) (A.up g i) := fun j x => by
  rw [up_iff] at x ⊢
  exact x.imp (h j) id
theorem Sub.upr (f : Nat → Bool) (i : Nat) : Sub f (A.up f i) := fun j x => by rw [up_iff]; exact .inl x
theorem Sub.up_in {f g : Nat → Bool} (h : Sub f g) {i : Nat} (hi : g i = true) : Sub (A.up f i) g := fun j x => by
  rw [up_iff] at x
  rcases x with x | rfl
  · exact h j x
  · exact hi
theorem hasL_sub {l : List Int} {m : Nat} {W W' : Nat → Bool} (h : Sub W W') (hl : hasL l m W = true) : hasL l m W' = true := by
  unfold hasL at hl ⊢
  rw [List.any_eq_true] at hl ⊢
  obtain ⟨x, hx, hi⟩ := hl
  refine ⟨x, hx, ?_⟩
  unfold inL at hi ⊢
  rw [List.all_eq_true] at hi ⊢
  intro i hm
  have := hi i hm
  rw [Bool.or_eq_true] at this ⊢
  exact this.imp id (h i)
theorem fr_iff (W D : Nat → Bool) (i : Nat) : fr W D i = true ↔ W i = false ∧ D i = false := by
  unfold fr
  cases W i <;> cases D i <;> simp
theorem wins_w_iff (l : List Int) (m : Nat) (W D : Nat → Bool) : wins l m W D true = true ↔ hasL l m W = true ∨ ∃ i, i < m ∧ fr W D i = true ∧ wins l m (up W i) D false = true := by
  rw [wins_w, Bool.or_eq_true, List.any_eq_true]
  refine or_congr Iff.rfl ⟨?_, ?_⟩
  · rintro ⟨i, hi, h⟩
    rw [Bool.and_eq_true] at h
    exact ⟨i, List.mem_range.1 hi, h.1, h.2⟩
  · rintro ⟨i, hi, h1, h2⟩
    exact ⟨i, List.mem_range.2 hi, by rw [h1, h2]; rfl⟩
theorem wins_d_iff (l : List Int) (m : Nat) (W D : Nat → Bool) : wins l m W D false = true ↔ hasL l m W = true ∨ ((∃ i, i < m ∧ fr W D i = true) ∧ ∀ i, i < m → fr W D i = true → wins l m W (up D i) true = true) := by
  rw [wins_d, Bool.or_eq_true, Bool.and_eq_true, List.any_eq_true, List.all_eq_true]
  refine or_congr Iff.rfl (and_congr ⟨?_, ?_⟩ ⟨?_, ?_⟩)
  · rintro ⟨i, hi, h⟩; exact ⟨i, List.mem_range.1 hi, h⟩
  · rintro ⟨i, hi, h⟩; exact ⟨i, List.mem_range.2 hi, h⟩
  · intro h i hi hf
    have := h i (List.mem_range.2 hi)
    rw [hf] at this
    simpa using this
  · intro h i hi
    by_cases hf : fr W D i = true
    · rw [h i (List.mem_range.1 hi) hf]; simp
    · simp at hf; rw [hf]; rfl
theorem wins_mono_n (l : List Int) (m : Nat) : ∀ n (W D W' D' : Nat → Bool) (nx : Bool), cntF m W D ≤ n → Sub W W' → Sub D' D → wins l m W D nx = true → wins l m W' D' nx = true := by
  intro n
  induction n with
  | zero =>
    intro W D W' D' nx hn hW hD h
    have hno : ∀ i, i < m → fr W D i = true → False := fun i hi hf => by have := cnt_pos hi hf; omega
    have hl : hasL l m W = true := by
      cases nx
      · rcases (wins_d_iff l m W D).1 h with h | ⟨⟨i, hi, hf⟩, _⟩
        · exact h
        · exact (hno i hi hf).elim
      · rcases (wins_w_iff l m W D).1 h with h | ⟨i, hi, hf, _⟩
        · exact h
        · exact (hno i hi hf).elim
    cases nx
    · exact (wins_d_iff l m W' D').2 (.inl (hasL_sub hW hl))
    · exact (wins_w_iff l m W' D').2 (.inl (hasL_sub hW hl))
  | succ n ih =>
    intro W D W' D' nx hn hW hD h
    cases nx
    · rcases (wins_d_iff l m W D).1 h with h | ⟨⟨i, hi, hf⟩, hall⟩
      · exact (wins_d_iff l m W' D').2 (.inl (hasL_sub hW h))
      · have hgo : ∀ j, j < m → fr W D j = true → ∀ E, Sub E (up D j) → wins l m W' E true = true := fun j hj hfj E hE =>
          ih W (up D j) W' E true (by have := cnt_upD hj hfj; omega) hW hE (hall j hj hfj)
        by_cases hex : ∃ j, j < m ∧ fr W' D' j = true
        · refine (wins_d_iff l m W' D').2 (.inr ⟨hex, fun k hk hfk => ?_⟩)
          obtain ⟨hk1, hk2⟩ := (fr_iff W' D' k).1 hfk
          have hkW : W k = false := by
            cases e : W k with
            | false => rfl
            | true => rw [hW k e] at hk1; cases hk1
          cases e : D k with
          | true => exact hgo i hi hf _ ((hD.up_in e).trans (Sub.upr D i))
          | false => exact hgo k hk ((fr_iff W D k).2 ⟨hkW, e⟩) _ (hD.up k)
        · have hw := hgo i hi hf D' (hD.trans (Sub.upr D i))
          rcases (wins_w_iff l m W' D').1 hw with hw | ⟨j, hj, hfj, _⟩
          · exact (wins_d_iff l m W' D').2 (.inl hw)
          · exact (hex ⟨j, hj, hfj⟩).elim
    · rcases (wins_w_iff l m W D).1 h with h | ⟨i, hi, hf, hw⟩
      · exact (wins_w_iff l m W' D').2 (.inl (hasL_sub hW h))
      · have hc := cnt_upW hi hf
        obtain ⟨hi1, hi2⟩ := (fr_iff W D i).1 hf
        cases e : W' i with
        | false =>
          have hiD : D' i = false := by
            cases e' : D' i with
            | false => rfl
            | true => rw [hD i e'] at hi2; cases hi2
          exact (wins_w_iff l m W' D').2 (.inr ⟨i, hi, (fr_iff W' D' i).2 ⟨e, hiD⟩, ih (up W i) D (up W' i) D' false (by omega) (hW.up i) hD hw⟩)
        | true =>
          have hsub : Sub (up W i) W' := hW.up_in e
          rcases (wins_d_iff l m (up W i) D).1 hw with hw | ⟨⟨j, hj, hfj⟩, hall⟩
          · exact (wins_w_iff l m W' D').2 (.inl (hasL_sub hsub hw))
          · exact ih (up W i) (up D j) W' D' true (by have := cnt_upD hj hfj; omega) hsub (hD.trans (Sub.upr D j)) (hall j hj hfj)
theorem wins_mono {l : List Int} {m : Nat} {W D W' D' : Nat → Bool} {nx : Bool} (hW : Sub W W') (hD : Sub D' D) (h : wins l m W D nx = true) : wins l m W' D' nx = true :=
  wins_mono_n l m _ W D W' D' nx (Nat.le_refl _) hW hD h
theorem wins_tempo {l : List Int} {m : Nat} {W D : Nat → Bool} (h : wins l m W D false = true) : wins l m W D true = true := by
  rcases (wins_d_iff l m W D).1 h with h | ⟨⟨i, hi, hf⟩, hall⟩
  · exact (wins_w_iff l m W D).2 (.inl h)
  · exact wins_mono (Sub.refl W) (Sub.upr D i) (hall i hi hf)

/-! ### a position with a spot more -/
theorem bt_nums (xs : List Int) (j : Nat) (hj : j < xs.length) (h0 : 0 ≤ xs.getD j 0) (h1 : xs.getD j 0 < 256) : bt (strOfNums xs) j = xs.getD j 0 := by
  have hs : (strOfNums xs).size = xs.length := strOfNums_size xs
  have hg : xs.getD j 0 = xs[j] := by simp [List.getD_eq_getElem?_getD, List.getElem?_eq_getElem hj]
  rw [hg] at h0 h1 ⊢
  unfold bt
  have h : ((j : Int)).toNat < (strOfNums xs).size := by rw [hs]; simpa using hj
  rw [dif_pos h]
  have : (strOfNums xs)[((j : Int)).toNat]'h = UInt8.ofNat (xs[j]).toNat := by
    show (strOfNums xs).data[((j : Int)).toNat] = _
    simp [strOfNums]
  rw [this]
  simp
  omega
theorem bytes_getD (s : ByteArray) (j : Nat) : (bytesOf s).getD j 0 = bt s j := by
  have := rd_bytesOf s j
  unfold rd at this
  simpa using this
theorem placedS_size (s : ByteArray) (i c : Int) : (placedS s i c).size = s.size := by
  unfold placedS
  split <;> rw [strOfNums_size] <;> simp [bytesOf_length]
theorem placedS_bt (s : ByteArray) (i c : Int) (j : Nat) (hj : j < s.size) (h0 : 0 ≤ c) (h1 : c < 256) : bt (placedS s i c) j = if (j : Int) = i then c else bt s j := by
  have hb := bt_range s j
  unfold placedS
  by_cases hi : 0 ≤ i ∧ i < s.size
  · rw [if_pos hi]
    have hlen : j < ((bytesOf s).set i.toNat c).length := by simpa [bytesOf_length] using hj
    by_cases e : (j : Int) = i
    · have he : i.toNat = j := by omega
      rw [if_pos e, bt_nums _ _ hlen] <;> rw [he] <;> simp [List.getD_eq_getElem?_getD, bytesOf_length, hj] <;> omega
    · have he : i.toNat ≠ j := by omega
      have hg : ((bytesOf s).set i.toNat c).getD j 0 = bt s j := by
        rw [← bytes_getD]
        simp [List.getD_eq_getElem?_getD, List.getElem?_set_ne he]
      rw [if_neg e, bt_nums _ _ hlen] <;> rw [hg] <;> omega
  · rw [if_neg hi]
    have e : ¬ (j : Int) = i := by omega
    rw [if_neg e, bt_nums _ _ (by simpa [bytesOf_length] using hj)] <;> rw [bytes_getD] <;> omega
theorem okP_iff {m : Int} {l : List Int} {s : ByteArray} : okP m l s = 0 ↔ okF m l = 0 ∧ (s.size : Int) = m ∧ ∀ i, i < s.size → okC (bt s i) = true := by
  unfold okP
  constructor
  · intro h
    by_cases h1 : okF m l ≠ 0
    · rw [if_pos h1] at h; exact absurd h h1
    · rw [if_neg h1] at h
      by_cases h2 : (s.size : Int) ≠ m
      · rw [if_pos h2] at h; cases h
      · rw [if_neg h2] at h
        refine ⟨by simpa using h1, by simpa using h2, fun i hi => ?_⟩
        by_cases h3 : (List.range s.size).all (fun i => okC (bt s i)) = true
        · exact List.all_eq_true.1 h3 i (List.mem_range.2 hi)
        · rw [if_neg h3] at h; cases h
  · rintro ⟨h1, h2, h3⟩
    rw [if_neg (by simpa using h1), if_neg (by simpa using h2), if_pos (List.all_eq_true.2 fun i hi => h3 i (List.mem_range.1 hi))]
theorem okP_placed {m : Int} {l : List Int} {s : ByteArray} (h : okP m l s = 0) (i c : Int) (hc : okC c = true) (h0 : 0 ≤ c) (h1 : c < 256) : okP m l (placedS s i c) = 0 := by
  obtain ⟨hF, hm, ha⟩ := okP_iff.1 h
  refine okP_iff.2 ⟨hF, by rw [placedS_size]; exact hm, fun j hj => ?_⟩
  rw [placedS_size] at hj
  rw [placedS_bt s i c j hj h0 h1]
  split
  · exact hc
  · exact ha j hj
theorem okA_w {m : Int} {l : List Int} {s : ByteArray} (h : okP m l s = 0) : okA m l s sW = 0 := by
  unfold okA
  rw [if_neg (by simpa using h), if_pos (by decide +kernel)]
theorem okA_d {m : Int} {l : List Int} {s : ByteArray} (h : okP m l s = 0) : okA m l s sD = 0 := by
  unfold okA
  rw [if_neg (by simpa using h), if_neg (by decide +kernel), if_pos (by decide +kernel)]
theorem okA_let {m : Int} {l : List Int} {s : ByteArray} (h : okP m l s = 0) (b : Bool) : okA m l s (letS b) = 0 := by
  cases b
  · exact okA_d h
  · exact okA_w h
theorem nxW_let (b : Bool) : nxW (letS b) = some b := by cases b <;> decide +kernel
theorem winner_let {m : Int} {l : List Int} {s : ByteArray} (h : okP m l s = 0) (b : Bool) : ambush_Winner.f m l s (letS b) = some (letS (winS l s b), 0) := by
  unfold ambush_Winner.f
  rw [if_pos (okA_let h b), nxW_let]
  rfl
theorem winS_placed {l : List Int} {s : ByteArray} {i : Int} {nx : Bool} (h : winS l s nx = true) : winS l (placedS s i 119) nx = true := by
  unfold winS at h ⊢
  rw [placedS_size]
  refine wins_mono ?_ ?_ h
  · intro j hj
    rw [msk_tb] at hj ⊢
    simp only [Bool.and_eq_true, decide_eq_true_eq] at hj ⊢
    refine ⟨hj.1, ?_⟩
    rw [placedS_bt s i 119 j hj.1 (by decide) (by decide)]
    split
    · rfl
    · exact hj.2
  · intro j hj
    rw [msk_tb] at hj ⊢
    simp only [Bool.and_eq_true, decide_eq_true_eq] at hj ⊢
    refine ⟨hj.1, ?_⟩
    have := hj.2
    rw [placedS_bt s i 119 j hj.1 (by decide) (by decide)] at this
    split at this
    · cases this
    · exact this
theorem winS_tempo {l : List Int} {s : ByteArray} (h : winS l s false = true) : winS l s true = true := wins_tempo h

/-- The free spots below i. -/
def freeC (s : ByteArray) : Nat → Nat
  | 0 => 0
  | i + 1 => if bt s i = 46 then freeC s i + 1 else freeC s i
theorem freeC_le (s : ByteArray) : ∀ i, freeC s i ≤ i
  | 0 => Nat.le_refl _
  | i + 1 => by
    have := freeC_le s i
    rw [freeC]; split <;> omega
end Go.Proofs.YtbjpjjokamaliaaDoor.A

/- Positions that are written: what a spot more does to the sets and to the number of free spots. -/
namespace Go.Proofs.YtbjpjjokamaliaaDoor.A
open Go.RowKit Go.Proofs.YtbjpjjokamaliaaDoorW.PrintWords Go.Proofs.YtbjpjjokamaliaaDoorW.PrintMore

theorem msk_apart (s : ByteArray) (n k : Nat) (h : (msk 119 s n).testBit k = true) : (msk 100 s n).testBit k = false := by
  rw [msk_tb] at h ⊢
  simp only [Bool.and_eq_true, decide_eq_true_eq] at h
  simp [h.2]
theorem fr_bt {m : Int} {l : List Int} {s : ByteArray} (h : okP m l s = 0) {i : Nat} (hi : i < s.size) : fr (msk 119 s s.size).testBit (msk 100 s s.size).testBit i = true ↔ bt s i = 46 := by
  have ho := (okP_iff.1 h).2.2 i hi
  rw [fr_iff, msk_tb, msk_tb]
  simp only [hi, decide_true, Bool.true_and, decide_eq_false_iff_not]
  constructor
  · rintro ⟨h1, h2⟩
    simp [okC, h1, h2] at ho
    exact ho
  · intro e
    rw [e]; exact ⟨by decide, by decide⟩
theorem msk_put {s : ByteArray} {i : Nat} {c : Int} (hi : i < s.size) (h0 : 0 ≤ c) (h1 : c < 256) : msk c (placedS s i c) s.size = msk c s s.size ||| 2 ^ i := by
  refine Nat.eq_of_testBit_eq fun k => ?_
  rw [Nat.testBit_or, tb_two, msk_tb, msk_tb]
  by_cases hk : k < s.size
  · rw [placedS_bt s i c k hk h0 h1]
    by_cases e : k = i
    · subst e; simp [hk]
    · have e' : ¬ (k : Int) = i := by omega
      rw [if_neg e']
      simp [hk, e]
  · have e : k ≠ i := by omega
    simp [hk, e]
theorem msk_keep {s : ByteArray} {i : Nat} {c c' : Int} (hi : i < s.size) (h46 : bt s i = 46) (h0 : 0 ≤ c) (h1 : c < 256) (hc : c' ≠ 46) (hcc : c ≠ c') : msk c' (placedS s i c) s.size = msk c' s s.size := by
  refine Nat.eq_of_testBit_eq fun k => ?_
  rw [msk_tb, msk_tb]
  by_cases hk : k < s.size
  · rw [placedS_bt s i c k hk h0 h1]
    by_cases e : k = i
    · subst e
      rw [if_pos rfl, h46]
      simp [hcc, Ne.symm hc]
    · have e' : ¬ (k : Int) = i := by omega
      rw [if_neg e']
  · simp [hk]
theorem freeC_placed {s : ByteArray} {i : Nat} {c : Int} (hi : i < s.size) (h46 : bt s i = 46) (h0 : 0 ≤ c) (h1 : c < 256) (hc : c ≠ 46) : ∀ k, k ≤ s.size → freeC (placedS s i c) k + (if i < k then 1 else 0) = freeC s k
  | 0, _ => by simp [freeC]
  | k + 1, hk => by
    have ih := freeC_placed hi h46 h0 h1 hc k (by omega)
    rw [freeC, freeC, placedS_bt s i c k (by omega) h0 h1]
    by_cases e : k = i
    · subst e
      rw [if_pos rfl, if_neg hc, if_pos h46, if_pos (by omega)]
      rw [if_neg (by omega)] at ih
      omega
    · have e' : ¬ (k : Int) = i := by omega
      rw [if_neg e']
      have e2 : (if i < k + 1 then 1 else 0) = if i < k then 1 else 0 := by
        by_cases q : i < k
        · rw [if_pos q, if_pos (by omega)]
        · rw [if_neg q, if_neg (by omega)]
      rw [e2]
      by_cases e46 : bt s k = 46
      · rw [if_pos e46, if_pos e46]; omega
      · rw [if_neg e46, if_neg e46]; exact ih
theorem freeC_pos {s : ByteArray} : ∀ k, 0 < freeC s k → ∃ i, i < k ∧ bt s i = 46
  | 0, h => by simp [freeC] at h
  | k + 1, h => by
    rw [freeC] at h
    split at h
    · rename_i e; exact ⟨k, by omega, e⟩
    · obtain ⟨i, hi, e⟩ := freeC_pos k h
      exact ⟨i, by omega, e⟩
theorem freeC_mono {s : ByteArray} {i : Nat} : ∀ j, freeC s i ≤ freeC s (i + j)
  | 0 => Nat.le_refl _
  | j + 1 => by
    have := freeC_mono (s := s) (i := i) j
    rw [← Nat.add_assoc, freeC]
    split <;> omega
end Go.Proofs.YtbjpjjokamaliaaDoor.A

/- What few, Field and Placed compute (plain). -/
namespace Go.Proofs.YtbjpjjokamaliaaDoor.B
open Go.Proofs.YtbjpjjokamaliaaDoor.A
open Go.RowKit Go.Proofs.YtbjpjjokamaliaaDoorW.PrintWords Go.Proofs.YtbjpjjokamaliaaDoorW.PrintLast

theorem few_eq (l : List Int) (s t : ByteArray) : drovewaylaw04_few.f l s t = some (decide ((l.length : Int) ≤ 40 ∧ (s.size : Int) ≤ 40 ∧ (t.size : Int) ≤ 40)) := by
  unfold drovewaylaw04_few.f
  by_cases h1 : (l.length : Int) ≤ 40
  · by_cases h2 : (s.size : Int) ≤ 40
    · rw [if_pos h1, if_pos h2]; simp [h1, h2]
    · rw [if_pos h1, if_neg h2]; simp [h2]
  · rw [if_neg h1]; simp [h1]
theorem shl_two {m : Nat} (h1 : 1 ≤ m) (h9 : m ≤ 9) : shl .i64 1 (m : Int) = 2 ^ m := by
  have : ∀ m : Nat, m < 10 → shl .i64 1 (m : Int) = (2 : Int) ^ m := by decide +kernel
  exact this m (by omega)
def bad (m : Nat) (x : Int) : Bool := decide (x < 1) || decide (2 ^ m ≤ x)
theorem Field_l0 {m : Nat} (h1 : 1 ≤ m) (h9 : m ≤ 9) (l : List Int) (h12 : l.length ≤ 12) : ∀ n i, l.length - i = n → i ≤ l.length →
    Ev (fun k => drovewayref04_Field.l0 k m l (i : Int)) (if ((l.drop i).any (bad m)) = true then 2 else 0) := by
  intro n
  induction n with
  | zero =>
    intro i hn hi
    have e : l.drop i = [] := List.drop_eq_nil_of_le (by omega)
    rw [e]
    refine Ev.step (f := fun _ => some 0) (fun k => ?_) (Ev.now _)
    rw [drovewayref04_Field.l0, if_neg (by omega)]
  | succ n ih =>
    intro i hn hi
    have hlt : i < l.length := by omega
    have ed : l.drop i = l[i] :: l.drop (i + 1) := List.drop_eq_getElem_cons hlt
    have er : rd l (i : Int) = l[i] := by simp [rd, List.getD_eq_getElem?_getD, hlt]
    have ew : wrap64 ((i : Int) + 1) = ((i + 1 : Nat) : Int) := by rw [wrap64_id] <;> omega
    rw [ed]
    have ih' := ih (i + 1) (by omega) (by omega)
    clear ed ih
    generalize l.drop (i + 1) = t at *
    have hun : ∀ k, drovewayref04_Field.l0 (k + 1) m l (i : Int) = if l[i] < 1 then some 2 else if l[i] ≥ 2 ^ m then some 2 else drovewayref04_Field.l0 k m l ((i + 1 : Nat) : Int) := by
      intro k
      rw [drovewayref04_Field.l0, if_pos (by omega), if_pos (by omega), er, shl_two h1 h9, ew, if_pos (show (0 : Int) ≤ m by omega)]
    by_cases b1 : l[i] < 1
    · refine Ev.step (f := fun _ => some 2) (fun k => by rw [hun, if_pos b1]) ?_
      have : ((l[i] :: t).any (bad m)) = true := by simp [List.any_cons, bad, b1]
      rw [if_pos this]
      exact Ev.now _
    · by_cases b2 : l[i] ≥ 2 ^ m
      · refine Ev.step (f := fun _ => some 2) (fun k => by rw [hun, if_neg b1, if_pos b2]) ?_
        have : ((l[i] :: t).any (bad m)) = true := by
          have b2' : 2 ^ m ≤ l[i] := b2
          simp [List.any_cons, bad, b2']
        rw [if_pos this]
        exact Ev.now _
      · refine Ev.step (fun k => by rw [hun, if_neg b1, if_neg b2]) ?_
        have : ((l[i] :: t).any (bad m)) = (t.any (bad m)) := by
          have b2' : ¬ 2 ^ m ≤ l[i] := b2
          simp [List.any_cons, bad, b1, b2']
        rw [this]
        exact ih'
theorem Field_ev (m : Int) (l : List Int) : Ev (fun k => drovewayref04_Field.f k m l) (okF m l) := by
  by_cases h1 : m < 1 ∨ 9 < m
  · have : okF m l = 2 := by unfold okF; rw [if_pos h1]
    rw [this]
    refine Ev.congr (f := fun k => drovewayref04_Field.j0 k m l true) (fun k => ?_) (Ev.step (f := fun _ => some 2) (fun k => ?_) (Ev.now _))
    · unfold drovewayref04_Field.f
      by_cases h : m < 1
      · rw [if_pos h]
      · rw [if_neg h]
        have : m > 9 := by omega
        simp [this]
    · rw [drovewayref04_Field.j0, if_pos rfl]
  · have hc : Ev (fun k => drovewayref04_Field.j0 k m l false) (okF m l) := by
      by_cases h12 : 12 < l.length
      · have : okF m l = 3 := by unfold okF; rw [if_neg h1, if_pos h12]
        rw [this]
        refine Ev.step (f := fun _ => some 3) (fun k => ?_) (Ev.now _)
        rw [drovewayref04_Field.j0, if_neg (by decide), if_pos (by omega)]
      · obtain ⟨n, rfl⟩ : ∃ n : Nat, m = n := ⟨m.toNat, by omega⟩
        have hb := Field_l0 (m := n) (by omega) (by omega) l (by omega) _ 0 rfl (by omega)
        have : okF (n : Int) l = if ((l.drop 0).any (bad n)) = true then 2 else 0 := by unfold okF; rw [if_neg h1, if_neg h12]; rfl
        rw [this]
        refine Ev.step (fun k => ?_) hb
        rw [drovewayref04_Field.j0, if_neg (by decide), if_neg (by omega)]
        rfl
    refine Ev.congr (fun k => ?_) hc
    unfold drovewayref04_Field.f
    rw [if_neg (by omega)]
    have : ¬ m > 9 := by omega
    simp [this]
theorem Placed_l0 {m : Nat} (h9 : m ≤ 9) (s : ByteArray) (hs : s.size = m) : ∀ n i (x y : Int), m - i = n → i ≤ m →
    ∃ r, Ev (fun k => drovewayref04_Placed.l0 k m s x y (i : Int)) r ∧ ((r.2.2 = 0 ∧ ∀ j, i ≤ j → j < m → okC (bt s j) = true) ∨ (r.2.2 = 5 ∧ ∃ j, i ≤ j ∧ j < m ∧ okC (bt s j) ≠ true)) := by
  intro n
  induction n with
  | zero =>
    intro i x y hn hi
    refine ⟨_, Ev.step (f := fun _ => some (x, y, 0)) (fun k => ?_) (Ev.now _), ?_⟩
    · rw [drovewayref04_Placed.l0, if_neg (by omega)]
    · exact .inl ⟨rfl, fun j h1 h2 => by omega⟩
  | succ n ih =>
    intro i x y hn hi
    have ew : wrap64 ((i : Int) + 1) = ((i + 1 : Nat) : Int) := by rw [wrap64_id] <;> omega
    have hsucc : ∀ e : Int, okC (bt s i) = true → ((e = 0 ∧ ∀ j, i + 1 ≤ j → j < m → okC (bt s j) = true) ∨ (e = 5 ∧ ∃ j, i + 1 ≤ j ∧ j < m ∧ okC (bt s j) ≠ true)) →
        ((e = 0 ∧ ∀ j, i ≤ j → j < m → okC (bt s j) = true) ∨ (e = 5 ∧ ∃ j, i ≤ j ∧ j < m ∧ okC (bt s j) ≠ true)) := by
      intro e ho h
      rcases h with ⟨h0, h⟩ | ⟨h0, j, h1, h2, h3⟩
      · refine .inl ⟨h0, fun j h1 h2 => ?_⟩
        by_cases e : i = j
        · subst e; exact ho
        · exact h j (by omega) h2
      · exact .inr ⟨h0, j, by omega, h2, h3⟩
    by_cases e1 : bt s i = 119
    · obtain ⟨r, hr, hr2⟩ := ih (i + 1) (wrap64 (x + (shl .i64 1 (i : Int)))) y (by omega) (by omega)
      refine ⟨r, Ev.step (fun k => ?_) hr, ?_⟩
      · rw [drovewayref04_Placed.l0, if_pos (by omega), if_pos (by omega), if_pos (by omega), if_pos e1, ew]
      · exact hsucc _ (by rw [e1]; rfl) hr2
    · by_cases e2 : bt s i = 100
      · obtain ⟨r, hr, hr2⟩ := ih (i + 1) x (wrap64 (y + (shl .i64 1 (i : Int)))) (by omega) (by omega)
        refine ⟨r, Ev.step (fun k => ?_) hr, ?_⟩
        · rw [drovewayref04_Placed.l0, if_pos (by omega), if_pos (by omega), if_pos (by omega), if_neg e1, if_pos e2, ew]
        · exact hsucc _ (by rw [e2]; rfl) hr2
      · by_cases e3 : bt s i = 46
        · obtain ⟨r, hr, hr2⟩ := ih (i + 1) x y (by omega) (by omega)
          refine ⟨r, Ev.step (fun k => ?_) hr, ?_⟩
          · rw [drovewayref04_Placed.l0, if_pos (by omega), if_pos (by omega), if_pos (by omega), if_neg e1, if_neg e2, if_pos e3, ew]
          · exact hsucc _ (by rw [e3]; rfl) hr2
        · refine ⟨_, Ev.step (f := fun _ => some (0, 0, 5)) (fun k => ?_) (Ev.now _), ?_⟩
          · rw [drovewayref04_Placed.l0, if_pos (by omega), if_pos (by omega), if_pos (by omega), if_neg e1, if_neg e2, if_neg e3]
          · exact .inr ⟨rfl, i, Nat.le_refl _, by omega, by simp [okC, e1, e2, e3]⟩
theorem Placed_ev (m : Int) (l : List Int) (s : ByteArray) : ∃ r, Ev (fun k => drovewayref04_Placed.f k m l s) r ∧ r.2.2 = okP m l s := by
  by_cases h0 : okF m l = 0
  · by_cases hs : (s.size : Int) = m
    · obtain ⟨h1, h9⟩ := okF_m h0
      obtain ⟨r, hr, hr2⟩ := Placed_l0 (m := s.size) (by omega) s rfl _ 0 0 0 rfl (by omega)
      refine ⟨r, Ev.bind (Field_ev m l) ?_, ?_⟩
      · rw [h0]
        refine Ev.congr (fun k => ?_) hr
        show (if (0 : Int) = 0 then _ else _) = _
        rw [if_pos rfl, if_pos hs, hs]
        rfl
      · unfold okP
        rw [if_neg (by simpa using h0), if_neg (by simpa using hs)]
        rcases hr2 with ⟨h, ha⟩ | ⟨h, j, _, hj, hb⟩
        · rw [h, if_pos (List.all_eq_true.2 fun j hj => ha j (Nat.zero_le _) (List.mem_range.1 hj))]
        · rw [h, if_neg]
          intro hall
          exact hb (List.all_eq_true.1 hall j (List.mem_range.2 hj))
    · refine ⟨(0, 0, 5), Ev.bind (Field_ev m l) ?_, ?_⟩
      · rw [h0]
        refine Ev.congr (f := fun _ => some (0, 0, 5)) (fun k => ?_) (Ev.now _)
        show (if (0 : Int) = 0 then _ else _) = _
        rw [if_pos rfl, if_neg hs]
      · unfold okP
        rw [if_neg (by simpa using h0), if_pos hs]
  · refine ⟨(0, 0, okF m l), Ev.bind (Field_ev m l) ?_, ?_⟩
    · refine Ev.congr (f := fun _ => some (0, 0, okF m l)) (fun k => ?_) (Ev.now _)
      show (if okF m l = 0 then _ else _) = _
      rw [if_neg h0]
    · unfold okP
      rw [if_pos h0]
theorem wrap_put {a k : Nat} (ha : a < 2 ^ k) (hk : k ≤ 9) : wrap64 ((a : Int) + shl .i64 1 (k : Int)) = ((a ||| 2 ^ k : Nat) : Int) := by
  have e : a ||| 2 ^ k = a + 2 ^ k := by
    have := Nat.two_pow_add_eq_or_of_lt ha 1
    rw [Nat.mul_one] at this
    rw [Nat.or_comm, ← this, Nat.add_comm]
  have h0 : ∀ m : Nat, m < 10 → shl .i64 1 (m : Int) = (2 : Int) ^ m := by decide +kernel
  have h9 : (2 : Nat) ^ k ≤ 512 := Nat.pow_le_pow_right (n := 2) (show 0 < 2 by decide) hk
  rw [h0 k (by omega), e, Int.natCast_add, Int.natCast_pow, wrap64_id]
  · rfl
  · have := two_pow_pos' k; omega
  · have := two_pow_le (show k ≤ 61 by omega); omega
theorem Placed_x0 {m : Nat} (h9 : m ≤ 9) (s : ByteArray) (hs : s.size = m) (hok : ∀ i, i < m → okC (bt s i) = true) : ∀ n i, m - i = n → i ≤ m →
    Ev (fun k => drovewayref04_Placed.l0 k m s (msk 119 s i) (msk 100 s i) (i : Int)) ((msk 119 s m : Int), (msk 100 s m : Int), 0) := by
  intro n
  induction n with
  | zero =>
    intro i hn hi
    have e : i = m := by omega
    subst e
    refine Ev.step (f := fun _ => some _) (fun k => ?_) (Ev.now _)
    rw [drovewayref04_Placed.l0, if_neg (by omega)]
  | succ n ih =>
    intro i hn hi
    have ew : wrap64 ((i : Int) + 1) = ((i + 1 : Nat) : Int) := by rw [wrap64_id] <;> omega
    have ho := hok i (by omega)
    have ih' := ih (i + 1) (by omega) (by omega)
    rw [msk, msk] at ih'
    by_cases e1 : bt s i = 119
    · rw [if_pos e1, if_neg (by rw [e1]; decide)] at ih'
      refine Ev.step (fun k => ?_) ih'
      rw [drovewayref04_Placed.l0, if_pos (by omega), if_pos (by omega), if_pos (by omega), if_pos e1, ew, wrap_put (msk_lt 119 s i) (by omega)]
    · by_cases e2 : bt s i = 100
      · rw [if_neg e1, if_pos e2] at ih'
        refine Ev.step (fun k => ?_) ih'
        rw [drovewayref04_Placed.l0, if_pos (by omega), if_pos (by omega), if_pos (by omega), if_neg e1, if_pos e2, ew, wrap_put (msk_lt 100 s i) (by omega)]
      · have e3 : bt s i = 46 := by
          simp [okC, e1, e2] at ho
          exact ho
        rw [if_neg e1, if_neg e2] at ih'
        refine Ev.step (fun k => ?_) ih'
        rw [drovewayref04_Placed.l0, if_pos (by omega), if_pos (by omega), if_pos (by omega), if_neg e1, if_neg e2, if_pos e3, ew]
theorem Placed_good (l : List Int) (s : ByteArray) (hP : okP (s.size : Int) l s = 0) : Ev (fun k => drovewayref04_Placed.f k s.size l s) ((msk 119 s s.size : Int), (msk 100 s s.size : Int), 0) := by
  obtain ⟨hF, _, hok⟩ := okP_iff.1 hP
  obtain ⟨h1, h9⟩ := okF_m hF
  have h := Placed_x0 (m := s.size) (by omega) s rfl hok _ 0 rfl (by omega)
  refine Ev.bind (Field_ev s.size l) ?_
  rw [hF]
  refine Ev.congr (fun k => ?_) h
  rw [if_pos rfl, if_pos rfl]
  rfl
end Go.Proofs.YtbjpjjokamaliaaDoor.B

/- The specification's Winner, as it is called. -/
namespace Go.Proofs.YtbjpjjokamaliaaDoor.B
open Go.Proofs.YtbjpjjokamaliaaDoor.A
open Go.RowKit Go.Proofs.YtbjpjjokamaliaaDoorW.PrintWords Go.Proofs.YtbjpjjokamaliaaDoorW.PrintLast Go.Proofs.YtbjpjjokamaliaaDoorW.PrintMore

theorem turn_eq (nx : ByteArray) : drovewayref04_turn.f nx = some (match nxW nx with | some b => (nxZ b, 0) | none => (0, 5)) := by
  unfold drovewayref04_turn.f nxW
  have e1 : sW.toList = ([119] : List UInt8) := by decide +kernel
  have e2 : sD.toList = ([100] : List UInt8) := by decide +kernel
  rw [e1, e2]
  by_cases h1 : nx.toList = ([119] : List UInt8)
  · rw [if_pos h1, if_pos (beq_iff_eq.2 h1)]; rfl
  · rw [if_neg h1, if_neg (fun h => h1 (beq_iff_eq.1 h))]
    by_cases h2 : nx.toList = ([100] : List UInt8)
    · rw [if_pos h2, if_pos (beq_iff_eq.2 h2)]; rfl
    · rw [if_neg h2, if_neg (fun h => h2 (beq_iff_eq.1 h))]
theorem okA_eq {m : Int} {l : List Int} {s nx : ByteArray} (h : okP m l s = 0) : okA m l s nx = match nxW nx with | some _ => 0 | none => 5 := by
  unfold okA nxW
  rw [if_neg (by rw [h]; simp)]
  by_cases h1 : (nx.toList == sW.toList) = true
  · rw [if_pos h1, if_pos h1]
  · rw [if_neg h1, if_neg h1]
    by_cases h2 : (nx.toList == sD.toList) = true
    · rw [if_pos h2, if_pos h2]
    · rw [if_neg h2, if_neg h2]
theorem okA_bad {m : Int} {l : List Int} {s nx : ByteArray} (h : okP m l s ≠ 0) : okA m l s nx = okP m l s := by
  unfold okA
  rw [if_pos h]

theorem game_off {l : List Int} {m : Nat} {A : Option Addr} {c : Nat} {w w2 w3 : World} {g kb N C : Nat} (hb2 : Below w.heap.size w w2) (hb3 : Below w.heap.size w w3) (hG : GameIs l m A c g kb N C w2.heap.size w3) (hr : Kd.C (Kd.int .i64) w A l.length l) : (∀ W, Keep kb w3 W → Kd.C (Kd.int .i64) W A l.length l) ∧ w.heap.size ≤ kb := by
  obtain ⟨ks, h1, _⟩ := hG.row
  have hb := (R_blk h1).1
  have hle : w.heap.size ≤ kb := Nat.le_trans hb2.size hb
  exact ⟨fun W hk => Kd.C_below hr (hb3.trans (hk.below hle hb3.size)), hle⟩
theorem game_win (l : List Int) (m : Nat) (h9 : m ≤ 9) (hl : okL m l) {A : Option Addr} {c p d : Nat} {nx : Bool} {x : Int} (hx : nxZ nx = x) (hp : p < 2 ^ m) (hd : d < 2 ^ m) {w w2 w3 : World} {g kb C : Nat} (hb2 : Below w.heap.size w w2) (hb3 : Below w.heap.size w w3) (hr : Kd.C (Kd.int .i64) w A l.length l) (hG : GameIs l m A c g kb (2 * 2 ^ (2 * m)) C w2.heap.size w3) {r : Bool} (hres : winB l m p d nx = r) :
    Calls Tryd.prog 23 #[.pointer (some ⟨g, 0, none⟩), .int .i64 p, .int .i64 d, .int .i64 x] w3 fun e w' => e = .returned (.bool r) ∧ Below w.heap.size w w' := by
  obtain ⟨h1, h2⟩ := game_off hb2 hb3 hG hr
  subst hx hres
  exact (game_all l m h9 hl A c g kb (2 * 2 ^ (2 * m)) C w2.heap.size (m + 1) rfl p d nx w3 (by have := cnt_le m p.testBit d.testBit; omega) hp hd h1 hG).mono fun e w' ⟨e1, _, e3⟩ => ⟨e1, hb3.trans (e3.below h2 hb3.size)⟩

def drovewayref04_Winner.f (a0 : Int) (l1 : List Int) (a2 a3 : ByteArray) : Option (ByteArray × Int) := ambush_Winner.f a0 l1 a2 a3

set_option maxRecDepth 100000 in
set_option maxHeartbeats 800000 in
theorem rWinner_bad (m : Int) (A : Option Addr) (c : Nat) (l : List Int) (s nx : ByteArray) (w : World) (hr : Kd.C (Kd.int .i64) w A l.length l) (hc : l.length ≤ c) (h : okP m l s ≠ 0) :
    Calls Tryd.prog 8 #[.int .i64 m, .slice A l.length c, .string s, .string nx] w fun e w' => e = .returned (.tuple #[.string ⟨#[]⟩, .int .i64 (okA m l s nx)]) ∧ Below w.heap.size w w' := by
  rw [okA_bad h]
  obtain ⟨⟨r1, r2, r3⟩, hr1, hr2⟩ := Placed_ev m l s
  obtain ⟨k, hk⟩ := hr1.rounds
  simp only at hr2
  rw [← hr2] at h ⊢
  have HR := Aside0.mk hr
  have HC := Aside0.mk hc
  have HK := Aside0.mk hk
  have hg : (r3 != 0) = true := by rw [bne_iff_ne]; exact h
  clear hr hc hk h hr1 hr2
  go_enter Tryd.func8, Tryd.ntmps8
  go_wp2_with (go_at_call 12; refine (drovewayref04_Placed.calls k m A c l s r1 r2 r3 _ HR.out HC.out HK.out).mono ?_; rintro e w1 ⟨rfl, hb1⟩; have HB1 := Aside0.mk hb1.below; clear hb1)
  go_ret2
  exact ⟨rfl, HB1.out⟩

set_option maxRecDepth 100000 in
set_option maxHeartbeats 800000 in
theorem rWinner_none (m : Int) (A : Option Addr) (c : Nat) (l : List Int) (s nx : ByteArray) (w : World) (hr : Kd.C (Kd.int .i64) w A l.length l) (hc : l.length ≤ c) (h : okP m l s = 0) (hn : nxW nx = none) :
    Calls Tryd.prog 8 #[.int .i64 m, .slice A l.length c, .string s, .string nx] w fun e w' => e = .returned (.tuple #[.string ⟨#[]⟩, .int .i64 5]) ∧ Below w.heap.size w w' := by
  obtain ⟨⟨r1, r2, r3⟩, hr1, hr2⟩ := Placed_ev m l s
  obtain ⟨k, hk⟩ := hr1.rounds
  simp only at hr2
  rw [h] at hr2
  subst hr2
  have ht : drovewayref04_turn.f nx = some (0, 5) := by rw [turn_eq, hn]
  have HR := Aside0.mk hr
  have HC := Aside0.mk hc
  have HK := Aside0.mk hk
  have HT := Aside0.mk ht
  clear hr hc hk h hr1 hn ht
  go_enter Tryd.func8, Tryd.ntmps8
  go_wp2_with (first
    | (go_at_call 12; refine (drovewayref04_Placed.calls k m A c l s r1 r2 0 _ HR.out HC.out HK.out).mono ?_; rintro e w1 ⟨rfl, hb1⟩; have HB1 := Aside0.mk hb1.below; clear hb1)
    | (go_at_call 21; refine (drovewayref04_turn.calls nx 0 5 _ HT.out).mono ?_; rintro e w2 ⟨rfl, hb2⟩; have HB2 := Aside0.mk (below_then HB1.out HB1.out.size hb2.below); clear hb2))
  go_ret2
  exact ⟨rfl, HB2.out⟩

set_option maxRecDepth 100000 in
set_option maxHeartbeats 800000 in
theorem rWinner_good (m : Nat) (A : Option Addr) (c : Nat) (l : List Int) (s nx : ByteArray) (b : Bool) (w : World) (hr : Kd.C (Kd.int .i64) w A l.length l) (hc : l.length ≤ c) (h : okP m l s = 0) (hn : nxW nx = some b) :
    Calls Tryd.prog 8 #[.int .i64 m, .slice A l.length c, .string s, .string nx] w fun e w' => e = .returned (.tuple #[.string (letS (winS l s b)), .int .i64 0]) ∧ Below w.heap.size w w' := by
  obtain ⟨hF, hs⟩ := okP_parts h
  have h1 := okF_m hF
  have hs' : s.size = m := by omega
  subst hs'
  obtain ⟨k, hk⟩ := (Placed_good l s h).rounds
  have ht : drovewayref04_turn.f nx = some (nxZ b, 0) := by rw [turn_eq, hn]
  have HR := Aside0.mk hr
  have HC := Aside0.mk hc
  have HK := Aside0.mk hk
  have HT := Aside0.mk ht
  have HF := Aside0.mk hF
  have g1 : 1 ≤ s.size := by omega
  have g9 : s.size ≤ 9 := by omega
  obtain ⟨z, hz⟩ : ∃ z, winS l s b = z := ⟨_, rfl⟩
  have HZ := Aside0.mk hz
  rw [hz]
  obtain ⟨x, hx⟩ : ∃ x, nxZ b = x := ⟨_, rfl⟩
  have HX := Aside0.mk hx
  rw [hx] at HT
  clear hr hc hk h hn ht hF h1 hs hz hx
  go_enter Tryd.func8, Tryd.ntmps8
  cases z with
  | true =>
    go_wp2_with (first
      | (go_at_call 12; refine (drovewayref04_Placed.calls k s.size A c l s _ _ 0 _ HR.out HC.out HK.out).mono ?_; rintro e w1 ⟨rfl, hb1⟩; have HB1 := Aside0.mk hb1.below; clear hb1)
      | (go_at_call 21; refine (drovewayref04_turn.calls nx x 0 _ HT.out).mono ?_; rintro e w2 ⟨rfl, hb2⟩; have HB2 := Aside0.mk (below_then HB1.out HB1.out.size hb2.below); clear hb2)
      | (go_at_call 22; refine (newGame_calls l s.size g1 g9 A c _).mono ?_; rintro e w3 ⟨⟨g, kb, C, rfl, hG3⟩, hb3⟩; have HG3 := Aside0.mk hG3; have HB3 := Aside0.mk (below_then HB2.out HB2.out.size hb3); have HZ2 := Aside0.mk hb3.size; clear hb3 hG3)
      | (go_at_call 23; refine (game_win l s.size g9 (okF_L HF.out) HX.out (msk_lt 119 s s.size) (msk_lt 100 s s.size) HB2.out HB3.out HR.out HG3.out (r := true) HZ.out).mono ?_; rintro e w4 ⟨rfl, hb4⟩; have HB4 := Aside0.mk hb4; clear hb4))
    go_ret2
    exact ⟨rfl, HB4.out⟩
  | false =>
    go_wp2_with (first
      | (go_at_call 12; refine (drovewayref04_Placed.calls k s.size A c l s _ _ 0 _ HR.out HC.out HK.out).mono ?_; rintro e w1 ⟨rfl, hb1⟩; have HB1 := Aside0.mk hb1.below; clear hb1)
      | (go_at_call 21; refine (drovewayref04_turn.calls nx x 0 _ HT.out).mono ?_; rintro e w2 ⟨rfl, hb2⟩; have HB2 := Aside0.mk (below_then HB1.out HB1.out.size hb2.below); clear hb2)
      | (go_at_call 22; refine (newGame_calls l s.size g1 g9 A c _).mono ?_; rintro e w3 ⟨⟨g, kb, C, rfl, hG3⟩, hb3⟩; have HG3 := Aside0.mk hG3; have HB3 := Aside0.mk (below_then HB2.out HB2.out.size hb3); have HZ2 := Aside0.mk hb3.size; clear hb3 hG3)
      | (go_at_call 23; refine (game_win l s.size g9 (okF_L HF.out) HX.out (msk_lt 119 s s.size) (msk_lt 100 s s.size) HB2.out HB3.out HR.out HG3.out (r := false) HZ.out).mono ?_; rintro e w4 ⟨rfl, hb4⟩; have HB4 := Aside0.mk hb4; clear hb4))
    go_ret2
    exact ⟨rfl, HB4.out⟩

theorem drovewayref04_Winner.calls (a0 : Int) (A1 : Option Addr) (c1 : Nat) (l1 : List Int) (a2 : ByteArray) (a3 : ByteArray) (r1 : ByteArray) (r2 : Int) (w : World) (hr1 : Kd.C (Kd.int .i64) w A1 l1.length l1) (hc1 : l1.length ≤ c1) (h : drovewayref04_Winner.f a0 l1 a2 a3 = some (r1, r2)) :
    Calls Tryd.prog 8 #[.int .i64 a0, .slice A1 l1.length c1, .string a2, .string a3] w fun e w' => e = .returned (.tuple #[.string r1, .int .i64 r2]) ∧ Below w.heap.size w w' := by
  unfold drovewayref04_Winner.f ambush_Winner.f at h
  by_cases h0 : okP a0 l1 a2 = 0
  · have hF := (okP_parts h0).1
    have h1 := okF_m hF
    obtain ⟨m, rfl⟩ : ∃ m : Nat, a0 = m := ⟨a0.toNat, by omega⟩
    rw [okA_eq h0] at h
    cases hn : nxW a3 with
    | none =>
      rw [hn] at h
      simp at h
      obtain ⟨rfl, rfl⟩ := h
      exact rWinner_none _ A1 c1 l1 a2 a3 w hr1 hc1 h0 hn
    | some b =>
      rw [hn] at h
      simp at h
      obtain ⟨rfl, rfl⟩ := h
      exact rWinner_good m A1 c1 l1 a2 a3 b w hr1 hc1 h0 hn
  · have hA : okA a0 l1 a2 a3 ≠ 0 := by rw [okA_bad h0]; exact h0
    rw [if_neg hA] at h
    cases h
    exact rWinner_bad a0 A1 c1 l1 a2 a3 w hr1 hc1 h0
end Go.Proofs.YtbjpjjokamaliaaDoor.B

/- The specification's Move, as it is called. -/
namespace Go.Proofs.YtbjpjjokamaliaaDoor.B
open Go.Proofs.YtbjpjjokamaliaaDoor.A
open Go.RowKit Go.Proofs.YtbjpjjokamaliaaDoorW.PrintWords Go.Proofs.YtbjpjjokamaliaaDoorW.PrintLast Go.Proofs.YtbjpjjokamaliaaDoorW.PrintMore

/-- Does the one who is next still win after taking spot i? -/
def goodM (l : List Int) (m p d : Nat) (nx : Bool) (i : Nat) : Bool := fr p.testBit d.testBit i && (if nx then winB l m (p ||| 2 ^ i) d false else !(winB l m p (d ||| 2 ^ i) true))
/-- The first winning spot, or the first free one. -/
def moveV (l : List Int) (m p d : Nat) (nx : Bool) : Int :=
  match (List.range m).find? (goodM l m p d nx) with
  | some i => i
  | none => match (List.range m).find? (fr p.testBit d.testBit) with
    | some i => i
    | none => -1
def moveF (a0 : Int) (l1 : List Int) (a2 a3 : ByteArray) : Int × Int :=
  if okA a0 l1 a2 a3 = 0 then
    if hasL l1 a2.size (msk 119 a2 a2.size).testBit = true ∨ msk 119 a2 a2.size ||| msk 100 a2 a2.size = 2 ^ a2.size - 1 then (0, 9)
    else (moveV l1 a2.size (msk 119 a2 a2.size) (msk 100 a2 a2.size) ((nxW a3).getD false), 0)
  else (0, okA a0 l1 a2 a3)
theorem find_hit {f : Nat → Bool} {n k : Nat} (hk : k < n) (hf : f k = true) (hb : ∀ j, j < k → f j = false) : (List.range n).find? f = some k := by
  rw [List.find?_range_eq_some]
  exact ⟨hf, List.mem_range.2 hk, fun j hj => by rw [hb j hj]; rfl⟩
theorem find_miss {f : Nat → Bool} {n : Nat} (hb : ∀ j, j < n → f j = false) : (List.range n).find? f = none := by
  rw [List.find?_eq_none]
  intro j hj
  rw [hb j (List.mem_range.1 hj)]
  simp
/-- The first free spot among the first k, or -1. -/
def firstF (p d : Nat) : Nat → Int
  | 0 => -1
  | k + 1 => if firstF p d k < 0 ∧ fr p.testBit d.testBit k = true then k else firstF p d k
theorem firstF_spec (p d : Nat) : ∀ k, (firstF p d k = -1 ∧ ∀ j, j < k → fr p.testBit d.testBit j = false) ∨ ∃ i : Nat, i < k ∧ firstF p d k = i ∧ fr p.testBit d.testBit i = true ∧ ∀ j, j < i → fr p.testBit d.testBit j = false
  | 0 => .inl ⟨rfl, fun j hj => absurd hj (Nat.not_lt_zero _)⟩
  | k + 1 => by
    rw [firstF]
    rcases firstF_spec p d k with ⟨h1, h2⟩ | ⟨i, h1, h2, h3, h4⟩
    · rw [h1]
      by_cases hf : fr p.testBit d.testBit k = true
      · rw [if_pos ⟨by decide, hf⟩]
        exact .inr ⟨k, by omega, rfl, hf, h2⟩
      · rw [if_neg (fun h => hf h.2)]
        refine .inl ⟨rfl, fun j hj => ?_⟩
        by_cases e : j = k
        · subst e; simpa using hf
        · exact h2 j (by omega)
    · rw [if_neg (fun h => by rw [h2] at h; omega)]
      exact .inr ⟨i, by omega, h2, h3, h4⟩
theorem firstF_find (p d m : Nat) : firstF p d m = (match (List.range m).find? (fr p.testBit d.testBit) with | some i => (i : Int) | none => -1) := by
  rcases firstF_spec p d m with ⟨h1, h2⟩ | ⟨i, h1, h2, h3, h4⟩
  · rw [find_miss h2, h1]
  · rw [find_hit h1 h3 h4, h2]
theorem moveV_hit {l : List Int} {m p d k : Nat} {nx : Bool} (hk : k < m) (hf : goodM l m p d nx k = true) (hb : ∀ j, j < k → goodM l m p d nx j = false) : moveV l m p d nx = k := by
  unfold moveV
  rw [find_hit hk hf hb]
theorem moveV_miss {l : List Int} {m p d : Nat} {nx : Bool} (hb : ∀ j, j < m → goodM l m p d nx j = false) : moveV l m p d nx = firstF p d m := by
  unfold moveV
  rw [find_miss hb, firstF_find]
theorem firstF_ge (p d k : Nat) : -1 ≤ firstF p d k := by
  rcases firstF_spec p d k with ⟨h1, _⟩ | ⟨i, _, h2, _⟩ <;> omega

set_option maxRecDepth 100000 in
set_option maxHeartbeats 800000 in
theorem rMove_bad (m : Int) (A : Option Addr) (c : Nat) (l : List Int) (s nx : ByteArray) (w : World) (hr : Kd.C (Kd.int .i64) w A l.length l) (hc : l.length ≤ c) (h : okP m l s ≠ 0) :
    Calls Tryd.prog 10 #[.int .i64 m, .slice A l.length c, .string s, .string nx] w fun e w' => e = .returned (.tuple #[.int .i64 0, .int .i64 (okA m l s nx)]) ∧ Below w.heap.size w w' := by
  rw [okA_bad h]
  obtain ⟨⟨r1, r2, r3⟩, hr1, hr2⟩ := Placed_ev m l s
  obtain ⟨k, hk⟩ := hr1.rounds
  simp only at hr2
  rw [← hr2] at h ⊢
  have HR := Aside0.mk hr
  have HC := Aside0.mk hc
  have HK := Aside0.mk hk
  have hg : (r3 != 0) = true := by rw [bne_iff_ne]; exact h
  clear hr hc hk h hr1 hr2
  go_enter Tryd.func10, Tryd.ntmps10
  go_wp2_with (go_at_call 12; refine (drovewayref04_Placed.calls k m A c l s r1 r2 r3 _ HR.out HC.out HK.out).mono ?_; rintro e w1 ⟨rfl, hb1⟩; have HB1 := Aside0.mk hb1.below; clear hb1)
  go_ret2
  exact ⟨rfl, HB1.out⟩

set_option maxRecDepth 100000 in
set_option maxHeartbeats 800000 in
theorem rMove_none (m : Int) (A : Option Addr) (c : Nat) (l : List Int) (s nx : ByteArray) (w : World) (hr : Kd.C (Kd.int .i64) w A l.length l) (hc : l.length ≤ c) (h : okP m l s = 0) (hn : nxW nx = none) :
    Calls Tryd.prog 10 #[.int .i64 m, .slice A l.length c, .string s, .string nx] w fun e w' => e = .returned (.tuple #[.int .i64 0, .int .i64 5]) ∧ Below w.heap.size w w' := by
  obtain ⟨⟨r1, r2, r3⟩, hr1, hr2⟩ := Placed_ev m l s
  obtain ⟨k, hk⟩ := hr1.rounds
  simp only at hr2
  rw [h] at hr2
  subst hr2
  have ht : drovewayref04_turn.f nx = some (0, 5) := by rw [turn_eq, hn]
  have HR := Aside0.mk hr
  have HC := Aside0.mk hc
  have HK := Aside0.mk hk
  have HT := Aside0.mk ht
  clear hr hc hk h hr1 hn ht
  go_enter Tryd.func10, Tryd.ntmps10
  go_wp2_with (first
    | (go_at_call 12; refine (drovewayref04_Placed.calls k m A c l s r1 r2 0 _ HR.out HC.out HK.out).mono ?_; rintro e w1 ⟨rfl, hb1⟩; have HB1 := Aside0.mk hb1.below; clear hb1)
    | (go_at_call 21; refine (drovewayref04_turn.calls nx 0 5 _ HT.out).mono ?_; rintro e w2 ⟨rfl, hb2⟩; have HB2 := Aside0.mk (below_then HB1.out HB1.out.size hb2.below); clear hb2))
  go_ret2
  exact ⟨rfl, HB2.out⟩

/-- The game, held while the spots are gone through. -/
structure MovR (l : List Int) (m : Nat) (A : Option Addr) (c : Nat) (w : World) (g kb N C base : Nat) (W : World) : Prop where
  below : Below w.heap.size w W
  game : GameIs l m A c g kb N C base W
  base : w.heap.size ≤ base
theorem MovR.call {l : List Int} {m : Nat} (h9 : m ≤ 9) (hl : okL m l) {A : Option Addr} {c : Nat} {w : World} {g kb N C base : Nat} {W : World} (hN : N = 2 * 2 ^ (2 * m)) (h : MovR l m A c w g kb N C base W) (hr : Kd.C (Kd.int .i64) w A l.length l) {p d : Nat} {nx : Bool} (hp : p < 2 ^ m) (hd : d < 2 ^ m) (P D X : Int) (hP : (p : Int) = P) (hD : (d : Int) = D) (hX : nxZ nx = X) (r : Bool) (hres : winB l m p d nx = r) :
    Calls Tryd.prog 23 #[.pointer (some ⟨g, 0, none⟩), .int .i64 P, .int .i64 D, .int .i64 X] W fun e w' => e = .returned (.bool r) ∧ MovR l m A c w g kb N C base w' := by
  subst hP hD hX hres
  have hle : w.heap.size ≤ kb := by
    obtain ⟨ks, h1, _⟩ := h.game.row
    have := (R_blk h1).1
    have := h.base
    omega
  exact (game_all l m h9 hl A c g kb N C base (m + 1) hN p d nx W (by have := cnt_le m p.testBit d.testBit; omega) hp hd (fun W' hk => Kd.C_below hr (h.below.trans (hk.below hle h.below.size))) h.game).mono fun e w' ⟨h1, h2, h3⟩ => ⟨h1, h.below.trans (h3.below hle h.below.size), h2, h.base⟩

set_option maxRecDepth 100000 in
set_option maxHeartbeats 800000 in
theorem rMove_has (A : Option Addr) (c : Nat) (l : List Int) (s nx : ByteArray) (b : Bool) (w : World) (hr : Kd.C (Kd.int .i64) w A l.length l) (hc : l.length ≤ c) (h : okP (s.size : Int) l s = 0) (hn : nxW nx = some b) (hst : hasL l s.size (msk 119 s s.size).testBit = true) :
    Calls Tryd.prog 10 #[.int .i64 s.size, .slice A l.length c, .string s, .string nx] w fun e w' => e = .returned (.tuple #[.int .i64 0, .int .i64 9]) ∧ Below w.heap.size w w' := by
  have hF := (okP_parts h).1
  have h1 := okF_m hF
  obtain ⟨k, hk⟩ := (Placed_good l s h).rounds
  have ht : drovewayref04_turn.f nx = some (nxZ b, 0) := by rw [turn_eq, hn]
  have HR := Aside0.mk hr
  have HC := Aside0.mk hc
  have HK := Aside0.mk hk
  have HT := Aside0.mk ht
  have HF := Aside0.mk hF
  have g9 : s.size ≤ 9 := by omega
  obtain ⟨P, hP⟩ : ∃ P, msk 119 s s.size = P := ⟨_, rfl⟩
  obtain ⟨D, hD⟩ : ∃ D, msk 100 s s.size = D := ⟨_, rfl⟩
  have HPL : Aside0 (P < 2 ^ s.size) := ⟨by rw [← hP]; exact msk_lt 119 s s.size⟩
  have HDL : Aside0 (D < 2 ^ s.size) := ⟨by rw [← hD]; exact msk_lt 100 s s.size⟩
  rw [hP] at HK hst
  rw [hD] at HK
  obtain ⟨x, hx⟩ : ∃ x, nxZ b = x := ⟨_, rfl⟩
  rw [hx] at HT
  have HST := Aside0.mk hst
  
  clear hr hc hk h hn ht hF h1 hP hD hx hst
  go_enter Tryd.func10, Tryd.ntmps10
  go_wp2_with (first
    | (go_at_call 12; refine (drovewayref04_Placed.calls k s.size A c l s _ _ 0 _ HR.out HC.out HK.out).mono ?_; rintro e w1 ⟨rfl, hb1⟩; have HB1 := Aside0.mk hb1.below; clear hb1)
    | (go_at_call 21; refine (drovewayref04_turn.calls nx x 0 _ HT.out).mono ?_; rintro e w2 ⟨rfl, hb2⟩; have HB2 := Aside0.mk (below_then HB1.out HB1.out.size hb2.below); clear hb2)
    | (go_at_call 29; refine (has_calls s.size P g9 HPL.out l (okF_L HF.out) A c _ (Kd.C_below HR.out HB2.out)).mono ?_; rw [HST.out]; rintro e w3 ⟨rfl, hb3⟩; have HB3 := Aside0.mk (below_then HB2.out HB2.out.size hb3); clear hb3))
  go_ret2
  exact ⟨rfl, HB3.out⟩

set_option maxRecDepth 100000 in
set_option maxHeartbeats 800000 in
theorem rMove_full (A : Option Addr) (c : Nat) (l : List Int) (s nx : ByteArray) (b : Bool) (w : World) (hr : Kd.C (Kd.int .i64) w A l.length l) (hc : l.length ≤ c) (h : okP (s.size : Int) l s = 0) (hn : nxW nx = some b) (hst : hasL l s.size (msk 119 s s.size).testBit = false ∧ msk 119 s s.size ||| msk 100 s s.size = 2 ^ s.size - 1) :
    Calls Tryd.prog 10 #[.int .i64 s.size, .slice A l.length c, .string s, .string nx] w fun e w' => e = .returned (.tuple #[.int .i64 0, .int .i64 9]) ∧ Below w.heap.size w w' := by
  have hF := (okP_parts h).1
  have h1 := okF_m hF
  obtain ⟨k, hk⟩ := (Placed_good l s h).rounds
  have ht : drovewayref04_turn.f nx = some (nxZ b, 0) := by rw [turn_eq, hn]
  have HR := Aside0.mk hr
  have HC := Aside0.mk hc
  have HK := Aside0.mk hk
  have HT := Aside0.mk ht
  have HF := Aside0.mk hF
  have g9 : s.size ≤ 9 := by omega
  obtain ⟨P, hP⟩ : ∃ P, msk 119 s s.size = P := ⟨_, rfl⟩
  obtain ⟨D, hD⟩ : ∃ D, msk 100 s s.size = D := ⟨_, rfl⟩
  have HPL : Aside0 (P < 2 ^ s.size) := ⟨by rw [← hP]; exact msk_lt 119 s s.size⟩
  have HDL : Aside0 (D < 2 ^ s.size) := ⟨by rw [← hD]; exact msk_lt 100 s s.size⟩
  rw [hP] at HK hst
  rw [hD] at HK hst
  obtain ⟨x, hx⟩ : ∃ x, nxZ b = x := ⟨_, rfl⟩
  rw [hx] at HT
  have HST := Aside0.mk hst
  have hask := full_ask g9 HPL.out HDL.out
  rw [decide_eq_true hst.2] at hask
  clear hr hc hk h hn ht hF h1 hP hD hx hst
  go_enter Tryd.func10, Tryd.ntmps10
  go_wp2_with (first
    | (go_at_call 12; refine (drovewayref04_Placed.calls k s.size A c l s _ _ 0 _ HR.out HC.out HK.out).mono ?_; rintro e w1 ⟨rfl, hb1⟩; have HB1 := Aside0.mk hb1.below; clear hb1)
    | (go_at_call 21; refine (drovewayref04_turn.calls nx x 0 _ HT.out).mono ?_; rintro e w2 ⟨rfl, hb2⟩; have HB2 := Aside0.mk (below_then HB1.out HB1.out.size hb2.below); clear hb2)
    | (go_at_call 29; refine (has_calls s.size P g9 HPL.out l (okF_L HF.out) A c _ (Kd.C_below HR.out HB2.out)).mono ?_; rw [HST.out.1]; rintro e w3 ⟨rfl, hb3⟩; have HB3 := Aside0.mk (below_then HB2.out HB2.out.size hb3); clear hb3))
  go_ret2
  exact ⟨rfl, HB3.out⟩

set_option maxRecDepth 100000 in
set_option maxHeartbeats 1600000 in
theorem rMove_go_true (A : Option Addr) (c : Nat) (l : List Int) (s nx : ByteArray) (w : World) (hr : Kd.C (Kd.int .i64) w A l.length l) (hc : l.length ≤ c) (h : okP (s.size : Int) l s = 0) (hn : nxW nx = some true) (hh : hasL l s.size (msk 119 s s.size).testBit = false) (hf : ¬ (msk 119 s s.size ||| msk 100 s s.size = 2 ^ s.size - 1)) :
    Calls Tryd.prog 10 #[.int .i64 s.size, .slice A l.length c, .string s, .string nx] w fun e w' => e = .returned (.tuple #[.int .i64 (moveV l s.size (msk 119 s s.size) (msk 100 s s.size) true), .int .i64 0]) ∧ Below w.heap.size w w' := by
  have hF := (okP_parts h).1
  have h1 := okF_m hF
  obtain ⟨k, hk⟩ := (Placed_good l s h).rounds
  have ht : drovewayref04_turn.f nx = some (nxZ true, 0) := by rw [turn_eq, hn]
  have HR := Aside0.mk hr
  have HC := Aside0.mk hc
  have HK := Aside0.mk hk
  have HT := Aside0.mk ht
  have HF := Aside0.mk hF
  have g1 : 1 ≤ s.size := by omega
  have g9 : s.size ≤ 9 := by omega
  obtain ⟨P, hP⟩ : ∃ P, msk 119 s s.size = P := ⟨_, rfl⟩
  obtain ⟨D, hD⟩ : ∃ D, msk 100 s s.size = D := ⟨_, rfl⟩
  have HPL : Aside0 (P < 2 ^ s.size) := ⟨by rw [← hP]; exact msk_lt 119 s s.size⟩
  have HDL : Aside0 (D < 2 ^ s.size) := ⟨by rw [← hD]; exact msk_lt 100 s s.size⟩
  rw [hP, hD] at HK hf ⊢
  rw [hP] at hh
  obtain ⟨x, hx⟩ : ∃ x, nxZ true = x := ⟨_, rfl⟩
  rw [hx] at HT
  have hx0 : (x == 0) = true := by rw [← hx]; rfl
  have hx1 : (x == 1) = false := by rw [← hx]; rfl
  have HH := Aside0.mk hh
  have hask := full_ask g9 HPL.out HDL.out
  rw [decide_eq_false hf] at hask
  obtain ⟨N, hN⟩ : ∃ N, 2 * 2 ^ (2 * s.size) = N := ⟨_, rfl⟩
  have HN := Aside0.mk hN.symm
  obtain ⟨z, hz⟩ : ∃ z, moveV l s.size P D true = z := ⟨_, rfl⟩
  have HZ := Aside0.mk hz
  rw [hz]
  clear hr hc hk h hn ht hF h1 hP hD hx hh hf hN hz
  go_enter Tryd.func10, Tryd.ntmps10
  go_wp2_with (first
    | (go_at_call 12; refine (drovewayref04_Placed.calls k s.size A c l s _ _ 0 _ HR.out HC.out HK.out).mono ?_; rintro e w1 ⟨rfl, hb1⟩; have HB1 := Aside0.mk hb1.below; clear hb1)
    | (go_at_call 21; refine (drovewayref04_turn.calls nx x 0 _ HT.out).mono ?_; rintro e w2 ⟨rfl, hb2⟩; have HB2 := Aside0.mk (below_then HB1.out HB1.out.size hb2.below); clear hb2)
    | (go_at_call 29; refine (has_calls s.size P g9 HPL.out l (okF_L HF.out) A c _ (Kd.C_below HR.out HB2.out)).mono ?_; rw [HH.out]; rintro e w3 ⟨rfl, hb3⟩; have HB3 := Aside0.mk (below_then HB2.out HB2.out.size hb3); clear hb3)
    | (go_at_call 22; refine (newGame_calls l s.size g1 g9 A c _).mono ?_; rintro e w4 ⟨⟨g, kb, C, rfl, hG4⟩, hb4⟩; have HI : Aside0 (MovR l s.size A c w g kb N C w3.heap.size w4) := ⟨⟨below_then HB3.out HB3.out.size hb4, by rw [HN.out]; exact hG4, HB3.out.size⟩⟩; clear hb4 hG4))
  clear hask
  go_loopg [15, 16] s.size (fun gg v15 v16 wr => ∃ i : Nat, i ≤ s.size ∧ s.size - i ≤ gg ∧ v16 = .int .i64 i ∧ v15 = .int .i64 (firstF P D i) ∧ Aside0 (MovR l s.size A c w g kb N C w3.heap.size wr) ∧ Aside0 (∀ j, j < i → goodM l s.size P D true j = false))
  case atStart => exact ⟨0, Nat.zero_le _, by omega, rfl, rfl, HI, ⟨fun i hi => absurd hi (Nat.not_lt_zero _)⟩⟩
  case round =>
    clear HI
    obtain ⟨i, hi, hgg, rfl, rfl, HI, HNo⟩ := hrel
    have hff : firstF P D (i + 1) = if firstF P D i < 0 ∧ fr P.testBit D.testBit i = true then (i : Int) else firstF P D i := rfl
    obtain ⟨q, hq⟩ : ∃ q, firstF P D i = q := ⟨_, rfl⟩
    have HQ := Aside0.mk hq
    rw [hq] at hff ⊢
    have HFF := Aside0.mk hff
    clear hq hff
    by_cases hlt : i < s.size
    · have hltz : (i : Int) < (s.size : Int) := by omega
      have hbit := bit_busy (i := i) g9 HPL.out HDL.out
      cases hfr : fr P.testBit D.testBit i with
      | false =>
        have HFR := Aside0.mk hfr
        rw [hfr] at hbit
        clear hfr
        go_wp2_with fail
        go_roundg (s.size - (i + 1))
        case measure => omega
        case rel =>
          refine ⟨i + 1, by omega, by omega, by go_num, by rw [HFF.out, if_neg (fun h => by rw [HFR.out] at h; cases h.2)], HI, ⟨fun j hj => ?_⟩⟩
          by_cases e : j = i
          · subst e; unfold goodM; rw [HFR.out]; rfl
          · exact HNo.out j (by omega)
      | true =>
        have HFR := Aside0.mk hfr
        rw [hfr] at hbit
        obtain ⟨hpb, hdb⟩ := fr_bits hfr
        have hput := put_ask g9 HPL.out hlt hpb
        clear hfr hpb hdb
        cases hm : winB l s.size (P ||| 2 ^ i) D false with
        | true =>
          have HM := Aside0.mk hm
          clear hm
          have HGD : Aside0 (goodM l s.size P D true i = true) := ⟨by unfold goodM; rw [HFR.out, if_pos rfl, HM.out]; rfl⟩
          by_cases hq0 : q < 0
          · go_wp2_with (go_at_call 23; refine (HI.out.call g9 (okF_L HF.out) HN.out HR.out (p := P ||| 2 ^ i) (d := D) (nx := false) (or_lt HPL.out (Nat.pow_lt_pow_right (by decide) hlt)) HDL.out _ _ 1 rfl rfl rfl true HM.out).mono ?_; rintro e w5 ⟨rfl, hI5⟩; have HI5 := Aside0.mk hI5; clear hI5)
            go_ret2
            exact ⟨by have e := moveV_hit hlt HGD.out HNo.out; rw [HZ.out] at e; subst e; rfl, HI5.out.below⟩
          · have hq1 : 0 ≤ q := by omega
            go_wp2_with (go_at_call 23; refine (HI.out.call g9 (okF_L HF.out) HN.out HR.out (p := P ||| 2 ^ i) (d := D) (nx := false) (or_lt HPL.out (Nat.pow_lt_pow_right (by decide) hlt)) HDL.out _ _ 1 rfl rfl rfl true HM.out).mono ?_; rintro e w5 ⟨rfl, hI5⟩; have HI5 := Aside0.mk hI5; clear hI5)
            go_ret2
            exact ⟨by have e := moveV_hit hlt HGD.out HNo.out; rw [HZ.out] at e; subst e; rfl, HI5.out.below⟩
        | false =>
          have HM := Aside0.mk hm
          clear hm
          have HGD : Aside0 (goodM l s.size P D true i = false) := ⟨by unfold goodM; rw [HFR.out, if_pos rfl, HM.out]; rfl⟩
          by_cases hq0 : q < 0
          · go_wp2_with (go_at_call 23; refine (HI.out.call g9 (okF_L HF.out) HN.out HR.out (p := P ||| 2 ^ i) (d := D) (nx := false) (or_lt HPL.out (Nat.pow_lt_pow_right (by decide) hlt)) HDL.out _ _ 1 rfl rfl rfl false HM.out).mono ?_; rintro e w5 ⟨rfl, hI5⟩; have HI5 := Aside0.mk hI5; clear hI5)
            go_roundg (s.size - (i + 1))
            case measure => omega
            case rel =>
              refine ⟨i + 1, by omega, by omega, by go_num, by rw [HFF.out, if_pos ⟨hq0, HFR.out⟩], HI5, ⟨fun j hj => ?_⟩⟩
              by_cases e : j = i
              · subst e; exact HGD.out
              · exact HNo.out j (by omega)
          · have hq1 : 0 ≤ q := by omega
            go_wp2_with (go_at_call 23; refine (HI.out.call g9 (okF_L HF.out) HN.out HR.out (p := P ||| 2 ^ i) (d := D) (nx := false) (or_lt HPL.out (Nat.pow_lt_pow_right (by decide) hlt)) HDL.out _ _ 1 rfl rfl rfl false HM.out).mono ?_; rintro e w5 ⟨rfl, hI5⟩; have HI5 := Aside0.mk hI5; clear hI5)
            go_roundg (s.size - (i + 1))
            case measure => omega
            case rel =>
              refine ⟨i + 1, by omega, by omega, by go_num, by rw [HFF.out, if_neg (fun h => by have := h.1; omega)], HI5, ⟨fun j hj => ?_⟩⟩
              by_cases e : j = i
              · subst e; exact HGD.out
              · exact HNo.out j (by omega)
    · have hltz : ¬ (i : Int) < (s.size : Int) := by omega
      have HK2 := Aside0.mk (show i = s.size by omega)
      clear hlt
      go_wp2_with fail
      go_ret2
      exact ⟨by rw [← HZ.out, moveV_miss (fun j hj => HNo.out j (by rw [HK2.out]; exact hj)), ← HK2.out, HQ.out]; rfl, HI.out.below⟩

set_option maxRecDepth 100000 in
set_option maxHeartbeats 1600000 in
theorem rMove_go_false (A : Option Addr) (c : Nat) (l : List Int) (s nx : ByteArray) (w : World) (hr : Kd.C (Kd.int .i64) w A l.length l) (hc : l.length ≤ c) (h : okP (s.size : Int) l s = 0) (hn : nxW nx = some false) (hh : hasL l s.size (msk 119 s s.size).testBit = false) (hf : ¬ (msk 119 s s.size ||| msk 100 s s.size = 2 ^ s.size - 1)) :
    Calls Tryd.prog 10 #[.int .i64 s.size, .slice A l.length c, .string s, .string nx] w fun e w' => e = .returned (.tuple #[.int .i64 (moveV l s.size (msk 119 s s.size) (msk 100 s s.size) false), .int .i64 0]) ∧ Below w.heap.size w w' := by
  have hF := (okP_parts h).1
  have h1 := okF_m hF
  obtain ⟨k, hk⟩ := (Placed_good l s h).rounds
  have ht : drovewayref04_turn.f nx = some (nxZ false, 0) := by rw [turn_eq, hn]
  have HR := Aside0.mk hr
  have HC := Aside0.mk hc
  have HK := Aside0.mk hk
  have HT := Aside0.mk ht
  have HF := Aside0.mk hF
  have g1 : 1 ≤ s.size := by omega
  have g9 : s.size ≤ 9 := by omega
  obtain ⟨P, hP⟩ : ∃ P, msk 119 s s.size = P := ⟨_, rfl⟩
  obtain ⟨D, hD⟩ : ∃ D, msk 100 s s.size = D := ⟨_, rfl⟩
  have HPL : Aside0 (P < 2 ^ s.size) := ⟨by rw [← hP]; exact msk_lt 119 s s.size⟩
  have HDL : Aside0 (D < 2 ^ s.size) := ⟨by rw [← hD]; exact msk_lt 100 s s.size⟩
  rw [hP, hD] at HK hf ⊢
  rw [hP] at hh
  obtain ⟨x, hx⟩ : ∃ x, nxZ false = x := ⟨_, rfl⟩
  rw [hx] at HT
  have hx0 : (x == 0) = false := by rw [← hx]; rfl
  have hx1 : (x == 1) = true := by rw [← hx]; rfl
  have HH := Aside0.mk hh
  have hask := full_ask g9 HPL.out HDL.out
  rw [decide_eq_false hf] at hask
  obtain ⟨N, hN⟩ : ∃ N, 2 * 2 ^ (2 * s.size) = N := ⟨_, rfl⟩
  have HN := Aside0.mk hN.symm
  obtain ⟨z, hz⟩ : ∃ z, moveV l s.size P D false = z := ⟨_, rfl⟩
  have HZ := Aside0.mk hz
  rw [hz]
  clear hr hc hk h hn ht hF h1 hP hD hx hh hf hN hz
  go_enter Tryd.func10, Tryd.ntmps10
  go_wp2_with (first
    | (go_at_call 12; refine (drovewayref04_Placed.calls k s.size A c l s _ _ 0 _ HR.out HC.out HK.out).mono ?_; rintro e w1 ⟨rfl, hb1⟩; have HB1 := Aside0.mk hb1.below; clear hb1)
    | (go_at_call 21; refine (drovewayref04_turn.calls nx x 0 _ HT.out).mono ?_; rintro e w2 ⟨rfl, hb2⟩; have HB2 := Aside0.mk (below_then HB1.out HB1.out.size hb2.below); clear hb2)
    | (go_at_call 29; refine (has_calls s.size P g9 HPL.out l (okF_L HF.out) A c _ (Kd.C_below HR.out HB2.out)).mono ?_; rw [HH.out]; rintro e w3 ⟨rfl, hb3⟩; have HB3 := Aside0.mk (below_then HB2.out HB2.out.size hb3); clear hb3)
    | (go_at_call 22; refine (newGame_calls l s.size g1 g9 A c _).mono ?_; rintro e w4 ⟨⟨g, kb, C, rfl, hG4⟩, hb4⟩; have HI : Aside0 (MovR l s.size A c w g kb N C w3.heap.size w4) := ⟨⟨below_then HB3.out HB3.out.size hb4, by rw [HN.out]; exact hG4, HB3.out.size⟩⟩; clear hb4 hG4))
  clear hask
  go_loopg [15, 16] s.size (fun gg v15 v16 wr => ∃ i : Nat, i ≤ s.size ∧ s.size - i ≤ gg ∧ v16 = .int .i64 i ∧ v15 = .int .i64 (firstF P D i) ∧ Aside0 (MovR l s.size A c w g kb N C w3.heap.size wr) ∧ Aside0 (∀ j, j < i → goodM l s.size P D false j = false))
  case atStart => exact ⟨0, Nat.zero_le _, by omega, rfl, rfl, HI, ⟨fun i hi => absurd hi (Nat.not_lt_zero _)⟩⟩
  case round =>
    clear HI
    obtain ⟨i, hi, hgg, rfl, rfl, HI, HNo⟩ := hrel
    have hff : firstF P D (i + 1) = if firstF P D i < 0 ∧ fr P.testBit D.testBit i = true then (i : Int) else firstF P D i := rfl
    obtain ⟨q, hq⟩ : ∃ q, firstF P D i = q := ⟨_, rfl⟩
    have HQ := Aside0.mk hq
    rw [hq] at hff ⊢
    have HFF := Aside0.mk hff
    clear hq hff
    by_cases hlt : i < s.size
    · have hltz : (i : Int) < (s.size : Int) := by omega
      have hbit := bit_busy (i := i) g9 HPL.out HDL.out
      cases hfr : fr P.testBit D.testBit i with
      | false =>
        have HFR := Aside0.mk hfr
        rw [hfr] at hbit
        clear hfr
        go_wp2_with fail
        go_roundg (s.size - (i + 1))
        case measure => omega
        case rel =>
          refine ⟨i + 1, by omega, by omega, by go_num, by rw [HFF.out, if_neg (fun h => by rw [HFR.out] at h; cases h.2)], HI, ⟨fun j hj => ?_⟩⟩
          by_cases e : j = i
          · subst e; unfold goodM; rw [HFR.out]; rfl
          · exact HNo.out j (by omega)
      | true =>
        have HFR := Aside0.mk hfr
        rw [hfr] at hbit
        obtain ⟨hpb, hdb⟩ := fr_bits hfr
        have hput := put_ask g9 HDL.out hlt hdb
        clear hfr hpb hdb
        cases hm : winB l s.size P (D ||| 2 ^ i) true with
        | true =>
          have HM := Aside0.mk hm
          clear hm
          have HGD : Aside0 (goodM l s.size P D false i = false) := ⟨by unfold goodM; rw [HFR.out, if_neg (by decide), HM.out]; rfl⟩
          by_cases hq0 : q < 0
          · go_wp2_with (go_at_call 23; refine (HI.out.call g9 (okF_L HF.out) HN.out HR.out (p := P) (d := D ||| 2 ^ i) (nx := true) HPL.out (or_lt HDL.out (Nat.pow_lt_pow_right (by decide) hlt)) _ _ 0 rfl rfl rfl true HM.out).mono ?_; rintro e w5 ⟨rfl, hI5⟩; have HI5 := Aside0.mk hI5; clear hI5)
            go_roundg (s.size - (i + 1))
            case measure => omega
            case rel =>
              refine ⟨i + 1, by omega, by omega, by go_num, by rw [HFF.out, if_pos ⟨hq0, HFR.out⟩], HI5, ⟨fun j hj => ?_⟩⟩
              by_cases e : j = i
              · subst e; exact HGD.out
              · exact HNo.out j (by omega)
          · have hq1 : 0 ≤ q := by omega
            go_wp2_with (go_at_call 23; refine (HI.out.call g9 (okF_L HF.out) HN.out HR.out (p := P) (d := D ||| 2 ^ i) (nx := true) HPL.out (or_lt HDL.out (Nat.pow_lt_pow_right (by decide) hlt)) _ _ 0 rfl rfl rfl true HM.out).mono ?_; rintro e w5 ⟨rfl, hI5⟩; have HI5 := Aside0.mk hI5; clear hI5)
            go_roundg (s.size - (i + 1))
            case measure => omega
            case rel =>
              refine ⟨i + 1, by omega, by omega, by go_num, by rw [HFF.out, if_neg (fun h => by have := h.1; omega)], HI5, ⟨fun j hj => ?_⟩⟩
              by_cases e : j = i
              · subst e; exact HGD.out
              · exact HNo.out j (by omega)
        | false =>
          have HM := Aside0.mk hm
          clear hm
          have HGD : Aside0 (goodM l s.size P D false i = true) := ⟨by unfold goodM; rw [HFR.out, if_neg (by decide), HM.out]; rfl⟩
          by_cases hq0 : q < 0
          · go_wp2_with (go_at_call 23; refine (HI.out.call g9 (okF_L HF.out) HN.out HR.out (p := P) (d := D ||| 2 ^ i) (nx := true) HPL.out (or_lt HDL.out (Nat.pow_lt_pow_right (by decide) hlt)) _ _ 0 rfl rfl rfl false HM.out).mono ?_; rintro e w5 ⟨rfl, hI5⟩; have HI5 := Aside0.mk hI5; clear hI5)
            go_ret2
            exact ⟨by have e := moveV_hit hlt HGD.out HNo.out; rw [HZ.out] at e; subst e; rfl, HI5.out.below⟩
          · have hq1 : 0 ≤ q := by omega
            go_wp2_with (go_at_call 23; refine (HI.out.call g9 (okF_L HF.out) HN.out HR.out (p := P) (d := D ||| 2 ^ i) (nx := true) HPL.out (or_lt HDL.out (Nat.pow_lt_pow_right (by decide) hlt)) _ _ 0 rfl rfl rfl false HM.out).mono ?_; rintro e w5 ⟨rfl, hI5⟩; have HI5 := Aside0.mk hI5; clear hI5)
            go_ret2
            exact ⟨by have e := moveV_hit hlt HGD.out HNo.out; rw [HZ.out] at e; subst e; rfl, HI5.out.below⟩
    · have hltz : ¬ (i : Int) < (s.size : Int) := by omega
      have HK2 := Aside0.mk (show i = s.size by omega)
      clear hlt
      go_wp2_with fail
      go_ret2
      exact ⟨by rw [← HZ.out, moveV_miss (fun j hj => HNo.out j (by rw [HK2.out]; exact hj)), ← HK2.out, HQ.out]; rfl, HI.out.below⟩

def drovewayref04_Move.f (a0 : Int) (l1 : List Int) (a2 a3 : ByteArray) : Option (Int × Int) := some (moveF a0 l1 a2 a3)
theorem drovewayref04_Move.calls (a0 : Int) (A1 : Option Addr) (c1 : Nat) (l1 : List Int) (a2 : ByteArray) (a3 : ByteArray) (r1 : Int) (r2 : Int) (w : World) (hr1 : Kd.C (Kd.int .i64) w A1 l1.length l1) (hc1 : l1.length ≤ c1) (h : drovewayref04_Move.f a0 l1 a2 a3 = some (r1, r2)) :
    Calls Tryd.prog 10 #[.int .i64 a0, .slice A1 l1.length c1, .string a2, .string a3] w fun e w' => e = .returned (.tuple #[.int .i64 r1, .int .i64 r2]) ∧ Below w.heap.size w w' := by
  unfold drovewayref04_Move.f moveF at h
  by_cases h0 : okP a0 l1 a2 = 0
  · have hs := (okP_parts h0).2
    subst hs
    rw [okA_eq h0] at h
    cases hn : nxW a3 with
    | none =>
      rw [hn] at h
      simp at h
      obtain ⟨rfl, rfl⟩ := h
      exact rMove_none _ A1 c1 l1 a2 a3 w hr1 hc1 h0 hn
    | some b =>
      rw [hn] at h
      simp only [if_true, Option.getD_some] at h
      by_cases hh : hasL l1 a2.size (msk 119 a2 a2.size).testBit = true
      · rw [if_pos (.inl hh)] at h
        cases h
        exact rMove_has A1 c1 l1 a2 a3 b w hr1 hc1 h0 hn hh
      · have hh' : hasL l1 a2.size (msk 119 a2 a2.size).testBit = false := by simpa using hh
        by_cases hf : msk 119 a2 a2.size ||| msk 100 a2 a2.size = 2 ^ a2.size - 1
        · rw [if_pos (.inr hf)] at h
          cases h
          exact rMove_full A1 c1 l1 a2 a3 b w hr1 hc1 h0 hn ⟨hh', hf⟩
        · rw [if_neg (fun h => h.elim hh hf)] at h
          cases h
          cases b
          · exact rMove_go_false A1 c1 l1 a2 a3 w hr1 hc1 h0 hn hh' hf
          · exact rMove_go_true A1 c1 l1 a2 a3 w hr1 hc1 h0 hn hh' hf
  · have hA : okA a0 l1 a2 a3 ≠ 0 := by rw [okA_bad h0]; exact h0
    rw [if_neg hA] at h
    cases h
    exact rMove_bad a0 A1 c1 l1 a2 a3 w hr1 hc1 h0
end Go.Proofs.YtbjpjjokamaliaaDoor.B

/- Move, as it is called: the table of math/bits is laid. -/
namespace Go.Proofs.YtbjpjjokamaliaaDoor.B
open Go.Proofs.YtbjpjjokamaliaaDoor.A
open Go.RowKit Go.Proofs.YtbjpjjokamaliaaDoorW.PrintWords Go.Proofs.YtbjpjjokamaliaaDoorW.PrintLast Go.Proofs.YtbjpjjokamaliaaDoorW.PrintMore

/-- The table of math/bits, as it lies. -/
def tab64 : List Int := [0, 1, 56, 2, 57, 49, 28, 3, 61, 58, 42, 50, 38, 29, 17, 4, 62, 47, 59, 36, 45, 43, 51, 22, 53, 39, 33, 30, 24, 18, 12, 5, 63, 55, 48, 27, 60, 41, 37, 16, 46, 35, 44, 21, 52, 32, 23, 11, 54, 26, 40, 15, 34, 20, 31, 10, 25, 14, 19, 9, 13, 8, 7, 6]
def TabAt (w : World) : Prop := ∀ j : Nat, j < 64 → w.cell? ⟨1, j, none⟩ = some (.int .u8 (tab64.getD j 0))
theorem TabAt.next {w W : World} (h : TabAt w) (hb : Below w.heap.size w W) : TabAt W := fun j hj => pw_cell_below hb (h j hj)

/-- The place in the table, as Go computes it. -/
def tzIx (F : Int) : Int := (IntKind.u64.wrap (bits .and .u64 F (IntKind.u64.wrap (-F)) * 285870213051353865)) / 288230376151711744
/-- The least spot of a set. -/
def lowB (F : Nat) : Nat → Nat
  | 0 => 0
  | k + 1 => if F % 2 = 1 then 0 else 1 + lowB (F / 2) k
theorem lowB_le (F : Nat) : ∀ k, lowB F k ≤ k := by
  intro k
  induction k generalizing F with
  | zero => exact Nat.le_refl _
  | succ k ih =>
    have := ih (F / 2)
    rw [lowB]
    split <;> omega
theorem tz_table : (List.range 512).all (fun F => F == 0 || (decide (0 ≤ tzIx F) && decide (tzIx F < 64) && decide (tab64.getD (tzIx F).toNat 0 = (lowB F 9 : Int)))) = true := by decide +kernel

set_option maxRecDepth 100000 in
set_option maxHeartbeats 800000 in
theorem tz64_calls (F : Nat) (h0 : F ≠ 0) (h1 : F < 512) (w : World) (hT : TabAt w) : Calls Tryd.prog 41 #[.int .u64 F] w fun e w' => e = .returned (.int .i64 (lowB F 9)) ∧ w = w' := by
  have ht := List.all_eq_true.1 tz_table F (List.mem_range.2 h1)
  simp [h0] at ht
  obtain ⟨⟨ht0, ht1⟩, ht2⟩ := ht
  have hne : ((F : Int) == 0) = false := by rw [beq_eq_false_iff_ne]; omega
  have hc := hT (tzIx F).toNat (by omega)
  have hc2 : tab64.getD (tzIx F).toNat 0 = (lowB F 9 : Int) := by simpa using ht2
  rw [hc2] at hc
  obtain ⟨Z, hZ⟩ : ∃ Z : Nat, tzIx F = Z := ⟨(tzIx F).toNat, by omega⟩
  rw [hZ] at hc ht0 ht1
  rw [Int.toNat_natCast] at hc
  unfold tzIx at hZ
  have hlow : lowB F 9 ≤ 9 := lowB_le F 9
  generalize lowB F 9 = b at *
  clear ht2 hT hc2
  go_enter Tryd.func41, Tryd.ntmps41
  go_wp2_with fail
  go_ret
  exact ⟨rfl, rfl⟩
set_option maxRecDepth 100000 in
set_option maxHeartbeats 800000 in
theorem tz_calls (F : Nat) (h0 : F ≠ 0) (h1 : F < 512) (w : World) (hT : TabAt w) : Calls Tryd.prog 28 #[.int .u64 F] w fun e w' => e = .returned (.int .i64 (lowB F 9)) ∧ w = w' := by
  have HT := Aside0.mk hT
  have H1 := Aside0.mk h1
  have H0 := Aside0.mk h0
  clear hT h1 h0
  go_enter Tryd.func28, Tryd.ntmps28
  go_wp2_with (go_at_call 41; refine (tz64_calls F H0.out H1.out _ HT.out).mono ?_; rintro e w1 ⟨rfl, rfl⟩)
  go_ret
  exact ⟨rfl, rfl⟩
end Go.Proofs.YtbjpjjokamaliaaDoor.B

/- What the laid variables give the walks: the table of math/bits lies; and the door's own heap meets the condition. -/
namespace Go.Proofs.YtbjpjjokamaliaaDoor.B
open Go.Proofs.YtbjpjjokamaliaaDoor.A
open Go Go.ChangeShapes Go.WideShapes Go.ChangeAt Go.RowKit
def laidB : List (String × DataW Unit) := [("math/bits.deBruijn32tab", Rows.laid_math_bits_deBruijn32tab), ("math/bits.deBruijn64tab", Rows.laid_math_bits_deBruijn64tab)]
theorem gTab : Tryd.prog.globalNamed "math/bits.deBruijn64tab" = some 1 := by kernel_rfl
theorem tTab : (Tryd.prog.globals[1]?).map (·.type) = some 87 := by kernel_rfl
theorem uTab : Tryd.prog.underlying 87 = some (.array 64 5) := Tryd.underlying87
theorem uU8 : Tryd.prog.underlying 5 = some (.int .u8) := Tryd.underlying5
theorem cU8 : Tryd.prog.cellsOf 5 = 1 := by kernel_rfl
/-- The door's own heap meets the condition. -/
theorem door_met (os : Os) (args : Array Value) : laidMetH Tryd.prog laidB ((World.doorLaid Tryd.prog 19 os).forCall (fun _ _ => 0) ⟨#[], args, []⟩).memory :=
  laidMetH_of_parts3 (fuel := 8) (laidMet_of_run' 8 (by kernel_rfl) (by kernel_rfl)) (by kernel_rfl) (by kernel_rfl)
theorem tab_data : (Rows.laid_math_bits_deBruijn64tab : DataW Unit) = .agg (tab64.map fun n => .lit (.int .u8 n)) := by rfl
theorem of_laid {W : World} (h : laidMetH Tryd.prog laidB W) : TabAt W := by
  rw [MakeChecks.laidMetH_plain _ _ _ (by kernel_rfl)] at h
  obtain ⟨ps, ⟨g0, t0, cs0, f0, p0, q0, hg0, ht0, hv0, hd0, ⟨g1, t1, cs1, f1, p1, q1, hg1, ht1, hv1, hd1, _, _⟩, _⟩, _, _⟩ := h
  obtain rfl := Option.some.inj (gTab.symm.trans hg1)
  obtain rfl := Option.some.inj (tTab.symm.trans ht1)
  rw [tab_data] at hd1
  obtain ⟨xs, m1, rfl, hx1, hlen, hn3, hel⟩ := DataW.trod_array uTab hd1
  intro j hj
  have hj' : j < xs.length := by omega
  have h0 := hel j hj
  rw [cU8, Nat.mul_one, List.getElem?_eq_getElem hj'] at h0
  obtain ⟨k, e1, e2, _⟩ := DataW.trod_int uU8 h0
  simp only [Prod.mk.injEq, DataW.agg.injEq] at hx1
  have hx := congrArg (fun l : List (DataW Unit) => l[j]?) hx1.1
  simp only [List.getElem?_map, List.getElem?_eq_getElem hj', Option.map_some, e2] at hx
  have hjt : j < tab64.length := hj
  rw [List.getElem?_eq_getElem hjt] at hx
  simp only [Option.map_some, Option.some.injEq, DataW.lit.injEq, Lit.int.injEq, true_and] at hx
  have hc := World.var?_cell hg1 hv1 j
  rw [hc]
  have e3 : cs1.toList[j]? = some (.int .u8 k) := by
    have := congrArg (fun l : List Value => l[0]?) e1
    simpa [List.getElem?_take, List.getElem?_drop] using this
  rw [Array.getElem?_toList] at e3
  rw [e3, ← hx]
  simp [List.getD_eq_getElem?_getD, List.getElem?_eq_getElem hjt]
end Go.Proofs.YtbjpjjokamaliaaDoor.B

/- Move, as it is called. -/
namespace Go.Proofs.YtbjpjjokamaliaaDoor.B
open Go.Proofs.YtbjpjjokamaliaaDoor.A
open Go.RowKit Go.Proofs.YtbjpjjokamaliaaDoorW.PrintWords Go.Proofs.YtbjpjjokamaliaaDoorW.PrintLast Go.Proofs.YtbjpjjokamaliaaDoorW.PrintMore

theorem low_table : (List.range 512).all (fun F => F == 0 || (F.testBit (lowB F 9) && (List.range 9).all fun j => decide (lowB F 9 ≤ j) || !F.testBit j)) = true := by decide +kernel
theorem low_spec {F : Nat} (h0 : F ≠ 0) (h1 : F < 512) : F.testBit (lowB F 9) = true ∧ ∀ j, j < lowB F 9 → F.testBit j = false := by
  have h := List.all_eq_true.1 low_table F (List.mem_range.2 h1)
  simp only [Bool.or_eq_true, beq_iff_eq, Bool.and_eq_true] at h
  obtain ⟨ha, hb⟩ := h.resolve_left h0
  refine ⟨ha, fun j hj => ?_⟩
  have := List.all_eq_true.1 hb j (List.mem_range.2 (by have := lowB_le F 9; omega))
  simp only [Bool.or_eq_true, decide_eq_true_iff, Bool.not_eq_true'] at this
  exact this.resolve_left (by omega)
theorem low_first {m p d F : Nat} (h9 : m ≤ 9) (hF : less (2 ^ m - 1) (p ||| d) = F) (h0 : F ≠ 0) : firstF p d m = (lowB F 9 : Int) := by
  have hlt : F < 2 ^ m := by rw [← hF]; exact less_lt (Nat.sub_lt (Nat.two_pow_pos m) (by decide))
  have h512 : F < 512 := Nat.lt_of_lt_of_le hlt (Nat.pow_le_pow_right (show 0 < 2 by decide) h9)
  obtain ⟨ha, hb⟩ := low_spec h0 h512
  have hm : lowB F 9 < m := by
    rcases Nat.lt_or_ge (lowB F 9) m with h | h
    · exact h
    · rw [tb_big hlt h] at ha; cases ha
  rw [firstF_find, find_hit (k := lowB F 9) hm]
  · rw [← tb_free (m := m) hm, hF]; exact ha
  · intro j hj
    rw [← tb_free (m := m) (by omega), hF]; exact hb j hj

/-- What is held while the spots are gone through. -/
structure MovI (l : List Int) (m : Nat) (A : Option Addr) (c p d : Nat) (x : Int) (w : World) (g mb : Nat) (W : World) : Prop where
  below : Below w.heap.size w W
  memo : Memo l m W mb
  c0 : W.cell? ⟨g, 0, none⟩ = some (.int .i64 m)
  c1 : W.cell? ⟨g, 1, none⟩ = some (.slice A l.length c)
  c2 : W.cell? ⟨g + 1, 0, none⟩ = some (.int .i64 p)
  c3 : W.cell? ⟨g + 1, 1, none⟩ = some (.int .i64 d)
  c4 : W.cell? ⟨g + 1, 2, none⟩ = some (.int .i64 x)
  big : w.heap.size ≤ g
  ne : g + 1 < mb
theorem MovI.next {l : List Int} {m : Nat} {A : Option Addr} {c p d : Nat} {x : Int} {w : World} {g mb : Nat} {W W' : World} (h : MovI l m A c p d x w g mb W) (hb : Below W.heap.size W W') : MovI l m A c p d x w g mb W' :=
  ⟨below_then h.below h.below.size hb, h.memo.keep hb, pw_cell_below hb h.c0, pw_cell_below hb h.c1, pw_cell_below hb h.c2, pw_cell_below hb h.c3, pw_cell_below hb h.c4, h.big, h.ne⟩
theorem MovI.nextK {l : List Int} {m : Nat} {A : Option Addr} {c p d : Nat} {x : Int} {w : World} {g mb : Nat} {W W' : World} (h : MovI l m A c p d x w g mb W) (hk : Keep mb W W') (hm : Memo l m W' mb) : MovI l m A c p d x w g mb W' :=
  ⟨h.below.trans (hk.below (by have := h.big; have := h.ne; omega) h.below.size), hm, keep_cell hk (by show g ≠ mb; have := h.ne; omega) h.c0, keep_cell hk (by show g ≠ mb; have := h.ne; omega) h.c1, keep_cell hk (by show g + 1 ≠ mb; have := h.ne; omega) h.c2, keep_cell hk (by show g + 1 ≠ mb; have := h.ne; omega) h.c3, keep_cell hk (by show g + 1 ≠ mb; have := h.ne; omega) h.c4, h.big, h.ne⟩
/-- As a region holds it. -/
theorem mov_hold {l : List Int} {m : Nat} {A : Option Addr} {c p d : Nat} {x : Int} {w : World} {g mb : Nat} {W : World} (h : MovI l m A c p d x w g mb W) :
    W.cell? ⟨g, 0, none⟩ = some (.int .i64 m) ∧ W.cell? ⟨g, 1, none⟩ = some (.slice A l.length c) ∧ W.cell? ⟨g + 1, 0, none⟩ = some (.int .i64 p) ∧ W.cell? ⟨g + 1, 1, none⟩ = some (.int .i64 d) ∧ W.cell? ⟨g + 1, 2, none⟩ = some (.int .i64 x) ∧ Aside0 (MovI l m A c p d x w g mb W) :=
  ⟨h.c0, h.c1, h.c2, h.c3, h.c4, ⟨h⟩⟩
theorem mov_win {l : List Int} {m : Nat} (h9 : m ≤ 9) (hl : okL m l) {A : Option Addr} {c p d k : Nat} {nx : Bool} {x y : Int} (hy : who (!nx) = y) {w : World} {g mb : Nat} {W : World} (h : MovI l m A c p d x w g mb W) (hr : Kd.C (Kd.int .i64) w A l.length l) (hp : p < 2 ^ m) (hd : d < 2 ^ m) (hk : k < m) :
    Calls Tryd.prog 20 #[.agg #[.int .i64 m, .slice A l.length c], .agg #[.int .i64 (pW nx p k), .int .i64 (dD nx d k), .int .i64 y], .map (some mb)] W fun e w' => e = .returned (.int .i64 (aftZ l m p d nx k)) ∧ MovI l m A c p d x w g mb w' := by
  have := winner_at h9 hl (nx := !nx) hy h.below (b := mb) (by have := h.big; have := h.ne; omega) hr h.memo (pW_lt (nx := nx) hp hk) (dD_lt (nx := nx) hd hk) (c := c)
  rw [aft_eq] at this
  exact this.mono fun _ _ ⟨h1, h2, h3⟩ => ⟨h1, h.nextK h3 h2⟩
theorem mov_start {m p d n c : Nat} {A : Option Addr} {x : Int} {w1 w2 : World} (hb : Below ((w1.alloc (.cells #[.int .i64 m, .slice A n c] 45)).alloc (.cells #[.int .i64 p, .int .i64 d, .int .i64 x] 49)).heap.size ((w1.alloc (.cells #[.int .i64 m, .slice A n c] 45)).alloc (.cells #[.int .i64 p, .int .i64 d, .int .i64 x] 49)) w2) :
    w2.cell? ⟨w1.heap.size, 0, none⟩ = some (.int .i64 m) ∧ w2.cell? ⟨w1.heap.size, 1, none⟩ = some (.slice A n c) ∧ w2.cell? ⟨w1.heap.size + 1, 0, none⟩ = some (.int .i64 p) ∧ w2.cell? ⟨w1.heap.size + 1, 1, none⟩ = some (.int .i64 d) ∧ w2.cell? ⟨w1.heap.size + 1, 2, none⟩ = some (.int .i64 x) ∧ w1.heap.size + 1 < w2.heap.size := by
  have hsz := hb.size
  simp at hsz
  exact ⟨(hb.cell (by simp; omega)).trans (by simp), (hb.cell (by simp; omega)).trans (by simp), (hb.cell (by simp)).trans (by simp), (hb.cell (by simp)).trans (by simp), (hb.cell (by simp)).trans (by simp), by omega⟩
theorem mov_new {l : List Int} {m : Nat} {A : Option Addr} {c p d : Nat} {x : Int} {w w2 w3 : World} {g : Nat} (hB : Below w.heap.size w w3) (hb : Below w2.heap.size w2 w3) (k0 : w2.cell? ⟨g, 0, none⟩ = some (.int .i64 m)) (k1 : w2.cell? ⟨g, 1, none⟩ = some (.slice A l.length c)) (k2 : w2.cell? ⟨g + 1, 0, none⟩ = some (.int .i64 p)) (k3 : w2.cell? ⟨g + 1, 1, none⟩ = some (.int .i64 d)) (k4 : w2.cell? ⟨g + 1, 2, none⟩ = some (.int .i64 x)) (k5 : g + 1 < w2.heap.size) (hg : w.heap.size ≤ g) :
    MovI l m A c p d x w g w3.heap.size (w3.alloc (.map #[] 0)) := by
  have h : ∀ {a : Addr} {v : Value}, w2.cell? a = some v → (w3.alloc (.map #[] 0)).cell? a = some v := fun hc => pw_cell_below (below_alloc (Below.refl _ _) _) (pw_cell_below hb hc)
  exact ⟨below_alloc hB _, Memo.new _ rfl, h k0, h k1, h k2, h k3, h k4, hg, Nat.lt_of_lt_of_le k5 hb.size⟩
theorem good_aft {l : List Int} {m p d k : Nat} {nx : Bool} (hf : fr p.testBit d.testBit k = true) : goodM l m p d nx k = (aftZ l m p d nx k == who nx) := by
  unfold goodM aftZ winB winZ
  rw [hf, Bool.true_and]
  cases nx
  · simp only [Bool.false_eq_true, if_false]
    cases wins l m p.testBit (d ||| 2 ^ k).testBit true <;> rfl
  · simp only [if_true]
    cases wins l m (p ||| 2 ^ k).testBit d.testBit false <;> rfl

set_option maxRecDepth 100000 in
set_option maxHeartbeats 800000 in
theorem Move_err (m : Int) (A : Option Addr) (c : Nat) (l : List Int) (s nx : ByteArray) (w : World) (hr : Kd.C (Kd.int .i64) w A l.length l) (he : okA m l s nx ≠ 0) :
    Calls Tryd.prog 9 #[.int .i64 m, .slice A l.length c, .string s, .string nx] w fun e w' => e = .returned (.tuple #[.int .i64 0, .int .i64 (okA m l s nx)]) ∧ Below w.heap.size w w' := by
  have HR := Aside0.mk hr
  have HE := Aside0.mk he
  obtain ⟨E, hE⟩ : ∃ E, okA m l s nx = E := ⟨_, rfl⟩
  rw [hE] at he ⊢
  have HV := Aside0.mk hE
  have hg : (E != 0) = true := by rw [bne_iff_ne]; exact he
  clear hr hE he
  go_enter Tryd.func9, Tryd.ntmps9
  go_wp2_with (go_at_call 18; refine (asked_err m A c l s nx _ HR.out HE.out).mono ?_; rw [HV.out]; rintro e w' ⟨⟨x, A2, n2, c2, rfl⟩, hb'⟩; have HB := Aside0.mk hb'; clear hb')
  go_ret2
  exact ⟨rfl, below_alloc (below_alloc HB.out _) _⟩

set_option maxRecDepth 100000 in
set_option maxHeartbeats 3200000 in
theorem Move_good (A : Option Addr) (c : Nat) (l : List Int) (s nx : ByteArray) (b : Bool) (w : World) (hr : Kd.C (Kd.int .i64) w A l.length l) (hP0 : okP (s.size : Int) l s = 0) (hb : nxW nx = some b) (hT : TabAt w) (hh : hasL l s.size (msk 119 s s.size).testBit = false) (hf : ¬ (msk 119 s s.size ||| msk 100 s s.size = 2 ^ s.size - 1)) :
    Calls Tryd.prog 9 #[.int .i64 s.size, .slice A l.length c, .string s, .string nx] w fun e w' => e = .returned (.tuple #[.int .i64 (moveV l s.size (msk 119 s s.size) (msk 100 s s.size) b), .int .i64 0]) ∧ Below w.heap.size w w' := by
  obtain ⟨hF, _⟩ := okP_parts hP0
  have h1 := okF_m hF
  have HR := Aside0.mk hr
  have HE := Aside0.mk hP0
  have HN := Aside0.mk hb
  have HF := Aside0.mk hF
  have HT := Aside0.mk hT
  have g9 : s.size ≤ 9 := by omega
  have hAg := asked_good s.size A c l s nx b
  obtain ⟨p, hp⟩ : ∃ p, msk 119 s s.size = p := ⟨_, rfl⟩
  obtain ⟨d, hd⟩ : ∃ d, msk 100 s s.size = d := ⟨_, rfl⟩
  have HP : Aside0 (p < 2 ^ s.size) := ⟨by rw [← hp]; exact msk_lt 119 s s.size⟩
  have HD : Aside0 (d < 2 ^ s.size) := ⟨by rw [← hd]; exact msk_lt 100 s s.size⟩
  rw [hp, hd] at hf ⊢
  rw [hp] at hh
  rw [hp, hd] at hAg
  have HA := Aside0.mk hAg
  have HH := Aside0.mk hh
  obtain ⟨F, hFr⟩ : ∃ F, less (2 ^ s.size - 1) (p ||| d) = F := ⟨_, rfl⟩
  have HFR := Aside0.mk hFr
  have hF0 : F ≠ 0 := fun e => hf ((full_iff HP.out HD.out).2 (hFr.trans e))
  have HF0 := Aside0.mk hF0
  have t1 : ((F : Int) == 0) = false := by rw [beq_eq_false_iff_ne]; omega
  have hF512 : F < 512 := by
    have h2 : F < 2 ^ s.size := by rw [← hFr]; exact less_lt (Nat.sub_lt (Nat.two_pow_pos _) (by decide))
    exact Nat.lt_of_lt_of_le h2 (Nat.pow_le_pow_right (show 0 < 2 by decide) g9)
  obtain ⟨x, hx⟩ : ∃ x, who b = x := ⟨_, rfl⟩
  have HX := Aside0.mk hx
  obtain ⟨z, hz⟩ : ∃ z, moveV l s.size p d b = z := ⟨_, rfl⟩
  have HZ := Aside0.mk hz
  rw [hz]
  clear hr hP0 hb hF h1 hT hAg hp hd hf hh hFr hF0 hx hz
  have hmm := @run_makeMap Tryd.prog
  go_enter Tryd.func9, Tryd.ntmps9
  go_wp2_with (first
    | (go_at_call 18; refine (HA.out _ HR.out HE.out HN.out).mono ?_; rw [HX.out]; rintro e w1 ⟨rfl, hb1⟩; have HB1 := Aside0.mk (below_alloc (below_alloc hb1 (.cells #[.int .i64 s.size, .slice A l.length c] 45)) (.cells #[.int .i64 p, .int .i64 d, .int .i64 x] 49)); have HS1 := Aside0.mk hb1.size; clear hb1)
    | (go_at_call 24; refine (free_calls s.size p d g9 HP.out HD.out A l.length c _).mono ?_; rw [HFR.out]; rintro e w2 ⟨rfl, hb2⟩; obtain ⟨k0, k1, k2, k3, k4, k5⟩ := mov_start hb2; have HB2 := Aside0.mk (below_then HB1.out HB1.out.size hb2); clear hb2)
    | (go_at_call 25; refine (won_calls s.size p d g9 HP.out l (okF_L HF.out) A l.length c _ (Kd.C_below HR.out HB2.out)).mono ?_; rw [HH.out]; rintro e w3 ⟨rfl, hb3⟩; have HB3 := Aside0.mk (below_then HB2.out HB2.out.size hb3); have HI : Aside0 (MovI l s.size A c p d x w w1.heap.size w3.heap.size (w3.alloc (.map #[] 0))) := ⟨mov_new HB3.out hb3 k0 k1 k2 k3 k4 k5 HS1.out⟩; clear hb3 k0 k1 k2 k3 k4 k5))
  generalize w1.heap.size = g at *
  generalize w3.heap.size = mb at *
  clear t1
  go_loopg [15, 42] s.size (fun gg _ v42 wr => ∃ i : Nat, i ≤ s.size ∧ s.size - i ≤ gg ∧ v42 = .int .i64 i ∧ Aside0 (MovI l s.size A c p d x w g mb wr) ∧ Aside0 (∀ j, j < i → goodM l s.size p d b j = false))
  case atStart => exact ⟨0, Nat.zero_le _, by omega, rfl, HI, ⟨fun i hi => absurd hi (Nat.not_lt_zero _)⟩⟩
  case round =>
    clear HI HB1 HB2 HB3 HS1
    obtain ⟨i, hi, hgg, rfl, HI, HNo⟩ := hrel
    obtain ⟨c0, c1, c2, c3, c4, -⟩ := mov_hold HI.out
    by_cases hlt : i < s.size
    · have hltz : (i : Int) < (s.size : Int) := by omega
      have hgd := free_bit HFR.out hlt g9
      cases hfb : fr p.testBit d.testBit i with
      | false =>
        have HFB := Aside0.mk hfb
        rw [hfb] at hgd
        clear hfb
        go_wp2_with fail
        go_quiet (fail)
        go_wp2_with fail
        go_roundg (s.size - (i + 1))
        case measure => omega
        case rel =>
          refine ⟨i + 1, by omega, by omega, by go_num, ⟨HI.out.next (pw_below_drewN (Below.refl _ _) _)⟩, ⟨fun j hj => ?_⟩⟩
          by_cases e : j = i
          · subst e; unfold goodM; rw [HFB.out]; rfl
          · exact HNo.out j (by omega)
      | true =>
        have HFB := Aside0.mk hfb
        rw [hfb] at hgd
        clear hfb
        go_wp2_with fail
        go_region_held3 (fun w' => w'.cell? ⟨g, 0, none⟩ = some (.int .i64 s.size) ∧ w'.cell? ⟨g, 1, none⟩ = some (.slice A l.length c) ∧ w'.cell? ⟨g + 1, 0, none⟩ = some (.int .i64 p) ∧ w'.cell? ⟨g + 1, 1, none⟩ = some (.int .i64 d) ∧ w'.cell? ⟨g + 1, 2, none⟩ = some (.int .i64 x) ∧ Aside0 (MovI l s.size A c p d x w g mb w')) (first | exact mov_hold (HI.out.next (below_drew (Below.refl _ _))) | exact mov_hold hI2 | exact mov_hold ((by assumption : _ ∧ _ ∧ _ ∧ _ ∧ _ ∧ Aside0 (MovI _ _ _ _ _ _ _ _ _ _ _)).2.2.2.2.2.out.next hb2) | exact mov_hold ((by assumption : _ ∧ _ ∧ _ ∧ _ ∧ _ ∧ Aside0 (MovI _ _ _ _ _ _ _ _ _ _ _)).2.2.2.2.2.out.next (Below.refl _ _))) (first | (go_at_call 26; refine (after_any b x HX.out p d i (pow9 HP.out g9) (pow9 HD.out g9) (by omega) _).mono ?_; rintro e w2 ⟨rfl, hb2⟩) | (go_at_call 27; refine (other_any b x HX.out _).mono ?_; rintro e w2 ⟨rfl, rfl⟩) | (go_at_call 20; refine (mov_win (nx := b) g9 (okF_L HF.out) rfl (by assumption : _ ∧ _ ∧ _ ∧ _ ∧ _ ∧ Aside0 (MovI _ _ _ _ _ _ _ _ _ _ _)).2.2.2.2.2.out HR.out HP.out HD.out hlt).mono ?_; rintro e w2 ⟨rfl, hI2⟩))
        all_goals
          have HI2 := Aside0.mk hI2
          by_cases hax : aftZ l s.size p d b i = x
          · have HGD : Aside0 (goodM l s.size p d b i = true) := ⟨by rw [good_aft HFB.out, HX.out]; exact beq_iff_eq.2 hax⟩
            have hab : (aftZ l s.size p d b i == x) = true := beq_iff_eq.2 hax
            clear hax hI2
            go_wp2_with fail
            go_ret2
            exact ⟨by have e := moveV_hit hlt HGD.out HNo.out; rw [HZ.out] at e; subst e; rfl, HI2.out.below⟩
          · have HGD : Aside0 (goodM l s.size p d b i = false) := ⟨by rw [good_aft HFB.out, HX.out]; exact beq_eq_false_iff_ne.2 hax⟩
            have hab : (aftZ l s.size p d b i == x) = false := beq_eq_false_iff_ne.2 hax
            clear hax hI2
            go_wp2_with fail
            go_roundg (s.size - (i + 1))
            case measure => omega
            case rel =>
              refine ⟨i + 1, by omega, by omega, by go_num, HI2, ⟨fun j hj => ?_⟩⟩
              by_cases e : j = i
              · subst e; exact HGD.out
              · exact HNo.out j (by omega)
    · have hltz : ¬ (i : Int) < (s.size : Int) := by omega
      have HK2 := Aside0.mk (show i = s.size by omega)
      clear hlt c0 c1 c2 c3 c4
      go_wp2_with (go_at_call 28; refine (tz_calls F HF0.out hF512 _ (HT.out.next HI.out.below)).mono ?_; rintro e w5 ⟨rfl, rfl⟩)
      go_ret2
      exact ⟨by rw [← HZ.out, moveV_miss (fun j hj => HNo.out j (by rw [HK2.out]; exact hj)), low_first g9 HFR.out HF0.out]; rfl, HI.out.below⟩

set_option maxRecDepth 100000 in
set_option maxHeartbeats 1600000 in
theorem Move_has (A : Option Addr) (c : Nat) (l : List Int) (s nx : ByteArray) (b : Bool) (w : World) (hr : Kd.C (Kd.int .i64) w A l.length l) (hP0 : okP (s.size : Int) l s = 0) (hb : nxW nx = some b) (hst : hasL l s.size (msk 119 s s.size).testBit = true) :
    Calls Tryd.prog 9 #[.int .i64 s.size, .slice A l.length c, .string s, .string nx] w fun e w' => e = .returned (.tuple #[.int .i64 0, .int .i64 9]) ∧ Below w.heap.size w w' := by
  obtain ⟨hF, _⟩ := okP_parts hP0
  have h1 := okF_m hF
  have HR := Aside0.mk hr
  have HE := Aside0.mk hP0
  have HN := Aside0.mk hb
  have HF := Aside0.mk hF
  have g9 : s.size ≤ 9 := by omega
  have hAg := asked_good s.size A c l s nx b
  obtain ⟨p, hp⟩ : ∃ p, msk 119 s s.size = p := ⟨_, rfl⟩
  obtain ⟨d, hd⟩ : ∃ d, msk 100 s s.size = d := ⟨_, rfl⟩
  have HP : Aside0 (p < 2 ^ s.size) := ⟨by rw [← hp]; exact msk_lt 119 s s.size⟩
  have HD : Aside0 (d < 2 ^ s.size) := ⟨by rw [← hd]; exact msk_lt 100 s s.size⟩
  rw [hp] at hst
  rw [hp, hd] at hAg
  have HA := Aside0.mk hAg
  obtain ⟨F, hFr⟩ : ∃ F, less (2 ^ s.size - 1) (p ||| d) = F := ⟨_, rfl⟩
  have HFR := Aside0.mk hFr
  have HST := Aside0.mk hst
  obtain ⟨x, hx⟩ : ∃ x, who b = x := ⟨_, rfl⟩
  have HX := Aside0.mk hx
  clear hr hP0 hb hF h1 hAg hp hd hst hFr hx
  go_enter Tryd.func9, Tryd.ntmps9
  go_wp2_with (first
    | (go_at_call 18; refine (HA.out _ HR.out HE.out HN.out).mono ?_; rw [HX.out]; rintro e w1 ⟨rfl, hb1⟩; have HB1 := Aside0.mk (below_alloc (below_alloc hb1 (.cells #[.int .i64 s.size, .slice A l.length c] 45)) (.cells #[.int .i64 p, .int .i64 d, .int .i64 x] 49)); clear hb1)
    | (go_at_call 24; refine (free_calls s.size p d g9 HP.out HD.out A l.length c _).mono ?_; rw [HFR.out]; rintro e w2 ⟨rfl, hb2⟩; obtain ⟨k0, k1, k2, k3, k4, k5⟩ := mov_start hb2; have HB2 := Aside0.mk (below_then HB1.out HB1.out.size hb2); clear hb2)
    | (go_at_call 25; refine (won_calls s.size p d g9 HP.out l (okF_L HF.out) A l.length c _ (Kd.C_below HR.out HB2.out)).mono ?_; rw [HST.out]; rintro e w3 ⟨rfl, hb3⟩; have HB3 := Aside0.mk (below_then HB2.out HB2.out.size hb3); clear hb3 k0 k1 k2 k3 k4 k5))
  go_ret2
  exact ⟨rfl, HB3.out⟩

set_option maxRecDepth 100000 in
set_option maxHeartbeats 1600000 in
theorem Move_full (A : Option Addr) (c : Nat) (l : List Int) (s nx : ByteArray) (b : Bool) (w : World) (hr : Kd.C (Kd.int .i64) w A l.length l) (hP0 : okP (s.size : Int) l s = 0) (hb : nxW nx = some b) (hst : hasL l s.size (msk 119 s s.size).testBit = false ∧ msk 119 s s.size ||| msk 100 s s.size = 2 ^ s.size - 1) :
    Calls Tryd.prog 9 #[.int .i64 s.size, .slice A l.length c, .string s, .string nx] w fun e w' => e = .returned (.tuple #[.int .i64 0, .int .i64 9]) ∧ Below w.heap.size w w' := by
  obtain ⟨hF, _⟩ := okP_parts hP0
  have h1 := okF_m hF
  have HR := Aside0.mk hr
  have HE := Aside0.mk hP0
  have HN := Aside0.mk hb
  have HF := Aside0.mk hF
  have g9 : s.size ≤ 9 := by omega
  have hAg := asked_good s.size A c l s nx b
  obtain ⟨p, hp⟩ : ∃ p, msk 119 s s.size = p := ⟨_, rfl⟩
  obtain ⟨d, hd⟩ : ∃ d, msk 100 s s.size = d := ⟨_, rfl⟩
  have HP : Aside0 (p < 2 ^ s.size) := ⟨by rw [← hp]; exact msk_lt 119 s s.size⟩
  have HD : Aside0 (d < 2 ^ s.size) := ⟨by rw [← hd]; exact msk_lt 100 s s.size⟩
  rw [hp, hd] at hst
  rw [hp, hd] at hAg
  have HA := Aside0.mk hAg
  obtain ⟨F, hFr⟩ : ∃ F, less (2 ^ s.size - 1) (p ||| d) = F := ⟨_, rfl⟩
  have HFR := Aside0.mk hFr
  have hF0 : F = 0 := hFr.symm.trans ((full_iff HP.out HD.out).1 hst.2)
  have t1 : ((F : Int) == 0) = true := by rw [hF0]; rfl
  clear hF0
  have HST := Aside0.mk hst
  obtain ⟨x, hx⟩ : ∃ x, who b = x := ⟨_, rfl⟩
  have HX := Aside0.mk hx
  clear hr hP0 hb hF h1 hAg hp hd hst hFr hx
  go_enter Tryd.func9, Tryd.ntmps9
  go_wp2_with (first
    | (go_at_call 18; refine (HA.out _ HR.out HE.out HN.out).mono ?_; rw [HX.out]; rintro e w1 ⟨rfl, hb1⟩; have HB1 := Aside0.mk (below_alloc (below_alloc hb1 (.cells #[.int .i64 s.size, .slice A l.length c] 45)) (.cells #[.int .i64 p, .int .i64 d, .int .i64 x] 49)); clear hb1)
    | (go_at_call 24; refine (free_calls s.size p d g9 HP.out HD.out A l.length c _).mono ?_; rw [HFR.out]; rintro e w2 ⟨rfl, hb2⟩; obtain ⟨k0, k1, k2, k3, k4, k5⟩ := mov_start hb2; have HB2 := Aside0.mk (below_then HB1.out HB1.out.size hb2); clear hb2)
    | (go_at_call 25; refine (won_calls s.size p d g9 HP.out l (okF_L HF.out) A l.length c _ (Kd.C_below HR.out HB2.out)).mono ?_; rw [HST.out.1]; rintro e w3 ⟨rfl, hb3⟩; have HB3 := Aside0.mk (below_then HB2.out HB2.out.size hb3); clear hb3 k0 k1 k2 k3 k4 k5))
  go_ret2
  exact ⟨rfl, HB3.out⟩

def ambush_Move.f (a0 : Int) (l1 : List Int) (a2 a3 : ByteArray) : Option (Int × Int) := some (moveF a0 l1 a2 a3)
theorem ambush_Move.calls (a0 : Int) (A1 : Option Addr) (c1 : Nat) (l1 : List Int) (a2 : ByteArray) (a3 : ByteArray) (r1 : Int) (r2 : Int) (w : World) (hT : TabAt w) (hr1 : Kd.C (Kd.int .i64) w A1 l1.length l1) (_hc1 : l1.length ≤ c1) (h : ambush_Move.f a0 l1 a2 a3 = some (r1, r2)) :
    Calls Tryd.prog 9 #[.int .i64 a0, .slice A1 l1.length c1, .string a2, .string a3] w fun e w' => e = .returned (.tuple #[.int .i64 r1, .int .i64 r2]) ∧ Below w.heap.size w w' := by
  unfold ambush_Move.f moveF at h
  by_cases hA : okA a0 l1 a2 a3 = 0
  · rw [if_pos hA] at h
    obtain ⟨h0, b, hn⟩ := okA_parts hA
    have hs := (okP_parts h0).2
    subst hs
    rw [hn] at h
    simp only [Option.getD_some] at h
    by_cases hh : hasL l1 a2.size (msk 119 a2 a2.size).testBit = true
    · rw [if_pos (.inl hh)] at h
      cases h
      exact Move_has A1 c1 l1 a2 a3 b w hr1 h0 hn hh
    · have hh' : hasL l1 a2.size (msk 119 a2 a2.size).testBit = false := by simpa using hh
      by_cases hf : msk 119 a2 a2.size ||| msk 100 a2 a2.size = 2 ^ a2.size - 1
      · rw [if_pos (.inr hf)] at h
        cases h
        exact Move_full A1 c1 l1 a2 a3 b w hr1 h0 hn ⟨hh', hf⟩
      · rw [if_neg (fun h => h.elim hh hf)] at h
        cases h
        exact Move_good A1 c1 l1 a2 a3 b w hr1 h0 hn hT hh' hf
  · rw [if_neg hA] at h
    cases h
    exact Move_err a0 A1 c1 l1 a2 a3 w hr1 hA
end Go.Proofs.YtbjpjjokamaliaaDoor.B

-- Printed by hprint.py (this claim's own program, over the kit's print.py) out of the translation and contracts by hand. Not trusted: Lean checks it.
namespace Go.Proofs.YtbjpjjokamaliaaDoor.PAmbushMoves
open Go.Proofs.YtbjpjjokamaliaaDoor.A Go.Proofs.YtbjpjjokamaliaaDoor.B
open Go.RowKit Go.Proofs.YtbjpjjokamaliaaDoorW.PrintWords Go.Proofs.YtbjpjjokamaliaaDoorW.PrintLast Go.Proofs.YtbjpjjokamaliaaDoorW.PrintMore
attribute [local go_sem] max2_int min2_int max_two min_two max_three min_three max_four min_four   -- for this text's walks alone
set_option linter.unusedVariables false
set_option linter.unusedSimpArgs false



def errW : Option Int → Value
  | none => .nilIface
  | some c => .iface 0 (.int .i64 c)
theorem errW_none : errW none = .nilIface := rfl
theorem errW_some (c : Int) : errW (some c) = .iface 0 (.int .i64 c) := rfl

-- the values' own types
def rd_L1 (xs : List (List Int)) (i : Int) : (List Int) := xs.getD i.toNat ([] : List Int)
theorem at_L1 {w : World} {A : Option Addr} {n : Nat} {xs : List (List Int)} (h : Kd.C (Kd.slice 3 (Kd.int .i64)) w A n xs) (i : Int) (h0 : 0 ≤ i) (h1 : i < n) : ∃ ad A0 c0, A = some ad ∧ w.cell? (ad.add i.toNat) = some (.slice A0 (rd_L1 xs i).length c0) ∧ (rd_L1 xs i).length ≤ c0 ∧ (Kd.int .i64).C w A0 (rd_L1 xs i).length (rd_L1 xs i) := by
  obtain ⟨ad, c, e, _, hK, hc0⟩ := Kd.C_get h ([] : List Int) i h0 h1
  have hc : ∀ j u, c[j]? = some u → w.cell? (ad.add (i.toNat * 1 + j)) = some u := hc0
  obtain ⟨A0, c0, rfl, l0, g0⟩ := hK
  exact ⟨ad, A0, c0, e, by have hq := hc 0 _ rfl; rwa [Nat.mul_one, Nat.add_zero] at hq, l0, g0⟩

end Go.Proofs.YtbjpjjokamaliaaDoor.PAmbushMoves

-- Printed by hprint.py (this claim's own program, over the kit's print.py) out of the translation and contracts by hand. Not trusted: Lean checks it.
namespace Go.Proofs.YtbjpjjokamaliaaDoor.PAmbushMoves
open Go.Proofs.YtbjpjjokamaliaaDoor.A Go.Proofs.YtbjpjjokamaliaaDoor.B
open Go.RowKit Go.Proofs.YtbjpjjokamaliaaDoorW.PrintWords Go.Proofs.YtbjpjjokamaliaaDoorW.PrintLast Go.Proofs.YtbjpjjokamaliaaDoorW.PrintMore
attribute [local go_sem] max2_int min2_int max_two min_two max_three min_three max_four min_four   -- for this text's walks alone
set_option linter.unusedVariables false
set_option linter.unusedSimpArgs false

/-! ### drovewaylaw04_few: function 5 -/
def drovewaylaw04_few.f (l0 : List Int) (a1 : ByteArray) (a2 : ByteArray) : Option (Bool) := if (l0.length : Int) ≤ 40 then (if (a1.size : Int) ≤ 40 then (some (decide ((a2.size : Int) ≤ 40))) else (some false)) else (some false)
set_option maxHeartbeats 8000000 in
set_option maxRecDepth 100000 in
theorem drovewaylaw04_few.calls (A0 : Option Addr) (c0 : Nat) (l0 : List Int) (a1 : ByteArray) (a2 : ByteArray) (r : Bool) (w : World) (hr0 : Kd.C (Kd.int .i64) w A0 l0.length l0) (hc0 : l0.length ≤ c0) (h : drovewaylaw04_few.f l0 a1 a2 = some r) :
    Calls Tryd.prog 5 #[.slice A0 l0.length c0, .string a1, .string a2] w fun e w' => e = .returned (.bool r) ∧ Drawn0 w w' := by
  have HR0 := Aside0.mk hr0
  have HC0 := Aside0.mk hc0
  clear hr0 hc0
  have H : (if (l0.length : Int) ≤ 40 then (if (a1.size : Int) ≤ 40 then (some (decide ((a2.size : Int) ≤ 40))) else (some false)) else (some false)) = some r := h
  clear h
  by_cases c4 : (l0.length : Int) ≤ 40
  · rw [if_pos c4] at H
    have c4b0 : decide ((l0.length : Int) ≤ 40) = true := decide_eq_true c4
    have c4b1 : decide (l0.length ≤ 40) = true := decide_eq_true (by omega)
    clear c4
    by_cases c5 : (a1.size : Int) ≤ 40
    · rw [if_pos c5] at H
      have c5b0 : decide ((a1.size : Int) ≤ 40) = true := decide_eq_true c5
      have c5b1 : decide (a1.size ≤ 40) = true := decide_eq_true (by omega)
      clear c5
      obtain rfl := Option.some.inj H
      go_enter Tryd.func5, Tryd.ntmps5
      go_wp2
      go_ret
      exact ⟨by first | rfl | (simp; done) | (simp [*]; done), by repeat (first | exact Drawn0.refl _ | apply Drawn0.step)⟩
    · rw [if_neg c5] at H
      have c5b0 : decide ((a1.size : Int) ≤ 40) = false := decide_eq_false c5
      have c5b1 : decide (a1.size ≤ 40) = false := decide_eq_false (by omega)
      clear c5
      obtain rfl := Option.some.inj H
      go_enter Tryd.func5, Tryd.ntmps5
      go_wp2
      go_ret
      exact ⟨by first | rfl | (simp; done) | (simp [*]; done), by repeat (first | exact Drawn0.refl _ | apply Drawn0.step)⟩
  · rw [if_neg c4] at H
    have c4b0 : decide ((l0.length : Int) ≤ 40) = false := decide_eq_false c4
    have c4b1 : decide (l0.length ≤ 40) = false := decide_eq_false (by omega)
    clear c4
    obtain rfl := Option.some.inj H
    go_enter Tryd.func5, Tryd.ntmps5
    go_wp2
    go_ret
    exact ⟨by first | rfl | (simp; done) | (simp [*]; done), by repeat (first | exact Drawn0.refl _ | apply Drawn0.step)⟩

-- by hand: function 6 (drovewaylaw04_alive)

-- by hand: function 7 (ambush_Winner)

-- by hand: function 9 (ambush_Move)

/-! ### drovewayref04_Field: function 30 -/
mutual
def drovewayref04_Field.j0 : Nat → Int → List Int → Bool → Option (Int)
  | 0, _, _, _ => none
  | k + 1, x0, x1, x11 => if x11 = true then (some 2) else (if (x1.length : Int) > 12 then (some 3) else (drovewayref04_Field.l0 k x0 x1 0))
def drovewayref04_Field.l0 : Nat → Int → List Int → Int → Option (Int)
  | 0, _, _, _ => none
  | k + 1, x0, x1, x5 => if x5 < (x1.length : Int) then (if 0 ≤ x5 then (if (rd x1 x5) < 1 then (some 2) else (if 0 ≤ x0 then (if (rd x1 x5) ≥ (shl .i64 1 x0) then (some 2) else (drovewayref04_Field.l0 k x0 x1 (wrap64 (x5 + 1)))) else (none))) else (none)) else (some 0)
end
def drovewayref04_Field.f (k : Nat) (a0 : Int) (l1 : List Int) : Option (Int) := if a0 < 1 then (drovewayref04_Field.j0 k a0 l1 true) else (drovewayref04_Field.j0 k a0 l1 (decide (a0 > 9)))
theorem drovewayref04_Field.mono_l : ∀ k, (∀ y0 y1 y2, LeO (drovewayref04_Field.j0 k y0 y1 y2) (drovewayref04_Field.j0 (k + 1) y0 y1 y2)) ∧ (∀ y0 y1 y2, LeO (drovewayref04_Field.l0 k y0 y1 y2) (drovewayref04_Field.l0 (k + 1) y0 y1 y2))
  | 0 => ⟨fun _ _ _ r h => by simp [drovewayref04_Field.j0] at h, fun _ _ _ r h => by simp [drovewayref04_Field.l0] at h⟩
  | k + 1 => by
    obtain ⟨ih0, ih1⟩ := drovewayref04_Field.mono_l k
    refine ⟨?_, ?_⟩
    · intro y0 y1 y2
      unfold drovewayref04_Field.j0
      repeat' first
      | (with_reducible exact ih0 _ _ _)
      | (with_reducible exact ih1 _ _ _)
      | (with_reducible exact LeO.refl _)
      | (with_reducible exact LeO.none _)
      | (with_reducible refine LeO.ite ?_ ?_)
      | (with_reducible refine LeO.bind ?_ (fun _ => ?_))
      | exact ih0 _ _ _
      | exact ih1 _ _ _
      | exact LeO.none _
      | refine LeO.ite ?_ ?_
      | refine LeO.bind ?_ (fun _ => ?_)
    · intro y0 y1 y2
      unfold drovewayref04_Field.l0
      repeat' first
      | (with_reducible exact ih0 _ _ _)
      | (with_reducible exact ih1 _ _ _)
      | (with_reducible exact LeO.refl _)
      | (with_reducible exact LeO.none _)
      | (with_reducible refine LeO.ite ?_ ?_)
      | (with_reducible refine LeO.bind ?_ (fun _ => ?_))
      | exact ih0 _ _ _
      | exact ih1 _ _ _
      | exact LeO.none _
      | refine LeO.ite ?_ ?_
      | refine LeO.bind ?_ (fun _ => ?_)
theorem drovewayref04_Field.mono : ∀ a0 a1 k, LeO (drovewayref04_Field.f k a0 a1) (drovewayref04_Field.f (k + 1) a0 a1) := by
  intro a0 a1 k
  obtain ⟨ih0, ih1⟩ := drovewayref04_Field.mono_l k
  unfold drovewayref04_Field.f
  repeat' first
      | (with_reducible exact ih0 _ _ _)
      | (with_reducible exact ih1 _ _ _)
      | (with_reducible exact LeO.refl _)
      | (with_reducible exact LeO.none _)
      | (with_reducible refine LeO.ite ?_ ?_)
      | (with_reducible refine LeO.bind ?_ (fun _ => ?_))
      | exact ih0 _ _ _
      | exact ih1 _ _ _
      | exact LeO.none _
      | refine LeO.ite ?_ ?_
      | refine LeO.bind ?_ (fun _ => ?_)
set_option maxHeartbeats 8000000 in
set_option maxRecDepth 100000 in
theorem drovewayref04_Field.calls (k : Nat) (a0 : Int) (A1 : Option Addr) (c1 : Nat) (l1 : List Int) (r : Int) (w : World) (hr1 : Kd.C (Kd.int .i64) w A1 l1.length l1) (hc1 : l1.length ≤ c1) (h : drovewayref04_Field.f k a0 l1 = some r) :
    Calls Tryd.prog 30 #[.int .i64 a0, .slice A1 l1.length c1] w fun e w' => e = .returned (.int .i64 r) ∧ Drawn0 w w' := by
  have HR1 := Aside0.mk hr1
  have HC1 := Aside0.mk hc1
  clear hr1 hc1
  have H : (if a0 < 1 then (drovewayref04_Field.j0 k a0 l1 true) else (drovewayref04_Field.j0 k a0 l1 (decide (a0 > 9)))) = some r := h
  clear h
  have HC3 := Aside0.mk H
  clear H
  go_enter Tryd.func30, Tryd.ntmps30
  go_upto_region 1 with (fail)
  repeat (go_quiet (fail); go_upto_region 1 with (fail))
  go_cut [11] (fun v11 wc => ∃ (kq : Nat) (x11_2 : Bool), v11 = .bool x11_2 ∧ Aside0 (drovewayref04_Field.j0 kq a0 l1 x11_2 = some r) ∧ Aside0 (kq ≤ k) ∧ Drawn0 w wc)
  case first =>
    have H := HC3.out
    clear HC3
    by_cases c4 : a0 < 1
    · rw [if_pos c4] at H
      have c4b0 : decide (a0 < 1) = true := decide_eq_true c4
      clear c4
      (first | rw [c4b0] | (simp only [i64_w, i32_w]; rw [c4b0]) | skip)
      have H' := Aside0.mk H
      clear H
      go_wp2
      repeat (go_quiet (fail); try go_wp2)
      go_meet
      case rel => exact ⟨_, (true), (by first | rfl | (simp; done) | (simp [*]; done) | (simp; exact beq_not_bne _ _)), H', ⟨by first | omega | exact Nat.le_refl _⟩, by repeat (first | exact Drawn0.refl _ | apply Drawn0.step)⟩
    · rw [if_neg c4] at H
      have c4b0 : decide (a0 < 1) = false := decide_eq_false c4
      clear c4
      (first | rw [c4b0] | (simp only [i64_w, i32_w]; rw [c4b0]) | skip)
      have H' := Aside0.mk H
      clear H
      go_wp2
      repeat (go_quiet (fail); try go_wp2)
      go_meet
      case rel => exact ⟨_, (decide (a0 > 9)), (by first | rfl | (simp; done) | (simp [*]; done) | (simp; exact beq_not_bne _ _)), H', ⟨by first | omega | exact Nat.le_refl _⟩, by repeat (first | exact Drawn0.refl _ | apply Drawn0.step)⟩
  case rest =>
    clear HC3
    try clear c1
    try clear p2
    try clear c3
    try clear c4
    try clear c4b0
    obtain ⟨kq, x11_2, rfl, HA, HJ2, ⟨mc2, rfl⟩⟩ := hcut
    cases kq with
    | zero => exact absurd HA.out (by simp [drovewayref04_Field.j0])
    | succ kj2 =>
      have H := HA.out
      clear HA
      simp only [drovewayref04_Field.j0] at H
      by_cases c5 : x11_2 = true
      · subst c5
        have H1 : (some 2) = some r := by rw [if_pos rfl] at H; exact H
        clear H
        have H := H1
        clear H1
        obtain rfl := Option.some.inj H
        go_wp2
        repeat (go_quiet (fail); try go_wp2)
        go_ret
        exact ⟨by first | rfl | (simp; done) | (simp [*]; done), by repeat (first | exact Drawn0.refl _ | apply Drawn0.step)⟩
      · replace c5 := Bool.eq_false_iff.mpr c5
        subst c5
        have H1 : (if (l1.length : Int) > 12 then (some 3) else (drovewayref04_Field.l0 kj2 a0 l1 0)) = some r := by rw [if_neg (show ¬ (false = true) by decide)] at H; exact H
        clear H
        have H := H1
        clear H1
        by_cases c6 : (l1.length : Int) > 12
        · rw [if_pos c6] at H
          have c6b0 : decide (12 < (l1.length : Int)) = true := decide_eq_true c6
          have c6b1 : decide (12 < l1.length) = true := decide_eq_true (by omega)
          clear c6
          obtain rfl := Option.some.inj H
          go_wp2
          repeat (go_quiet (fail); try go_wp2)
          go_ret
          exact ⟨by first | rfl | (simp; done) | (simp [*]; done), by repeat (first | exact Drawn0.refl _ | apply Drawn0.step)⟩
        · rw [if_neg c6] at H
          have c6b0 : decide (12 < (l1.length : Int)) = false := decide_eq_false c6
          have c6b1 : decide (12 < l1.length) = false := decide_eq_false (by omega)
          clear c6
          have H' := Aside0.mk H
          clear H
          go_wp2
          repeat (go_quiet (fail); try go_wp2)
          go_loopg [5] kj2 (fun kq v5 w' => ∃ (x5_2 : Int), v5 = .int .i64 x5_2 ∧ Aside0 (drovewayref04_Field.l0 kq a0 l1 x5_2 = some r) ∧ Aside0 (kq ≤ kj2) ∧ Drawn0 w w')
          case atStart => exact ⟨(0), (by first | rfl | (simp; done) | (simp [*]; done) | (simp; exact beq_not_bne _ _)), H', ⟨Nat.le_refl _⟩, by repeat (first | exact Drawn0.refl _ | apply Drawn0.step)⟩
          case round =>
            clear H'
            try clear c1
            try clear c2
            try clear p2
            try clear c3
            try clear c4
            try clear c4b0
            try clear c5
            try clear c6
            try clear c6b0
            try clear c6b1
            try clear p2
            obtain ⟨x5_2, rfl, HA, HK2, ⟨m2, rfl⟩⟩ := hrel
            cases gk with
            | zero => exact absurd HA.out (by simp [drovewayref04_Field.l0])
            | succ k2 =>
              have H := HA.out
              clear HA
              simp only [drovewayref04_Field.l0] at H
              by_cases c7 : x5_2 < (l1.length : Int)
              · rw [if_pos c7] at H
                have c7b0 : decide (x5_2 < (l1.length : Int)) = true := decide_eq_true c7
                clear c7
                by_cases c8 : 0 ≤ x5_2
                · rw [if_pos c8] at H
                  have c8b0 : decide (0 ≤ x5_2) = true := decide_eq_true c8
                  clear c8
                  by_cases c9 : (rd l1 x5_2) < 1
                  · rw [if_pos c9] at H
                    have c9b0 : decide ((rd l1 x5_2) < 1) = true := decide_eq_true c9
                    clear c9
                    obtain rfl := Option.some.inj H
                    have p101 : 0 ≤ (x5_2 : Int) := of_decide_eq_true (by first | (with_reducible assumption) | assumption)
                    have q101 : x5_2 < (l1.length : Int) := of_decide_eq_true (by first | (with_reducible assumption) | assumption)
                    obtain ⟨ad101, e101, hx101_0⟩ := Kd.at_int HR1.out x5_2 p101 q101
                    cases e101
                    replace p101 := eq_true p101
                    replace q101 := eq_true q101
                    go_wp2
                    repeat (go_quiet (fail); try go_wp2)
                    go_ret
                    exact ⟨by first | rfl | (simp; done) | (simp [*]; done), by repeat (first | exact Drawn0.refl _ | apply Drawn0.step)⟩
                  · rw [if_neg c9] at H
                    have c9b0 : decide ((rd l1 x5_2) < 1) = false := decide_eq_false c9
                    clear c9
                    by_cases c10 : 0 ≤ a0
                    · rw [if_pos c10] at H
                      have c10b0 := eq_true c10
                      have c10b1 : decide (0 ≤ a0) = true := decide_eq_true c10
                      clear c10
                      obtain ⟨ji11, hji11⟩ : ∃ j_ : Int, (shl .i64 1 a0) = j_ := ⟨_, rfl⟩
                      replace H : (if (rd l1 x5_2) ≥ (ji11) then (some 2) else (drovewayref04_Field.l0 k2 a0 l1 (wrap64 (x5_2 + 1)))) = some r := by first | (rw [hji11] at H; exact H) | (simp only [hji11] at H ⊢; exact H)
                      have hji11_ : (IntKind.i64.wrap (1 * 2 ^ min a0.toNat 64)) = ji11 := hji11
                      have hji11z : a0 ≤ 64 → (IntKind.i64.wrap (1 * 2 ^ a0.toNat)) = ji11 := shl_small hji11
                      have hji11u : (IntKind.i64.wrap (2 ^ min a0.toNat 64)) = ji11 := by have h_ := hji11_; rw [Int.one_mul] at h_; exact h_
                      have hji11v : a0 ≤ 64 → (IntKind.i64.wrap (2 ^ a0.toNat)) = ji11 := fun hle_ => by have h_ := hji11z hle_; rw [Int.one_mul] at h_; exact h_
                      have hji11y : (wrap64 (1 * 2 ^ min a0.toNat 64)) = ji11 := (i64_w _).symm.trans hji11_
                      have hji11x : a0 ≤ 64 → (wrap64 (1 * 2 ^ a0.toNat)) = ji11 := fun h_ => (i64_w _).symm.trans (hji11z h_)
                      by_cases c12 : (rd l1 x5_2) ≥ (ji11)
                      · rw [if_pos c12] at H
                        have c12b0 : decide ((ji11) ≤ (rd l1 x5_2)) = true := decide_eq_true c12
                        clear c12
                        obtain rfl := Option.some.inj H
                        have p101 : 0 ≤ (x5_2 : Int) := of_decide_eq_true (by first | (with_reducible assumption) | assumption)
                        have q101 : x5_2 < (l1.length : Int) := of_decide_eq_true (by first | (with_reducible assumption) | assumption)
                        obtain ⟨ad101, e101, hx101_0⟩ := Kd.at_int HR1.out x5_2 p101 q101
                        cases e101
                        replace p101 := eq_true p101
                        replace q101 := eq_true q101
                        have p102 : 0 ≤ (x5_2 : Int) := of_decide_eq_true (by first | (with_reducible assumption) | assumption)
                        have q102 : x5_2 < (l1.length : Int) := of_decide_eq_true (by first | (with_reducible assumption) | assumption)
                        obtain ⟨ad102, e102, hx102_0⟩ := Kd.at_int HR1.out x5_2 p102 q102
                        obtain rfl : ad101 = ad102 := (by injection e102)
                        replace p102 := eq_true p102
                        replace q102 := eq_true q102
                        go_wp2
                        repeat (go_quiet (fail); try go_wp2)
                        go_ret
                        exact ⟨by first | rfl | (simp; done) | (simp only [← hji11] <;> (first | rfl | simp)) | (simp [*]; done), by repeat (first | exact Drawn0.refl _ | apply Drawn0.step)⟩
                      · rw [if_neg c12] at H
                        have c12b0 : decide ((ji11) ≤ (rd l1 x5_2)) = false := decide_eq_false c12
                        clear c12
                        have H' := Aside0.mk H
                        clear H
                        have p101 : 0 ≤ (x5_2 : Int) := of_decide_eq_true (by first | (with_reducible assumption) | assumption)
                        have q101 : x5_2 < (l1.length : Int) := of_decide_eq_true (by first | (with_reducible assumption) | assumption)
                        obtain ⟨ad101, e101, hx101_0⟩ := Kd.at_int HR1.out x5_2 p101 q101
                        cases e101
                        replace p101 := eq_true p101
                        replace q101 := eq_true q101
                        have p102 : 0 ≤ (x5_2 : Int) := of_decide_eq_true (by first | (with_reducible assumption) | assumption)
                        have q102 : x5_2 < (l1.length : Int) := of_decide_eq_true (by first | (with_reducible assumption) | assumption)
                        obtain ⟨ad102, e102, hx102_0⟩ := Kd.at_int HR1.out x5_2 p102 q102
                        obtain rfl : ad101 = ad102 := (by injection e102)
                        replace p102 := eq_true p102
                        replace q102 := eq_true q102
                        go_wp2
                        repeat (go_quiet (fail); try go_wp2)
                        go_roundg k2
                        case measure => have := HJ2.out; have := HK2.out; omega
                        case rel => exact ⟨(wrap64 (x5_2 + 1)), (by first | rfl | (simp; done) | (simp [*]; done) | (simp; exact beq_not_bne _ _)), H', ⟨by have := HJ2.out; have := HK2.out; omega⟩, by repeat (first | exact Drawn0.refl _ | apply Drawn0.step)⟩
                    · rw [if_neg c10] at H
                      exact absurd H (by simp)
                · rw [if_neg c8] at H
                  exact absurd H (by simp)
              · rw [if_neg c7] at H
                have c7b0 : decide (x5_2 < (l1.length : Int)) = false := decide_eq_false c7
                clear c7
                obtain rfl := Option.some.inj H
                go_wp2
                repeat (go_quiet (fail); try go_wp2)
                go_ret
                exact ⟨by first | rfl | (simp; done) | (simp [*]; done), by repeat (first | exact Drawn0.refl _ | apply Drawn0.step)⟩

/-! ### drovewayref04_Placed: function 12 -/
def drovewayref04_Placed.l0 : Nat → Int → ByteArray → Int → Int → Int → Option (Int × Int × Int)
  | 0, _, _, _, _, _ => none
  | k + 1, x0, x2, x10, x11, x12 => if x12 < x0 then (if 0 ≤ x12 then (if x12 < (x2.size : Int) then (if (bt x2 x12) = 119 then (drovewayref04_Placed.l0 k x0 x2 (wrap64 (x10 + (shl .i64 1 x12))) x11 (wrap64 (x12 + 1))) else (if (bt x2 x12) = 100 then (drovewayref04_Placed.l0 k x0 x2 x10 (wrap64 (x11 + (shl .i64 1 x12))) (wrap64 (x12 + 1))) else (if (bt x2 x12) = 46 then (drovewayref04_Placed.l0 k x0 x2 x10 x11 (wrap64 (x12 + 1))) else (some (0, 0, 5))))) else (none)) else (none)) else (some (x10, x11, 0))
def drovewayref04_Placed.f (k : Nat) (a0 : Int) (l1 : List Int) (a2 : ByteArray) : Option (Int × Int × Int) := (drovewayref04_Field.f k a0 l1).bind fun t103 => (if t103 = 0 then (if (a2.size : Int) = a0 then (drovewayref04_Placed.l0 k a0 a2 0 0 0) else (some (0, 0, 5))) else (some (0, 0, t103)))
theorem drovewayref04_Placed.mono_l : ∀ k, (∀ y0 y1 y2 y3 y4, LeO (drovewayref04_Placed.l0 k y0 y1 y2 y3 y4) (drovewayref04_Placed.l0 (k + 1) y0 y1 y2 y3 y4))
  | 0 => fun _ _ _ _ _ r h => by simp [drovewayref04_Placed.l0] at h
  | k + 1 => by
    have ih0 := drovewayref04_Placed.mono_l k
    · intro y0 y1 y2 y3 y4
      unfold drovewayref04_Placed.l0
      repeat' first
      | (with_reducible exact ih0 _ _ _ _ _)
      | (with_reducible exact drovewayref04_Field.mono _ _ _)
      | (with_reducible exact LeO.refl _)
      | (with_reducible exact LeO.none _)
      | (with_reducible refine LeO.ite ?_ ?_)
      | (with_reducible refine LeO.bind ?_ (fun _ => ?_))
      | exact ih0 _ _ _ _ _
      | exact drovewayref04_Field.mono _ _ _
      | exact LeO.none _
      | refine LeO.ite ?_ ?_
      | refine LeO.bind ?_ (fun _ => ?_)
theorem drovewayref04_Placed.mono : ∀ a0 a1 a2 k, LeO (drovewayref04_Placed.f k a0 a1 a2) (drovewayref04_Placed.f (k + 1) a0 a1 a2) := by
  intro a0 a1 a2 k
  have ih0 := drovewayref04_Placed.mono_l k
  unfold drovewayref04_Placed.f
  repeat' first
      | (with_reducible exact ih0 _ _ _ _ _)
      | (with_reducible exact drovewayref04_Field.mono _ _ _)
      | (with_reducible exact LeO.refl _)
      | (with_reducible exact LeO.none _)
      | (with_reducible refine LeO.ite ?_ ?_)
      | (with_reducible refine LeO.bind ?_ (fun _ => ?_))
      | exact ih0 _ _ _ _ _
      | exact drovewayref04_Field.mono _ _ _
      | exact LeO.none _
      | refine LeO.ite ?_ ?_
      | refine LeO.bind ?_ (fun _ => ?_)
set_option maxHeartbeats 8000000 in
set_option maxRecDepth 100000 in
theorem drovewayref04_Placed.calls (k : Nat) (a0 : Int) (A1 : Option Addr) (c1 : Nat) (l1 : List Int) (a2 : ByteArray) (r1 : Int) (r2 : Int) (r3 : Int) (w : World) (hr1 : Kd.C (Kd.int .i64) w A1 l1.length l1) (hc1 : l1.length ≤ c1) (h : drovewayref04_Placed.f k a0 l1 a2 = some (r1, r2, r3)) :
    Calls Tryd.prog 12 #[.int .i64 a0, .slice A1 l1.length c1, .string a2] w fun e w' => e = .returned (.tuple #[.int .i64 r1, .int .i64 r2, .int .i64 r3]) ∧ Drawn0 w w' := by
  have HR1 := Aside0.mk hr1
  have HC1 := Aside0.mk hc1
  clear hr1 hc1
  have H : ((drovewayref04_Field.f k a0 l1).bind fun t103 => (if t103 = 0 then (if (a2.size : Int) = a0 then (drovewayref04_Placed.l0 k a0 a2 0 0 0) else (some (0, 0, 5))) else (some (0, 0, t103)))) = some (r1, r2, r3) := h
  clear h
  replace H := Option.bind_eq_some_iff.mp H
  obtain ⟨t103, A40, H⟩ := H
  replace H : (if t103 = 0 then (if (a2.size : Int) = a0 then (drovewayref04_Placed.l0 k a0 a2 0 0 0) else (some (0, 0, 5))) else (some (0, 0, t103))) = some (r1, r2, r3) := H
  have A4 := Aside0.mk A40
  clear A40
  by_cases c5 : t103 = 0
  · rw [if_pos c5] at H
    have c5b0 : (t103 == 0) = true := beq_iff_eq.mpr c5
    have c5b1 : (t103 != 0) = false := bne_eq_false_iff_eq.mpr c5
    clear c5
    by_cases c6 : (a2.size : Int) = a0
    · rw [if_pos c6] at H
      have c6b0 : ((a2.size : Int) == a0) = true := beq_iff_eq.mpr c6
      have c6b1 : ((a2.size : Int) != a0) = false := bne_eq_false_iff_eq.mpr c6
      clear c6
      have H' := Aside0.mk H
      clear H
      go_enter Tryd.func12, Tryd.ntmps12
      go_wp2_with (first | ((with_reducible refine gate_callee (f := 30) rfl ?_); refine goesL_ (some 15) rfl rfl Tryd.func30 (by kernel_rfl) rfl #[.int .i64 a0, .slice A1 l1.length c1] rfl (by (try simp only [List.map_toArray, List.map_cons, List.map_nil]); first | done | rfl | (simp only [List.length_drop, List.length_take]; rfl)) ?_; (with_reducible refine (drovewayref04_Field.calls k a0 _ _ l1 t103 _ ?side1 ?side2 A4.out).mono ?_); (case side1 => repeat (first | exact HR1.out | (with_reducible refine Kd.C_alloc ?_ _) | (with_reducible refine Kd.C_drewN ?_ _) | (with_reducible refine Kd.C_drew ?_))); (case side2 => exact HC1.out); rintro e w' ⟨rfl, ⟨nd, rfl⟩⟩; refine ⟨_, rfl, ?_⟩))
      go_loopg [10, 11, 12] k (fun kq v10 v11 v12 w' => ∃ (x10_1 : Int) (x11_1 : Int) (x12_1 : Int), v10 = .int .i64 x10_1 ∧ v11 = .int .i64 x11_1 ∧ v12 = .int .i64 x12_1 ∧ Aside0 (drovewayref04_Placed.l0 kq a0 a2 x10_1 x11_1 x12_1 = some (r1, r2, r3)) ∧ Aside0 (kq ≤ k) ∧ Drawn0 w w')
      case atStart => exact ⟨(0), (0), (0), (by first | rfl | (simp; done) | (simp [*]; done) | (simp; exact beq_not_bne _ _)), (by first | rfl | (simp; done) | (simp [*]; done)), (by first | rfl | (simp; done) | (simp [*]; done)), H', ⟨Nat.le_refl _⟩, by repeat (first | exact Drawn0.refl _ | apply Drawn0.step)⟩
      case round =>
        clear H'
        try clear c1
        try clear p2
        try clear c3
        try clear c5
        try clear c5b0
        try clear c5b1
        try clear c6
        try clear c6b0
        try clear c6b1
        obtain ⟨x10_1, x11_1, x12_1, rfl, rfl, rfl, HA, HK1, ⟨m1, rfl⟩⟩ := hrel
        cases gk with
        | zero => exact absurd HA.out (by simp [drovewayref04_Placed.l0])
        | succ k1 =>
          have H := HA.out
          clear HA
          simp only [drovewayref04_Placed.l0] at H
          by_cases c7 : x12_1 < a0
          · rw [if_pos c7] at H
            have c7b0 : decide (x12_1 < a0) = true := decide_eq_true c7
            clear c7
            by_cases c8 : 0 ≤ x12_1
            · rw [if_pos c8] at H
              have c8b0 : decide (0 ≤ x12_1) = true := decide_eq_true c8
              clear c8
              by_cases c9 : x12_1 < (a2.size : Int)
              · rw [if_pos c9] at H
                have c9b0 : decide (x12_1 < (a2.size : Int)) = true := decide_eq_true c9
                clear c9
                by_cases c11 : (bt a2 x12_1) = 119
                · rw [if_pos c11] at H
                  have c11b0 : ((bt a2 x12_1) == 119) = true := beq_iff_eq.mpr c11
                  have c11b1 : ((bt a2 x12_1) != 119) = false := bne_eq_false_iff_eq.mpr c11
                  clear c11
                  have c12b0 := eq_true (of_decide_eq_true (by first | (with_reducible assumption) | assumption) : 0 ≤ x12_1)
                  obtain ⟨ji13, hji13⟩ : ∃ j_ : Int, (shl .i64 1 x12_1) = j_ := ⟨_, rfl⟩
                  replace H : (drovewayref04_Placed.l0 k1 a0 a2 (wrap64 (x10_1 + (ji13))) x11_1 (wrap64 (x12_1 + 1))) = some (r1, r2, r3) := by first | (rw [hji13] at H; exact H) | (simp only [hji13] at H ⊢; exact H)
                  have hji13_ : (IntKind.i64.wrap (1 * 2 ^ min x12_1.toNat 64)) = ji13 := hji13
                  have hji13z : x12_1 ≤ 64 → (IntKind.i64.wrap (1 * 2 ^ x12_1.toNat)) = ji13 := shl_small hji13
                  have hji13u : (IntKind.i64.wrap (2 ^ min x12_1.toNat 64)) = ji13 := by have h_ := hji13_; rw [Int.one_mul] at h_; exact h_
                  have hji13v : x12_1 ≤ 64 → (IntKind.i64.wrap (2 ^ x12_1.toNat)) = ji13 := fun hle_ => by have h_ := hji13z hle_; rw [Int.one_mul] at h_; exact h_
                  have hji13y : (wrap64 (1 * 2 ^ min x12_1.toNat 64)) = ji13 := (i64_w _).symm.trans hji13_
                  have hji13x : x12_1 ≤ 64 → (wrap64 (1 * 2 ^ x12_1.toNat)) = ji13 := fun h_ => (i64_w _).symm.trans (hji13z h_)
                  have H' := Aside0.mk H
                  clear H
                  have p10 : 0 ≤ (x12_1 : Int) := of_decide_eq_true (by first | (with_reducible assumption) | assumption)
                  have q10 : x12_1 < (a2.size : Int) := of_decide_eq_true (by first | (with_reducible assumption) | assumption)
                  have hx10 := bt_at a2 x12_1
                  replace p10 := eq_true p10
                  replace q10 := eq_true q10
                  go_wp2
                  go_roundg k1
                  case measure => have := HK1.out; omega
                  case rel => exact ⟨(wrap64 (x10_1 + (ji13))), (x11_1), (wrap64 (x12_1 + 1)), (by first | rfl | (simp; done) | (simp only [← hji13] <;> (first | rfl | simp)) | (simp [*]; done)), (by first | rfl | (simp; done) | (simp [*]; done) | (simp; exact beq_not_bne _ _)), (by first | rfl | (simp; done) | (simp [*]; done)), H', ⟨by have := HK1.out; omega⟩, by repeat (first | exact Drawn0.refl _ | apply Drawn0.step)⟩
                · rw [if_neg c11] at H
                  have c11b0 : ((bt a2 x12_1) == 119) = false := beq_eq_false_iff_ne.mpr c11
                  have c11b1 : ((bt a2 x12_1) != 119) = true := bne_iff_ne.mpr c11
                  by_cases c14 : (bt a2 x12_1) = 100
                  · rw [if_pos c14] at H
                    have c14b0 : ((bt a2 x12_1) == 100) = true := beq_iff_eq.mpr c14
                    have c14b1 : ((bt a2 x12_1) != 100) = false := bne_eq_false_iff_eq.mpr c14
                    clear c14
                    have c15b0 := eq_true (of_decide_eq_true (by first | (with_reducible assumption) | assumption) : 0 ≤ x12_1)
                    obtain ⟨ji16, hji16⟩ : ∃ j_ : Int, (shl .i64 1 x12_1) = j_ := ⟨_, rfl⟩
                    replace H : (drovewayref04_Placed.l0 k1 a0 a2 x10_1 (wrap64 (x11_1 + (ji16))) (wrap64 (x12_1 + 1))) = some (r1, r2, r3) := by first | (rw [hji16] at H; exact H) | (simp only [hji16] at H ⊢; exact H)
                    have hji16_ : (IntKind.i64.wrap (1 * 2 ^ min x12_1.toNat 64)) = ji16 := hji16
                    have hji16z : x12_1 ≤ 64 → (IntKind.i64.wrap (1 * 2 ^ x12_1.toNat)) = ji16 := shl_small hji16
                    have hji16u : (IntKind.i64.wrap (2 ^ min x12_1.toNat 64)) = ji16 := by have h_ := hji16_; rw [Int.one_mul] at h_; exact h_
                    have hji16v : x12_1 ≤ 64 → (IntKind.i64.wrap (2 ^ x12_1.toNat)) = ji16 := fun hle_ => by have h_ := hji16z hle_; rw [Int.one_mul] at h_; exact h_
                    have hji16y : (wrap64 (1 * 2 ^ min x12_1.toNat 64)) = ji16 := (i64_w _).symm.trans hji16_
                    have hji16x : x12_1 ≤ 64 → (wrap64 (1 * 2 ^ x12_1.toNat)) = ji16 := fun h_ => (i64_w _).symm.trans (hji16z h_)
                    have H' := Aside0.mk H
                    clear H
                    have p10 : 0 ≤ (x12_1 : Int) := of_decide_eq_true (by first | (with_reducible assumption) | assumption)
                    have q10 : x12_1 < (a2.size : Int) := of_decide_eq_true (by first | (with_reducible assumption) | assumption)
                    have hx10 := bt_at a2 x12_1
                    replace p10 := eq_true p10
                    replace q10 := eq_true q10
                    go_wp2
                    go_roundg k1
                    case measure => have := HK1.out; omega
                    case rel => exact ⟨(x10_1), (wrap64 (x11_1 + (ji16))), (wrap64 (x12_1 + 1)), (by first | rfl | (simp; done) | (simp [*]; done) | (simp; exact beq_not_bne _ _)), (by first | rfl | (simp; done) | (simp only [← hji16] <;> (first | rfl | simp)) | (simp [*]; done)), (by first | rfl | (simp; done) | (simp [*]; done)), H', ⟨by have := HK1.out; omega⟩, by repeat (first | exact Drawn0.refl _ | apply Drawn0.step)⟩
                  · rw [if_neg c14] at H
                    have c14b0 : ((bt a2 x12_1) == 100) = false := beq_eq_false_iff_ne.mpr c14
                    have c14b1 : ((bt a2 x12_1) != 100) = true := bne_iff_ne.mpr c14
                    by_cases c17 : (bt a2 x12_1) = 46
                    · rw [if_pos c17] at H
                      have c17b0 : ((bt a2 x12_1) == 46) = true := beq_iff_eq.mpr c17
                      have c17b1 : ((bt a2 x12_1) != 46) = false := bne_eq_false_iff_eq.mpr c17
                      clear c17
                      have H' := Aside0.mk H
                      clear H
                      have p10 : 0 ≤ (x12_1 : Int) := of_decide_eq_true (by first | (with_reducible assumption) | assumption)
                      have q10 : x12_1 < (a2.size : Int) := of_decide_eq_true (by first | (with_reducible assumption) | assumption)
                      have hx10 := bt_at a2 x12_1
                      replace p10 := eq_true p10
                      replace q10 := eq_true q10
                      go_wp2
                      go_roundg k1
                      case measure => have := HK1.out; omega
                      case rel => exact ⟨(x10_1), (x11_1), (wrap64 (x12_1 + 1)), (by first | rfl | (simp; done) | (simp [*]; done) | (simp; exact beq_not_bne _ _)), (by first | rfl | (simp; done) | (simp [*]; done)), (by first | rfl | (simp; done) | (simp [*]; done)), H', ⟨by have := HK1.out; omega⟩, by repeat (first | exact Drawn0.refl _ | apply Drawn0.step)⟩
                    · rw [if_neg c17] at H
                      have c17b0 : ((bt a2 x12_1) == 46) = false := beq_eq_false_iff_ne.mpr c17
                      have c17b1 : ((bt a2 x12_1) != 46) = true := bne_iff_ne.mpr c17
                      simp only [Option.some.injEq, Prod.mk.injEq] at H
                      obtain ⟨rfl, rfl, rfl⟩ := H
                      have p10 : 0 ≤ (x12_1 : Int) := of_decide_eq_true (by first | (with_reducible assumption) | assumption)
                      have q10 : x12_1 < (a2.size : Int) := of_decide_eq_true (by first | (with_reducible assumption) | assumption)
                      have hx10 := bt_at a2 x12_1
                      replace p10 := eq_true p10
                      replace q10 := eq_true q10
                      go_wp2
                      go_ret3
                      exact ⟨by first | rfl | (simp; done) | (simp [*]; done), by repeat (first | exact Drawn0.refl _ | apply Drawn0.step)⟩
              · rw [if_neg c9] at H
                exact absurd H (by simp)
            · rw [if_neg c8] at H
              exact absurd H (by simp)
          · rw [if_neg c7] at H
            have c7b0 : decide (x12_1 < a0) = false := decide_eq_false c7
            clear c7
            simp only [Option.some.injEq, Prod.mk.injEq] at H
            obtain ⟨rfl, rfl, rfl⟩ := H
            go_wp2
            go_ret3
            exact ⟨by first | rfl | (simp; done) | (simp [*]; done), by repeat (first | exact Drawn0.refl _ | apply Drawn0.step)⟩
    · rw [if_neg c6] at H
      have c6b0 : ((a2.size : Int) == a0) = false := beq_eq_false_iff_ne.mpr c6
      have c6b1 : ((a2.size : Int) != a0) = true := bne_iff_ne.mpr c6
      simp only [Option.some.injEq, Prod.mk.injEq] at H
      obtain ⟨rfl, rfl, rfl⟩ := H
      go_enter Tryd.func12, Tryd.ntmps12
      go_wp2_with (first | ((with_reducible refine gate_callee (f := 30) rfl ?_); refine goesL_ (some 15) rfl rfl Tryd.func30 (by kernel_rfl) rfl #[.int .i64 a0, .slice A1 l1.length c1] rfl (by (try simp only [List.map_toArray, List.map_cons, List.map_nil]); first | done | rfl | (simp only [List.length_drop, List.length_take]; rfl)) ?_; (with_reducible refine (drovewayref04_Field.calls k a0 _ _ l1 t103 _ ?side1 ?side2 A4.out).mono ?_); (case side1 => repeat (first | exact HR1.out | (with_reducible refine Kd.C_alloc ?_ _) | (with_reducible refine Kd.C_drewN ?_ _) | (with_reducible refine Kd.C_drew ?_))); (case side2 => exact HC1.out); rintro e w' ⟨rfl, ⟨nd, rfl⟩⟩; refine ⟨_, rfl, ?_⟩))
      go_ret3
      exact ⟨by first | rfl | (simp; done) | (simp [*]; done), by repeat (first | exact Drawn0.refl _ | apply Drawn0.step)⟩
  · rw [if_neg c5] at H
    have c5b0 : (t103 == 0) = false := beq_eq_false_iff_ne.mpr c5
    have c5b1 : (t103 != 0) = true := bne_iff_ne.mpr c5
    simp only [Option.some.injEq, Prod.mk.injEq] at H
    obtain ⟨rfl, rfl, rfl⟩ := H
    go_enter Tryd.func12, Tryd.ntmps12
    go_wp2_with (first | ((with_reducible refine gate_callee (f := 30) rfl ?_); refine goesL_ (some 15) rfl rfl Tryd.func30 (by kernel_rfl) rfl #[.int .i64 a0, .slice A1 l1.length c1] rfl (by (try simp only [List.map_toArray, List.map_cons, List.map_nil]); first | done | rfl | (simp only [List.length_drop, List.length_take]; rfl)) ?_; (with_reducible refine (drovewayref04_Field.calls k a0 _ _ l1 t103 _ ?side1 ?side2 A4.out).mono ?_); (case side1 => repeat (first | exact HR1.out | (with_reducible refine Kd.C_alloc ?_ _) | (with_reducible refine Kd.C_drewN ?_ _) | (with_reducible refine Kd.C_drew ?_))); (case side2 => exact HC1.out); rintro e w' ⟨rfl, ⟨nd, rfl⟩⟩; refine ⟨_, rfl, ?_⟩))
    go_ret3
    exact ⟨by first | rfl | (simp; done) | (simp [*]; done), by repeat (first | exact Drawn0.refl _ | apply Drawn0.step)⟩

-- by hand: function 13 (drovewaylaw04_placed)

end Go.Proofs.YtbjpjjokamaliaaDoor.PAmbushMoves
