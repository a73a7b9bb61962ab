/- FeudsSides holds: its code returns true and leaves what it was given as it was. Conditions: those of the given statement, none besides. -/
import Derived.Test.YtaegldcifhgnmaaZSi1
import Derived.Test.YtaegldcifhgnmaaProg
import Derived.Below
import Derived.Deep.Draws
import Derived.Deep.AppendLies
import Derived.Maps.AppendAt
import Derived.OwnWalk
import Derived.Laws.BytesArg
import Derived.Laws.MakeOwn
import Derived.Laws.OwnMore
import Derived.Deep.OwnRows
import Derived.Tactics
import Derived.Lib.ConvBytes
import Derived.Laws.Slices
import Derived.WalkKit
import Derived.KernelRfl
import Derived.RowKit3
import Derived.Deep.LoopGhost
import Derived.Deep.QuietTactic
import Derived.BigQuiet
import Derived.WideLaws
import Derived.Deep.DeepCutAuto
import Derived.Deep.CutBlock
import Derived.Deep.RegionHeld3
import Derived.Laws.Rows
import Derived.Lib.AppendStr
import Derived.ArgAppend
import Derived.Laws.IdiomCopy
import Derived.OrdersHeld
import Derived.Laws.BitsLemmas
import Derived.RowKit
import Derived.Test.YtaegldcifhgnmaaWWords
import Derived.Test.YtaegldcifhgnmaaWLast
import Derived.Test.YtaegldcifhgnmaaWTab
import Derived.Test.YtaegldcifhgnmaaWFour
import Derived.Test.YtaegldcifhgnmaaWQPut
import Derived.Test.YtaegldcifhgnmaaWApart
import Derived.Test.YtaegldcifhgnmaaWArr
import Derived.Test.YtaegldcifhgnmaaWZeros
import Derived.Test.YtaegldcifhgnmaaWFoot
import Derived.Test.YtaegldcifhgnmaaWKept
import Derived.Test.YtaegldcifhgnmaaWShare
import Derived.Test.YtaegldcifhgnmaaWN
import Derived.Test.YtaegldcifhgnmaaWFootNe
import Derived.Test.YtaegldcifhgnmaaWAt
import Derived.Test.YtaegldcifhgnmaaWEqStruct
import Derived.Test.YtaegldcifhgnmaaWRepsOne
import Derived.Test.YtaegldcifhgnmaaWInv
import Derived.Test.YtaegldcifhgnmaaWInvWords
import Derived.Test.YtaegldcifhgnmaaWGuard
import Derived.Test.YtaegldcifhgnmaaWNEv
import Derived.Test.YtaegldcifhgnmaaWMore
import Derived.Deep.Slices
import Derived.ChangeSame
import Derived.Test.YtaegldcifhgnmaaRows
import Derived.ProofKit
import Derived.OpenShut
import Derived.ShutString
import Derived.ChangeOld
import Derived.SizedLaws
import Derived.Test.YtaegldcifhgnmaaWSized
/- Ties that are the same (plain). -/
namespace Go.Proofs.Ytaegldcifhgnmaa.B
open Go.Proofs.Ytaegldcifhgnmaa.A
open Go.RowKit Go.Proofs.YtaegldcifhgnmaaW.PrintWords Go.Proofs.YtaegldcifhgnmaaW.PrintMore
theorem tiesL_l0 (l : List S39) (hl : l.length ≤ 140737488351232) : ∀ n i, l.length - i = n → i ≤ l.length → Ev (fun k => drovewaylaw09_ties.l0 k l l (i : Int)) true := by
  intro n
  induction n with
  | zero =>
    intro i hn hi
    refine Ev.step (f := fun _ => some true) (fun k => ?_) (Ev.now _)
    rw [drovewaylaw09_ties.l0, if_neg (by omega)]
  | succ n ih =>
    intro i hn hi
    refine Ev.step (fun k => ?_) (ih (i + 1) (by omega) (by omega))
    rw [drovewaylaw09_ties.l0, if_pos (by omega), if_pos (by omega), if_pos (by omega), if_neg (by simp), wrapS (show i < l.length by omega) hl]
theorem tiesL_ev {l l' : List S39} (hl : l.length ≤ 140737488351232) (h : l = l') : Ev (fun k => drovewaylaw09_ties.f k l l') true := by
  subst h
  refine Ev.congr (fun k => ?_) (tiesL_l0 l hl _ 0 rfl (Nat.zero_le _))
  unfold drovewaylaw09_ties.f
  rw [if_pos rfl]
  rfl
end Go.Proofs.Ytaegldcifhgnmaa.B

/- The reference's rings as they are judged, as the kit's print writes them. -/
namespace Go.Proofs.Ytaegldcifhgnmaa.B
open Go.Proofs.Ytaegldcifhgnmaa.A
open Go.RowKit Go.Proofs.YtaegldcifhgnmaaW.PrintWords Go.Proofs.YtaegldcifhgnmaaW.PrintLast Go.Proofs.YtaegldcifhgnmaaW.PrintMore
section
attribute [local go_sem] max2_int min2_int max_two min_two max_three min_three max_four min_four   -- for this text's walks alone
set_option linter.unusedVariables false
set_option linter.unusedSimpArgs false
/-! ### drovewayref09_Less: function 41 -/
mutual
def drovewayref09_Less.l0 : Nat → List Int → List Int → Int → Option (Bool)
  | 0, _, _, _ => none
  | k + 1, x0, x1, x5 => if x5 < (x0.length : Int) then (drovewayref09_Less.j1 k x0 x1 x5 (decide (x5 < (x1.length : Int)))) else (drovewayref09_Less.j1 k x0 x1 x5 false)
def drovewayref09_Less.j1 : Nat → List Int → List Int → Int → Bool → Option (Bool)
  | 0, _, _, _, _ => none
  | k + 1, x0, x1, x5, x15 => if x15 = true then (if 0 ≤ x5 then (if x5 < (x0.length : Int) then (if x5 < (x1.length : Int) then (if (rd x0 x5) = (rd x1 x5) then (drovewayref09_Less.l0 k x0 x1 (wrap64 (x5 + 1))) else (some (decide ((rd x0 x5) < (rd x1 x5))))) else (none)) else (none)) else (none)) else (some (decide ((x0.length : Int) < (x1.length : Int))))
end
def drovewayref09_Less.f (k : Nat) (l0 : List Int) (l1 : List Int) : Option (Bool) := drovewayref09_Less.l0 k l0 l1 0
theorem drovewayref09_Less.mono_l : ∀ k, (∀ y0 y1 y2, LeO (drovewayref09_Less.l0 k y0 y1 y2) (drovewayref09_Less.l0 (k + 1) y0 y1 y2)) ∧ (∀ y0 y1 y2 y3, LeO (drovewayref09_Less.j1 k y0 y1 y2 y3) (drovewayref09_Less.j1 (k + 1) y0 y1 y2 y3))
  | 0 => ⟨fun _ _ _ r h => by simp [drovewayref09_Less.l0] at h, fun _ _ _ _ r h => by simp [drovewayref09_Less.j1] at h⟩
  | k + 1 => by
    obtain ⟨ih0, ih1⟩ := drovewayref09_Less.mono_l k
    refine ⟨?_, ?_⟩
    · intro y0 y1 y2
      unfold drovewayref09_Less.l0
      repeat' first
      | (with_reducible exact ih0 _ _ _)
      | (with_reducible exact ih1 _ _ _ _)
      | (with_reducible exact LeO.refl _)
      | (with_reducible exact LeO.none _)
      | (with_reducible refine LeO.ite ?_ ?_)
      | (with_reducible refine LeO.bind ?_ (fun _ => ?_))
      | exact ih0 _ _ _
      | exact ih1 _ _ _ _
      | exact LeO.none _
      | refine LeO.ite ?_ ?_
      | refine LeO.bind ?_ (fun _ => ?_)
    · intro y0 y1 y2 y3
      unfold drovewayref09_Less.j1
      repeat' first
      | (with_reducible exact ih0 _ _ _)
      | (with_reducible exact ih1 _ _ _ _)
      | (with_reducible exact LeO.refl _)
      | (with_reducible exact LeO.none _)
      | (with_reducible refine LeO.ite ?_ ?_)
      | (with_reducible refine LeO.bind ?_ (fun _ => ?_))
      | exact ih0 _ _ _
      | exact ih1 _ _ _ _
      | exact LeO.none _
      | refine LeO.ite ?_ ?_
      | refine LeO.bind ?_ (fun _ => ?_)
theorem drovewayref09_Less.mono : ∀ a0 a1 k, LeO (drovewayref09_Less.f k a0 a1) (drovewayref09_Less.f (k + 1) a0 a1) := by
  intro a0 a1 k
  obtain ⟨ih0, ih1⟩ := drovewayref09_Less.mono_l k
  unfold drovewayref09_Less.f
  repeat' first
      | (with_reducible exact ih0 _ _ _)
      | (with_reducible exact ih1 _ _ _ _)
      | (with_reducible exact LeO.refl _)
      | (with_reducible exact LeO.none _)
      | (with_reducible refine LeO.ite ?_ ?_)
      | (with_reducible refine LeO.bind ?_ (fun _ => ?_))
      | exact ih0 _ _ _
      | exact ih1 _ _ _ _
      | exact LeO.none _
      | refine LeO.ite ?_ ?_
      | refine LeO.bind ?_ (fun _ => ?_)
set_option maxHeartbeats 8000000 in
set_option maxRecDepth 100000 in
theorem drovewayref09_Less.calls (k : Nat) (A0 : Option Addr) (c0 : Nat) (l0 : List Int) (A1 : Option Addr) (c1 : Nat) (l1 : List Int) (r : Bool) (w : World) (hr0 : Kd.C (Kd.int .i64) w A0 l0.length l0) (hc0 : l0.length ≤ c0) (hr1 : Kd.C (Kd.int .i64) w A1 l1.length l1) (hc1 : l1.length ≤ c1) (h : drovewayref09_Less.f k l0 l1 = some r) :
    Calls Try.prog 41 #[.slice A0 l0.length c0, .slice A1 l1.length c1] w fun e w' => e = .returned (.bool r) ∧ Drawn0 w w' := by
  have HR0 := Aside0.mk hr0
  have HC0 := Aside0.mk hc0
  clear hr0 hc0
  have HR1 := Aside0.mk hr1
  have HC1 := Aside0.mk hc1
  clear hr1 hc1
  have H : (drovewayref09_Less.l0 k l0 l1 0) = some r := h
  clear h
  have H' := Aside0.mk H
  clear H
  go_enter Try.func41, Try.ntmps41
  go_wp2
  repeat (go_quiet (fail); try go_wp2)
  go_loopg [5] k (fun kq v5 w' => ∃ (x5_1 : Int), v5 = .int .i64 x5_1 ∧ Aside0 (drovewayref09_Less.l0 kq l0 l1 x5_1 = some r) ∧ Aside0 (kq ≤ k) ∧ Drawn0 w w')
  case atStart => exact ⟨(0), (by first | rfl | (simp; done) | (simp [*]; done)), H', ⟨Nat.le_refl _⟩, by repeat (first | exact Drawn0.refl _ | apply Drawn0.step)⟩
  case round =>
    clear H'
    try clear c1
    try clear p2
    obtain ⟨x5_1, rfl, HA, HK1, ⟨m1, rfl⟩⟩ := hrel
    cases gk with
    | zero => exact absurd HA.out (by simp [drovewayref09_Less.l0])
    | succ k1 =>
      have H := HA.out
      clear HA
      simp only [drovewayref09_Less.l0] at H
      have HC3 := Aside0.mk H
      clear H
      go_upto_region 2 with (fail)
      repeat (go_quiet (fail); go_upto_region 2 with (fail))
      go_cut [15] (fun v15 wc => ∃ (kq : Nat) (x15_2 : Bool), v15 = .bool x15_2 ∧ Aside0 (drovewayref09_Less.j1 kq l0 l1 x5_1 x15_2 = some r) ∧ Aside0 (kq ≤ k1) ∧ Drawn0 w wc)
      case first =>
        have H := HC3.out
        clear HC3
        by_cases c4 : x5_1 < (l0.length : Int)
        · rw [if_pos c4] at H
          have c4b0 : decide (x5_1 < (l0.length : Int)) = true := decide_eq_true c4
          clear c4
          (first | rw [c4b0] | (simp only [i64_w, i32_w]; rw [c4b0]) | skip)
          have H' := Aside0.mk H
          clear H
          go_wp2
          repeat (go_quiet (fail); try go_wp2)
          go_meet
          case rel => exact ⟨_, (decide (x5_1 < (l1.length : Int))), (by first | rfl | (simp; done) | (simp [*]; done)), H', ⟨by have := HK1.out; first | omega | exact Nat.le_refl _⟩, by repeat (first | exact Drawn0.refl _ | apply Drawn0.step)⟩
        · rw [if_neg c4] at H
          have c4b0 : decide (x5_1 < (l0.length : Int)) = false := decide_eq_false c4
          clear c4
          (first | rw [c4b0] | (simp only [i64_w, i32_w]; rw [c4b0]) | skip)
          have H' := Aside0.mk H
          clear H
          go_wp2
          repeat (go_quiet (fail); try go_wp2)
          go_meet
          case rel => exact ⟨_, (false), (by first | rfl | (simp; done) | (simp [*]; done)), H', ⟨by have := HK1.out; first | omega | exact Nat.le_refl _⟩, by repeat (first | exact Drawn0.refl _ | apply Drawn0.step)⟩
      case rest =>
        clear HC3
        try clear c1
        try clear p2
        try clear c4
        try clear c4b0
        try clear p2
        obtain ⟨kq, x15_2, rfl, HA, HJ2, ⟨mc2, rfl⟩⟩ := hcut
        cases kq with
        | zero => exact absurd HA.out (by simp [drovewayref09_Less.j1])
        | succ kj2 =>
          have H := HA.out
          clear HA
          simp only [drovewayref09_Less.j1] at H
          by_cases c5 : x15_2 = true
          · subst c5
            have H1 : (if 0 ≤ x5_1 then (if x5_1 < (l0.length : Int) then (if x5_1 < (l1.length : Int) then (if (rd l0 x5_1) = (rd l1 x5_1) then (drovewayref09_Less.l0 kj2 l0 l1 (wrap64 (x5_1 + 1))) else (some (decide ((rd l0 x5_1) < (rd l1 x5_1))))) else (none)) else (none)) else (none)) = some r := by rw [if_pos rfl] at H; exact H
            clear H
            have H := H1
            clear H1
            by_cases c6 : 0 ≤ x5_1
            · rw [if_pos c6] at H
              have c6b0 : decide (0 ≤ x5_1) = true := decide_eq_true c6
              clear c6
              by_cases c7 : x5_1 < (l0.length : Int)
              · rw [if_pos c7] at H
                have c7b0 : decide (x5_1 < (l0.length : Int)) = true := decide_eq_true c7
                clear c7
                by_cases c8 : x5_1 < (l1.length : Int)
                · rw [if_pos c8] at H
                  have c8b0 : decide (x5_1 < (l1.length : Int)) = true := decide_eq_true c8
                  clear c8
                  by_cases c9 : (rd l0 x5_1) = (rd l1 x5_1)
                  · rw [if_pos c9] at H
                    have c9b0 : ((rd l0 x5_1) == (rd l1 x5_1)) = true := beq_iff_eq.mpr c9
                    have c9b1 : ((rd l0 x5_1) != (rd l1 x5_1)) = false := bne_eq_false_iff_eq.mpr c9
                    clear c9
                    have H' := Aside0.mk H
                    clear H
                    have p174 : 0 ≤ (x5_1 : Int) := of_decide_eq_true (by first | (with_reducible assumption) | assumption)
                    have q174 : x5_1 < (l0.length : Int) := of_decide_eq_true (by first | (with_reducible assumption) | assumption)
                    obtain ⟨ad174, e174, hx174_0⟩ := Kd.at_int HR0.out x5_1 p174 q174
                    cases e174
                    replace p174 := eq_true p174
                    replace q174 := eq_true q174
                    have p175 : 0 ≤ (x5_1 : Int) := of_decide_eq_true (by first | (with_reducible assumption) | assumption)
                    have q175 : x5_1 < (l1.length : Int) := of_decide_eq_true (by first | (with_reducible assumption) | assumption)
                    obtain ⟨ad175, e175, hx175_0⟩ := Kd.at_int HR1.out x5_1 p175 q175
                    cases e175
                    replace p175 := eq_true p175
                    replace q175 := eq_true q175
                    go_wp2
                    repeat (go_quiet (fail); try go_wp2)
                    go_roundg kj2
                    case measure => have := HK1.out; have := HJ2.out; omega
                    case rel => exact ⟨(wrap64 (x5_1 + 1)), (by first | rfl | (simp; done) | (simp [*]; done)), H', ⟨by have := HK1.out; have := HJ2.out; omega⟩, by repeat (first | exact Drawn0.refl _ | apply Drawn0.step)⟩
                  · rw [if_neg c9] at H
                    have c9b0 : ((rd l0 x5_1) == (rd l1 x5_1)) = false := beq_eq_false_iff_ne.mpr c9
                    have c9b1 : ((rd l0 x5_1) != (rd l1 x5_1)) = true := bne_iff_ne.mpr c9
                    obtain rfl := Option.some.inj H
                    have p174 : 0 ≤ (x5_1 : Int) := of_decide_eq_true (by first | (with_reducible assumption) | assumption)
                    have q174 : x5_1 < (l0.length : Int) := of_decide_eq_true (by first | (with_reducible assumption) | assumption)
                    obtain ⟨ad174, e174, hx174_0⟩ := Kd.at_int HR0.out x5_1 p174 q174
                    cases e174
                    replace p174 := eq_true p174
                    replace q174 := eq_true q174
                    have p175 : 0 ≤ (x5_1 : Int) := of_decide_eq_true (by first | (with_reducible assumption) | assumption)
                    have q175 : x5_1 < (l1.length : Int) := of_decide_eq_true (by first | (with_reducible assumption) | assumption)
                    obtain ⟨ad175, e175, hx175_0⟩ := Kd.at_int HR1.out x5_1 p175 q175
                    cases e175
                    replace p175 := eq_true p175
                    replace q175 := eq_true q175
                    have p176 : 0 ≤ (x5_1 : Int) := of_decide_eq_true (by first | (with_reducible assumption) | assumption)
                    have q176 : x5_1 < (l0.length : Int) := of_decide_eq_true (by first | (with_reducible assumption) | assumption)
                    obtain ⟨ad176, e176, hx176_0⟩ := Kd.at_int HR0.out x5_1 p176 q176
                    obtain rfl : ad174 = ad176 := (by injection e176)
                    replace p176 := eq_true p176
                    replace q176 := eq_true q176
                    have p177 : 0 ≤ (x5_1 : Int) := of_decide_eq_true (by first | (with_reducible assumption) | assumption)
                    have q177 : x5_1 < (l1.length : Int) := of_decide_eq_true (by first | (with_reducible assumption) | assumption)
                    obtain ⟨ad177, e177, hx177_0⟩ := Kd.at_int HR1.out x5_1 p177 q177
                    obtain rfl : ad175 = ad177 := (by injection e177)
                    replace p177 := eq_true p177
                    replace q177 := eq_true q177
                    go_wp2
                    repeat (go_quiet (fail); try go_wp2)
                    go_ret
                    exact ⟨by first | rfl | (simp; done) | (simp [*]; done), by repeat (first | exact Drawn0.refl _ | apply Drawn0.step)⟩
                · rw [if_neg c8] at H
                  exact absurd H (by simp)
              · rw [if_neg c7] at H
                exact absurd H (by simp)
            · rw [if_neg c6] at H
              exact absurd H (by simp)
          · replace c5 := Bool.eq_false_iff.mpr c5
            subst c5
            have H1 : (some (decide ((l0.length : Int) < (l1.length : Int)))) = some r := by rw [if_neg (show ¬ (false = true) by decide)] at H; exact H
            clear H
            have H := H1
            clear H1
            obtain rfl := Option.some.inj H
            go_wp2
            repeat (go_quiet (fail); try go_wp2)
            go_ret
            exact ⟨by first | rfl | (simp; done) | (simp [*]; done), by repeat (first | exact Drawn0.refl _ | apply Drawn0.step)⟩

/-! ### drovewayref09_other: function 88 -/
def drovewayref09_other.f (a0_0 : Int) (a0_1 : Int) (a0_2 : Bool) (a1 : Int) : Option (Int) := if a0_0 = a1 then (some a0_1) else (if a0_1 = a1 then (some a0_0) else (some (-1)))
set_option maxHeartbeats 8000000 in
set_option maxRecDepth 100000 in
theorem drovewayref09_other.calls (a0_0 : Int) (a0_1 : Int) (a0_2 : Bool) (a1 : Int) (r : Int) (w : World) (h : drovewayref09_other.f a0_0 a0_1 a0_2 a1 = some r) :
    Calls Try.prog 88 #[.agg #[.int .i64 a0_0, .int .i64 a0_1, .bool a0_2], .int .i64 a1] w fun e w' => e = .returned (.int .i64 r) ∧ Below w.heap.size w w' := by
  have hu39 := Try.underlying39
  have HB := Aside0.mk (Below.refl w.heap.size w)
  have H : (if a0_0 = a1 then (some a0_1) else (if a0_1 = a1 then (some a0_0) else (some (-1)))) = some r := h
  clear h
  by_cases c3 : a0_0 = a1
  · rw [if_pos c3] at H
    have c3b0 : (a0_0 == a1) = true := beq_iff_eq.mpr c3
    have c3b1 : (a0_0 != a1) = false := bne_eq_false_iff_eq.mpr c3
    clear c3
    obtain rfl := Option.some.inj H
    go_enter Try.func88, Try.ntmps88
    go_wp2_with (first | ((with_reducible refine gate_dst (N := 2) rfl ?_); refine box_event ?hg (N := 2) ?hd (cs := #[.int .i64 a0_0, .int .i64 a0_1, .bool a0_2]) (t := 39) ?hr ?_; (case hd => rfl); (case hg => rfl); (case hr => first | (go_simp; done) | (go_simp; rfl)); intro gb178 hg w4 hbox hb; have n0_ := Aside0.mk (below_step (by repeat (first | (with_reducible first | exact HB.out | apply below_alloc | apply pw_below_drewN | apply below_drew1) | exact HB.out)) hb); have n1_ := Aside0.mk (hbox); have n2_ := Aside0.mk ((by rw [hg]; exact (below_size (by repeat (first | (with_reducible first | exact HB.out | apply below_alloc | apply pw_below_drewN | apply below_drew1) | exact HB.out))) : w.heap.size ≤ gb178)); have n3_ := Aside0.mk ((by rw [hg]; exact (below_size (by repeat (first | (with_reducible first | exact HB.out | apply below_alloc | apply pw_below_drewN | apply below_drew1) | exact HB.out))) : w.heap.size ≤ gb178)); clear HB; have HB := n0_; have BK178 := n1_; have GW178 := n2_; have GE178 := n3_; clear n0_ n1_ n2_ n3_; clear hb hbox hg; have hcz5_0 : w4.cell? ⟨gb178, 0, none⟩ = some (.int .i64 a0_0) := (blk_cell BK178.out 0).trans rfl; have hcz5_1 : w4.cell? ⟨gb178, 1, none⟩ = some (.int .i64 a0_1) := (blk_cell BK178.out 1).trans rfl; have hcz5_2 : w4.cell? ⟨gb178, 2, none⟩ = some (.bool a0_2) := (blk_cell BK178.out 2).trans rfl; have hfz5_0 := blk_frozen BK178.out 0; have hfz5_1 := blk_frozen BK178.out 1; have hfz5_2 := blk_frozen BK178.out 2))
    go_ret
    exact ⟨by first | rfl | (simp [errW_none, errW_some] <;> rfl) | (simp [*, errW_none, errW_some] <;> rfl), by repeat (first | (with_reducible first | exact HB.out | apply below_alloc | apply pw_below_drewN | apply below_drew1 | refine below_set ?_ GE178.out) | exact HB.out)⟩
  · rw [if_neg c3] at H
    have c3b0 : (a0_0 == a1) = false := beq_eq_false_iff_ne.mpr c3
    have c3b1 : (a0_0 != a1) = true := bne_iff_ne.mpr c3
    by_cases c6 : a0_1 = a1
    · rw [if_pos c6] at H
      have c6b0 : (a0_1 == a1) = true := beq_iff_eq.mpr c6
      have c6b1 : (a0_1 != a1) = false := bne_eq_false_iff_eq.mpr c6
      clear c6
      obtain rfl := Option.some.inj H
      go_enter Try.func88, Try.ntmps88
      go_wp2_with (first | ((with_reducible refine gate_dst (N := 2) rfl ?_); refine box_event ?hg (N := 2) ?hd (cs := #[.int .i64 a0_0, .int .i64 a0_1, .bool a0_2]) (t := 39) ?hr ?_; (case hd => rfl); (case hg => rfl); (case hr => first | (go_simp; done) | (go_simp; rfl)); intro gb178 hg w7 hbox hb; have n0_ := Aside0.mk (below_step (by repeat (first | (with_reducible first | exact HB.out | apply below_alloc | apply pw_below_drewN | apply below_drew1) | exact HB.out)) hb); have n1_ := Aside0.mk (hbox); have n2_ := Aside0.mk ((by rw [hg]; exact (below_size (by repeat (first | (with_reducible first | exact HB.out | apply below_alloc | apply pw_below_drewN | apply below_drew1) | exact HB.out))) : w.heap.size ≤ gb178)); have n3_ := Aside0.mk ((by rw [hg]; exact (below_size (by repeat (first | (with_reducible first | exact HB.out | apply below_alloc | apply pw_below_drewN | apply below_drew1) | exact HB.out))) : w.heap.size ≤ gb178)); clear HB; have HB := n0_; have BK178 := n1_; have GW178 := n2_; have GE178 := n3_; clear n0_ n1_ n2_ n3_; clear hb hbox hg; have hcz8_0 : w7.cell? ⟨gb178, 0, none⟩ = some (.int .i64 a0_0) := (blk_cell BK178.out 0).trans rfl; have hcz8_1 : w7.cell? ⟨gb178, 1, none⟩ = some (.int .i64 a0_1) := (blk_cell BK178.out 1).trans rfl; have hcz8_2 : w7.cell? ⟨gb178, 2, none⟩ = some (.bool a0_2) := (blk_cell BK178.out 2).trans rfl; have hfz8_0 := blk_frozen BK178.out 0; have hfz8_1 := blk_frozen BK178.out 1; have hfz8_2 := blk_frozen BK178.out 2))
      go_ret
      exact ⟨by first | rfl | (simp [errW_none, errW_some] <;> rfl) | (simp [*, errW_none, errW_some] <;> rfl), by repeat (first | (with_reducible first | exact HB.out | apply below_alloc | apply pw_below_drewN | apply below_drew1 | refine below_set ?_ GE178.out) | exact HB.out)⟩
    · rw [if_neg c6] at H
      have c6b0 : (a0_1 == a1) = false := beq_eq_false_iff_ne.mpr c6
      have c6b1 : (a0_1 != a1) = true := bne_iff_ne.mpr c6
      obtain rfl := Option.some.inj H
      go_enter Try.func88, Try.ntmps88
      go_wp2_with (first | ((with_reducible refine gate_dst (N := 2) rfl ?_); refine box_event ?hg (N := 2) ?hd (cs := #[.int .i64 a0_0, .int .i64 a0_1, .bool a0_2]) (t := 39) ?hr ?_; (case hd => rfl); (case hg => rfl); (case hr => first | (go_simp; done) | (go_simp; rfl)); intro gb178 hg w9 hbox hb; have n0_ := Aside0.mk (below_step (by repeat (first | (with_reducible first | exact HB.out | apply below_alloc | apply pw_below_drewN | apply below_drew1) | exact HB.out)) hb); have n1_ := Aside0.mk (hbox); have n2_ := Aside0.mk ((by rw [hg]; exact (below_size (by repeat (first | (with_reducible first | exact HB.out | apply below_alloc | apply pw_below_drewN | apply below_drew1) | exact HB.out))) : w.heap.size ≤ gb178)); have n3_ := Aside0.mk ((by rw [hg]; exact (below_size (by repeat (first | (with_reducible first | exact HB.out | apply below_alloc | apply pw_below_drewN | apply below_drew1) | exact HB.out))) : w.heap.size ≤ gb178)); clear HB; have HB := n0_; have BK178 := n1_; have GW178 := n2_; have GE178 := n3_; clear n0_ n1_ n2_ n3_; clear hb hbox hg; have hcz10_0 : w9.cell? ⟨gb178, 0, none⟩ = some (.int .i64 a0_0) := (blk_cell BK178.out 0).trans rfl; have hcz10_1 : w9.cell? ⟨gb178, 1, none⟩ = some (.int .i64 a0_1) := (blk_cell BK178.out 1).trans rfl; have hcz10_2 : w9.cell? ⟨gb178, 2, none⟩ = some (.bool a0_2) := (blk_cell BK178.out 2).trans rfl; have hfz10_0 := blk_frozen BK178.out 0; have hfz10_1 := blk_frozen BK178.out 1; have hfz10_2 := blk_frozen BK178.out 2))
      go_ret
      exact ⟨by first | rfl | (simp [errW_none, errW_some] <;> rfl) | (simp [*, errW_none, errW_some] <;> rfl), by repeat (first | (with_reducible first | exact HB.out | apply below_alloc | apply pw_below_drewN | apply below_drew1 | refine below_set ?_ GE178.out) | exact HB.out)⟩

/-! ### drovewayref09_walked: function 81 -/
mutual
def drovewayref09_walked.l0 : Nat → List (S39) → List Int → Int → Int → Int → Int → Int → Option (Int × Bool)
  | 0, _, _, _, _, _, _, _ => none
  | k + 1, x0, x1, x2, x8, x9, x10, x11 => if x11 < (x1.length : Int) then (if 0 ≤ x11 then (if 0 ≤ (rd x1 x11) then (if (rd x1 x11) < (x0.length : Int) then ((drovewayref09_other.f ((rd_T39 x0 (rd x1 x11)).f0) ((rd_T39 x0 (rd x1 x11)).f1) ((rd_T39 x0 (rd x1 x11)).f2) x8).bind fun t181 => (if t181 < 0 then (drovewayref09_walked.j1 k x0 x1 x2 x9 x10 x11 t181 true) else (if 0 ≤ t181 then (drovewayref09_walked.j1 k x0 x1 x2 x9 x10 x11 t181 ((Int.tmod (shr .i64 x9 t181) 2) == 1)) else (none)))) else (none)) else (none)) else (none)) else (some (x10, (x8 == x2)))
def drovewayref09_walked.j1 : Nat → List (S39) → List Int → Int → Int → Int → Int → Int → Bool → Option (Int × Bool)
  | 0, _, _, _, _, _, _, _, _ => none
  | k + 1, x0, x1, x2, x9, x10, x11, x12, x37 => if x37 = true then (some (0, false)) else (if 0 ≤ x12 then (if 0 ≤ x11 then (if x11 < (x1.length : Int) then (if 0 ≤ (rd x1 x11) then (if (rd x1 x11) < (x0.length : Int) then (if (rd_T39 x0 (rd x1 x11)).f2 = true then (drovewayref09_walked.l0 k x0 x1 x2 x12 (wrap64 (x9 + (shl .i64 1 x12))) (wrap64 (x10 + 1)) (wrap64 (x11 + 1))) else (drovewayref09_walked.l0 k x0 x1 x2 x12 (wrap64 (x9 + (shl .i64 1 x12))) x10 (wrap64 (x11 + 1)))) else (none)) else (none)) else (none)) else (none)) else (none))
end
def drovewayref09_walked.f (k : Nat) (l0 : List (S39)) (l1 : List Int) (a2 : Int) : Option (Int × Bool) := drovewayref09_walked.l0 k l0 l1 a2 a2 0 0 0
theorem drovewayref09_walked.mono_l : ∀ k, (∀ y0 y1 y2 y3 y4 y5 y6, LeO (drovewayref09_walked.l0 k y0 y1 y2 y3 y4 y5 y6) (drovewayref09_walked.l0 (k + 1) y0 y1 y2 y3 y4 y5 y6)) ∧ (∀ y0 y1 y2 y3 y4 y5 y6 y7, LeO (drovewayref09_walked.j1 k y0 y1 y2 y3 y4 y5 y6 y7) (drovewayref09_walked.j1 (k + 1) y0 y1 y2 y3 y4 y5 y6 y7))
  | 0 => ⟨fun _ _ _ _ _ _ _ r h => by simp [drovewayref09_walked.l0] at h, fun _ _ _ _ _ _ _ _ r h => by simp [drovewayref09_walked.j1] at h⟩
  | k + 1 => by
    obtain ⟨ih0, ih1⟩ := drovewayref09_walked.mono_l k
    refine ⟨?_, ?_⟩
    · intro y0 y1 y2 y3 y4 y5 y6
      unfold drovewayref09_walked.l0
      repeat' first
      | (with_reducible exact ih0 _ _ _ _ _ _ _)
      | (with_reducible exact ih1 _ _ _ _ _ _ _ _)
      | (with_reducible exact LeO.refl _)
      | (with_reducible exact LeO.none _)
      | (with_reducible refine LeO.ite ?_ ?_)
      | (with_reducible refine LeO.bind ?_ (fun _ => ?_))
      | exact ih0 _ _ _ _ _ _ _
      | exact ih1 _ _ _ _ _ _ _ _
      | exact LeO.none _
      | refine LeO.ite ?_ ?_
      | refine LeO.bind ?_ (fun _ => ?_)
    · intro y0 y1 y2 y3 y4 y5 y6 y7
      unfold drovewayref09_walked.j1
      repeat' first
      | (with_reducible exact ih0 _ _ _ _ _ _ _)
      | (with_reducible exact ih1 _ _ _ _ _ _ _ _)
      | (with_reducible exact LeO.refl _)
      | (with_reducible exact LeO.none _)
      | (with_reducible refine LeO.ite ?_ ?_)
      | (with_reducible refine LeO.bind ?_ (fun _ => ?_))
      | exact ih0 _ _ _ _ _ _ _
      | exact ih1 _ _ _ _ _ _ _ _
      | exact LeO.none _
      | refine LeO.ite ?_ ?_
      | refine LeO.bind ?_ (fun _ => ?_)
theorem drovewayref09_walked.mono : ∀ a0 a1 a2 k, LeO (drovewayref09_walked.f k a0 a1 a2) (drovewayref09_walked.f (k + 1) a0 a1 a2) := by
  intro a0 a1 a2 k
  obtain ⟨ih0, ih1⟩ := drovewayref09_walked.mono_l k
  unfold drovewayref09_walked.f
  repeat' first
      | (with_reducible exact ih0 _ _ _ _ _ _ _)
      | (with_reducible exact ih1 _ _ _ _ _ _ _ _)
      | (with_reducible exact LeO.refl _)
      | (with_reducible exact LeO.none _)
      | (with_reducible refine LeO.ite ?_ ?_)
      | (with_reducible refine LeO.bind ?_ (fun _ => ?_))
      | exact ih0 _ _ _ _ _ _ _
      | exact ih1 _ _ _ _ _ _ _ _
      | exact LeO.none _
      | refine LeO.ite ?_ ?_
      | refine LeO.bind ?_ (fun _ => ?_)
set_option maxHeartbeats 8000000 in
set_option maxRecDepth 100000 in
theorem drovewayref09_walked.calls (k : Nat) (A0 : Option Addr) (c0 : Nat) (l0 : List (S39)) (A1 : Option Addr) (c1 : Nat) (l1 : List Int) (a2 : Int) (r1 : Int) (r2 : Bool) (w : World) (hr0 : Kd.C k39 w A0 l0.length l0) (hc0 : l0.length ≤ c0) (hr1 : Kd.C (Kd.int .i64) w A1 l1.length l1) (hc1 : l1.length ≤ c1) (h : drovewayref09_walked.f k l0 l1 a2 = some (r1, r2)) :
    Calls Try.prog 81 #[.slice A0 l0.length c0, .slice A1 l1.length c1, .int .i64 a2] w fun e w' => e = .returned (.tuple #[.int .i64 r1, .bool r2]) ∧ Below w.heap.size w w' := by
  have hu39 := Try.underlying39
  have HR0 := Aside0.mk hr0
  have HC0 := Aside0.mk hc0
  clear hr0 hc0
  have HR1 := Aside0.mk hr1
  have HC1 := Aside0.mk hc1
  clear hr1 hc1
  have HB := Aside0.mk (Below.refl w.heap.size w)
  have H : (drovewayref09_walked.l0 k l0 l1 a2 a2 0 0 0) = some (r1, r2) := h
  clear h
  have H' := Aside0.mk H
  clear H
  go_enter Try.func81, Try.ntmps81
  go_wp2
  go_loopg [8, 9, 10, 11] k (fun kq v8 v9 v10 v11 w' => ∃ (x8_1 : Int) (x9_1 : Int) (x10_1 : Int) (x11_1 : Int), v8 = .int .i64 x8_1 ∧ v9 = .int .i64 x9_1 ∧ v10 = .int .i64 x10_1 ∧ v11 = .int .i64 x11_1 ∧ Aside0 (drovewayref09_walked.l0 kq l0 l1 a2 x8_1 x9_1 x10_1 x11_1 = some (r1, r2)) ∧ Aside0 (kq ≤ k) ∧ Aside0 (Below w.heap.size w w'))
  case atStart => exact ⟨(a2), (0), (0), (0), (by first | rfl | (simp; done) | (simp [*]; done)), (by first | rfl | (simp; done) | (simp [*]; done)), (by first | rfl | (simp; done) | (simp [*]; done)), (by first | rfl | (simp; done) | (simp [*]; done)), H', ⟨Nat.le_refl _⟩, ⟨by repeat (first | (with_reducible first | exact HB.out | apply below_alloc | apply pw_below_drewN | apply below_drew1) | exact HB.out)⟩⟩
  case round =>
    clear H'
    try clear c1
    try clear p2
    obtain ⟨x8_1, x9_1, x10_1, x11_1, rfl, rfl, rfl, rfl, HA, HK1, HB⟩ := hrel
    cases gk with
    | zero => exact absurd HA.out (by simp [drovewayref09_walked.l0])
    | succ k1 =>
      have H := HA.out
      clear HA
      simp only [drovewayref09_walked.l0] at H
      by_cases c4 : x11_1 < (l1.length : Int)
      · rw [if_pos c4] at H
        have c4b0 : decide (x11_1 < (l1.length : Int)) = true := decide_eq_true c4
        clear c4
        by_cases c5 : 0 ≤ x11_1
        · rw [if_pos c5] at H
          have c5b0 : decide (0 ≤ x11_1) = true := decide_eq_true c5
          clear c5
          by_cases c6 : 0 ≤ (rd l1 x11_1)
          · rw [if_pos c6] at H
            have c6b0 : decide (0 ≤ (rd l1 x11_1)) = true := decide_eq_true c6
            clear c6
            by_cases c7 : (rd l1 x11_1) < (l0.length : Int)
            · rw [if_pos c7] at H
              have c7b0 : decide ((rd l1 x11_1) < (l0.length : Int)) = true := decide_eq_true c7
              clear c7
              replace H := Option.bind_eq_some_iff.mp H
              obtain ⟨t181, A80, H⟩ := H
              replace H : (if t181 < 0 then (drovewayref09_walked.j1 k1 l0 l1 a2 x9_1 x10_1 x11_1 t181 true) else (if 0 ≤ t181 then (drovewayref09_walked.j1 k1 l0 l1 a2 x9_1 x10_1 x11_1 t181 ((Int.tmod (shr .i64 x9_1 t181) 2) == 1)) else (none))) = some (r1, r2) := H
              have A8 := Aside0.mk A80
              clear A80
              have HC9 := Aside0.mk H
              clear H
              have p179 : 0 ≤ (x11_1 : Int) := of_decide_eq_true (by first | (with_reducible assumption) | assumption)
              have q179 : x11_1 < (l1.length : Int) := of_decide_eq_true (by first | (with_reducible assumption) | assumption)
              obtain ⟨ad179, e179, hx179_0⟩ := Kd.at_int HR1.out x11_1 p179 q179
              cases e179
              replace hx179_0 := (HB.out.cell (World.block_lt_of_cell? w _ hx179_0)).trans hx179_0
              replace p179 := eq_true p179
              replace q179 := eq_true q179
              have p180 : 0 ≤ ((rd l1 x11_1) : Int) := of_decide_eq_true (by first | (with_reducible assumption) | assumption)
              have q180 : (rd l1 x11_1) < (l0.length : Int) := of_decide_eq_true (by first | (with_reducible assumption) | assumption)
              obtain ⟨ad180, e180, hx180_0, hx180_1, hx180_2⟩ := at_T39 HR0.out (rd l1 x11_1) p180 q180
              cases e180
              replace hx180_0 := (HB.out.cell (World.block_lt_of_cell? w _ hx180_0)).trans hx180_0
              replace hx180_1 := (HB.out.cell (World.block_lt_of_cell? w _ hx180_1)).trans hx180_1
              replace hx180_2 := (HB.out.cell (World.block_lt_of_cell? w _ hx180_2)).trans hx180_2
              replace p180 := eq_true p180
              replace q180 := eq_true q180
              go_upto_region 6 with (first | ((with_reducible refine gate_callee (f := 88) rfl ?_); refine goesL_ (some 28) rfl rfl Try.func88 (by kernel_rfl) rfl #[.agg #[.int .i64 ((rd_T39 l0 (rd l1 x11_1)).f0), .int .i64 ((rd_T39 l0 (rd l1 x11_1)).f1), .bool ((rd_T39 l0 (rd l1 x11_1)).f2)], .int .i64 x8_1] rfl (by (try simp only [List.map_toArray, List.map_cons, List.map_nil]); first | done | rfl | (simp only [List.length_drop, List.length_take]; rfl)) ?_; (with_reducible refine (drovewayref09_other.calls ((rd_T39 l0 (rd l1 x11_1)).f0) ((rd_T39 l0 (rd l1 x11_1)).f1) ((rd_T39 l0 (rd l1 x11_1)).f2) x8_1 t181 _ A8.out).mono ?_); rintro e w10 ⟨rfl, hb⟩; refine ⟨_, rfl, ?_⟩; have n0_ := Aside0.mk (below_step (by repeat (first | (with_reducible first | exact HB.out | apply below_alloc | apply pw_below_drewN | apply below_drew1) | exact HB.out)) hb); clear HB; have HB := n0_; clear n0_; (try clear hb); (try clear hb2); (try clear hk); (try clear hi)))
              (try simp only [Act.put, List.setIfInBounds_toArray, List.set_cons_zero, List.set_cons_succ])
              go_cut [37] (fun v37 wc => ∃ (kq : Nat) (x37_8 : Bool), v37 = .bool x37_8 ∧ Aside0 (drovewayref09_walked.j1 kq l0 l1 a2 x9_1 x10_1 x11_1 t181 x37_8 = some (r1, r2)) ∧ Aside0 (kq ≤ k1) ∧ Aside0 (Below w.heap.size w wc))
              case first =>
                have H := HC9.out
                clear HC9
                by_cases c11 : t181 < 0
                · rw [if_pos c11] at H
                  have c11b0 : decide (t181 < 0) = true := decide_eq_true c11
                  clear c11
                  (first | rw [c11b0] | (simp only [i64_w, i32_w]; rw [c11b0]) | skip)
                  have H' := Aside0.mk H
                  clear H
                  go_wp2
                  go_meet
                  case rel => exact ⟨_, (true), (by first | rfl | (simp; done) | (simp [*]; done)), H', ⟨by have := HK1.out; first | omega | exact Nat.le_refl _⟩, ⟨by repeat (first | (with_reducible first | exact HB.out | apply below_alloc | apply pw_below_drewN | apply below_drew1) | exact HB.out)⟩⟩
                · rw [if_neg c11] at H
                  have c11b0 : decide (t181 < 0) = false := decide_eq_false c11
                  clear c11
                  (first | rw [c11b0] | (simp only [i64_w, i32_w]; rw [c11b0]) | skip)
                  by_cases c12 : 0 ≤ t181
                  · rw [if_pos c12] at H
                    have c12b0 := eq_true c12
                    have c12b1 : decide (0 ≤ t181) = true := decide_eq_true c12
                    clear c12
                    obtain ⟨ji13, hji13⟩ : ∃ j_ : Int, (shr .i64 x9_1 t181) = j_ := ⟨_, rfl⟩
                    replace H : (drovewayref09_walked.j1 k1 l0 l1 a2 x9_1 x10_1 x11_1 t181 ((Int.tmod (ji13) 2) == 1)) = some (r1, r2) := by first | (rw [hji13] at H; exact H) | (simp only [hji13] at H ⊢; exact H)
                    have hji13_ : (x9_1 / 2 ^ min t181.toNat 64) = ji13 := hji13
                    have hji13z : t181 ≤ 64 → (x9_1 / 2 ^ t181.toNat) = ji13 := shr_small hji13
                    have H' := Aside0.mk H
                    clear H
                    go_wp2
                    go_meet
                    case rel => exact ⟨_, (((Int.tmod (ji13) 2) == 1)), (by first | rfl | (simp; done) | (simp only [← hji13] <;> (first | rfl | simp)) | (simp [*]; done)), H', ⟨by have := HK1.out; first | omega | exact Nat.le_refl _⟩, ⟨by repeat (first | (with_reducible first | exact HB.out | apply below_alloc | apply pw_below_drewN | apply below_drew1) | exact HB.out)⟩⟩
                  · rw [if_neg c12] at H
                    exact absurd H (by simp)
              case rest =>
                clear HC9
                try clear c1
                try clear p1
                try clear q1
                try clear hx1
                try clear p2
                try clear c4
                try clear c4b0
                try clear c5
                try clear c5b0
                try clear c6
                try clear c6b0
                try clear c7
                try clear c7b0
                try clear c8
                try clear c11
                try clear c11b0
                try clear c12
                try clear c12b0
                try clear c12b1
                try clear hx179_0
                try clear hx180_0
                try clear hx180_1
                try clear hx180_2
                try clear p179
                try clear p180
                try clear p2
                try clear q179
                try clear q180
                obtain ⟨kq, x37_8, rfl, HA, HJ8, HB⟩ := hcut
                cases kq with
                | zero => exact absurd HA.out (by simp [drovewayref09_walked.j1])
                | succ kj8 =>
                  have H := HA.out
                  clear HA
                  simp only [drovewayref09_walked.j1] at H
                  by_cases c14 : x37_8 = true
                  · subst c14
                    have H1 : (some (0, false)) = some (r1, r2) := by rw [if_pos rfl] at H; exact H
                    clear H
                    have H := H1
                    clear H1
                    simp only [Option.some.injEq, Prod.mk.injEq] at H
                    obtain ⟨rfl, rfl⟩ := H
                    go_wp2
                    go_ret2
                    exact ⟨by first | rfl | (simp [errW_none, errW_some] <;> rfl) | (simp [*, errW_none, errW_some] <;> rfl), by repeat (first | (with_reducible first | exact HB.out | apply below_alloc | apply pw_below_drewN | apply below_drew1) | exact HB.out)⟩
                  · replace c14 := Bool.eq_false_iff.mpr c14
                    subst c14
                    have H1 : (if 0 ≤ t181 then (if 0 ≤ x11_1 then (if x11_1 < (l1.length : Int) then (if 0 ≤ (rd l1 x11_1) then (if (rd l1 x11_1) < (l0.length : Int) then (if (rd_T39 l0 (rd l1 x11_1)).f2 = true then (drovewayref09_walked.l0 kj8 l0 l1 a2 t181 (wrap64 (x9_1 + (shl .i64 1 t181))) (wrap64 (x10_1 + 1)) (wrap64 (x11_1 + 1))) else (drovewayref09_walked.l0 kj8 l0 l1 a2 t181 (wrap64 (x9_1 + (shl .i64 1 t181))) x10_1 (wrap64 (x11_1 + 1)))) else (none)) else (none)) else (none)) else (none)) else (none)) = some (r1, r2) := by rw [if_neg (show ¬ (false = true) by decide)] at H; exact H
                    clear H
                    have H := H1
                    clear H1
                    by_cases c15 : 0 ≤ t181
                    · rw [if_pos c15] at H
                      have c15b0 := eq_true c15
                      have c15b1 : decide (0 ≤ t181) = true := decide_eq_true c15
                      clear c15
                      obtain ⟨ji16, hji16⟩ : ∃ j_ : Int, (shl .i64 1 t181) = j_ := ⟨_, rfl⟩
                      replace H : (if 0 ≤ x11_1 then (if x11_1 < (l1.length : Int) then (if 0 ≤ (rd l1 x11_1) then (if (rd l1 x11_1) < (l0.length : Int) then (if (rd_T39 l0 (rd l1 x11_1)).f2 = true then (drovewayref09_walked.l0 kj8 l0 l1 a2 t181 (wrap64 (x9_1 + (ji16))) (wrap64 (x10_1 + 1)) (wrap64 (x11_1 + 1))) else (drovewayref09_walked.l0 kj8 l0 l1 a2 t181 (wrap64 (x9_1 + (ji16))) x10_1 (wrap64 (x11_1 + 1)))) else (none)) else (none)) else (none)) else (none)) = some (r1, r2) := by first | (rw [hji16] at H; exact H) | (simp only [hji16] at H ⊢; exact H)
                      have hji16_ : (IntKind.i64.wrap (1 * 2 ^ min t181.toNat 64)) = ji16 := hji16
                      have hji16z : t181 ≤ 64 → (IntKind.i64.wrap (1 * 2 ^ t181.toNat)) = ji16 := shl_small hji16
                      have hji16u : (IntKind.i64.wrap (2 ^ min t181.toNat 64)) = ji16 := by have h_ := hji16_; rw [Int.one_mul] at h_; exact h_
                      have hji16v : t181 ≤ 64 → (IntKind.i64.wrap (2 ^ t181.toNat)) = ji16 := fun hle_ => by have h_ := hji16z hle_; rw [Int.one_mul] at h_; exact h_
                      have hji16y : (wrap64 (1 * 2 ^ min t181.toNat 64)) = ji16 := (i64_w _).symm.trans hji16_
                      have hji16x : t181 ≤ 64 → (wrap64 (1 * 2 ^ t181.toNat)) = ji16 := fun h_ => (i64_w _).symm.trans (hji16z h_)
                      by_cases c17 : 0 ≤ x11_1
                      · rw [if_pos c17] at H
                        have c17b0 : decide (0 ≤ x11_1) = true := decide_eq_true c17
                        clear c17
                        by_cases c18 : x11_1 < (l1.length : Int)
                        · rw [if_pos c18] at H
                          have c18b0 : decide (x11_1 < (l1.length : Int)) = true := decide_eq_true c18
                          clear c18
                          by_cases c19 : 0 ≤ (rd l1 x11_1)
                          · rw [if_pos c19] at H
                            have c19b0 : decide (0 ≤ (rd l1 x11_1)) = true := decide_eq_true c19
                            clear c19
                            by_cases c20 : (rd l1 x11_1) < (l0.length : Int)
                            · rw [if_pos c20] at H
                              have c20b0 : decide ((rd l1 x11_1) < (l0.length : Int)) = true := decide_eq_true c20
                              clear c20
                              obtain ⟨bq21, hbq21⟩ : ∃ b_ : Bool, b_ = ((rd_T39 l0 (rd l1 x11_1)).f2) := ⟨_, rfl⟩
                              replace H : (if bq21 = true then (drovewayref09_walked.l0 kj8 l0 l1 a2 t181 (wrap64 (x9_1 + (ji16))) (wrap64 (x10_1 + 1)) (wrap64 (x11_1 + 1))) else (drovewayref09_walked.l0 kj8 l0 l1 a2 t181 (wrap64 (x9_1 + (ji16))) x10_1 (wrap64 (x11_1 + 1)))) = some (r1, r2) := by rw [← hbq21] at H; exact H
                              have Nbq21 := Aside0.mk hbq21
                              clear hbq21
                              by_cases c22 : bq21 = true
                              · subst c22
                                have H1 : (drovewayref09_walked.l0 kj8 l0 l1 a2 t181 (wrap64 (x9_1 + (ji16))) (wrap64 (x10_1 + 1)) (wrap64 (x11_1 + 1))) = some (r1, r2) := by rw [if_pos rfl] at H; exact H
                                clear H
                                have H := H1
                                clear H1
                                have H' := Aside0.mk H
                                clear H
                                have p182 : 0 ≤ (x11_1 : Int) := of_decide_eq_true (by first | (with_reducible assumption) | assumption)
                                have q182 : x11_1 < (l1.length : Int) := of_decide_eq_true (by first | (with_reducible assumption) | assumption)
                                obtain ⟨ad182, e182, hx182_0⟩ := Kd.at_int HR1.out x11_1 p182 q182
                                obtain rfl : ad179 = ad182 := (by injection e182)
                                replace hx182_0 := (HB.out.cell (World.block_lt_of_cell? w _ hx182_0)).trans hx182_0
                                replace p182 := eq_true p182
                                replace q182 := eq_true q182
                                have p183 : 0 ≤ ((rd l1 x11_1) : Int) := of_decide_eq_true (by first | (with_reducible assumption) | assumption)
                                have q183 : (rd l1 x11_1) < (l0.length : Int) := of_decide_eq_true (by first | (with_reducible assumption) | assumption)
                                obtain ⟨ad183, e183, hx183_0, hx183_1, hx183_2⟩ := at_T39 HR0.out (rd l1 x11_1) p183 q183
                                (try rw [← Nbq21.out] at hx183_2)
                                obtain rfl : ad180 = ad183 := (by injection e183)
                                replace hx183_0 := (HB.out.cell (World.block_lt_of_cell? w _ hx183_0)).trans hx183_0
                                replace hx183_1 := (HB.out.cell (World.block_lt_of_cell? w _ hx183_1)).trans hx183_1
                                replace hx183_2 := (HB.out.cell (World.block_lt_of_cell? w _ hx183_2)).trans hx183_2
                                replace p183 := eq_true p183
                                replace q183 := eq_true q183
                                go_wp2
                                go_roundg kj8
                                case measure => have := HK1.out; have := HJ8.out; omega
                                case rel => exact ⟨(t181), (wrap64 (x9_1 + (ji16))), (wrap64 (x10_1 + 1)), (wrap64 (x11_1 + 1)), (by first | rfl | (simp; done) | (simp [*]; done)), (by first | rfl | (simp; done) | (simp only [← hji16] <;> (first | rfl | simp)) | (simp [*]; done)), (by first | rfl | (simp; done) | (simp [*]; done)), (by first | rfl | (simp; done) | (simp [*]; done)), H', ⟨by have := HK1.out; have := HJ8.out; omega⟩, ⟨by repeat (first | (with_reducible first | exact HB.out | apply below_alloc | apply pw_below_drewN | apply below_drew1) | exact HB.out)⟩⟩
                              · replace c22 := Bool.eq_false_iff.mpr c22
                                subst c22
                                have H1 : (drovewayref09_walked.l0 kj8 l0 l1 a2 t181 (wrap64 (x9_1 + (ji16))) x10_1 (wrap64 (x11_1 + 1))) = some (r1, r2) := by rw [if_neg (show ¬ (false = true) by decide)] at H; exact H
                                clear H
                                have H := H1
                                clear H1
                                have H' := Aside0.mk H
                                clear H
                                have p182 : 0 ≤ (x11_1 : Int) := of_decide_eq_true (by first | (with_reducible assumption) | assumption)
                                have q182 : x11_1 < (l1.length : Int) := of_decide_eq_true (by first | (with_reducible assumption) | assumption)
                                obtain ⟨ad182, e182, hx182_0⟩ := Kd.at_int HR1.out x11_1 p182 q182
                                obtain rfl : ad179 = ad182 := (by injection e182)
                                replace hx182_0 := (HB.out.cell (World.block_lt_of_cell? w _ hx182_0)).trans hx182_0
                                replace p182 := eq_true p182
                                replace q182 := eq_true q182
                                have p183 : 0 ≤ ((rd l1 x11_1) : Int) := of_decide_eq_true (by first | (with_reducible assumption) | assumption)
                                have q183 : (rd l1 x11_1) < (l0.length : Int) := of_decide_eq_true (by first | (with_reducible assumption) | assumption)
                                obtain ⟨ad183, e183, hx183_0, hx183_1, hx183_2⟩ := at_T39 HR0.out (rd l1 x11_1) p183 q183
                                (try rw [← Nbq21.out] at hx183_2)
                                obtain rfl : ad180 = ad183 := (by injection e183)
                                replace hx183_0 := (HB.out.cell (World.block_lt_of_cell? w _ hx183_0)).trans hx183_0
                                replace hx183_1 := (HB.out.cell (World.block_lt_of_cell? w _ hx183_1)).trans hx183_1
                                replace hx183_2 := (HB.out.cell (World.block_lt_of_cell? w _ hx183_2)).trans hx183_2
                                replace p183 := eq_true p183
                                replace q183 := eq_true q183
                                go_wp2
                                go_roundg kj8
                                case measure => have := HK1.out; have := HJ8.out; omega
                                case rel => exact ⟨(t181), (wrap64 (x9_1 + (ji16))), (x10_1), (wrap64 (x11_1 + 1)), (by first | rfl | (simp; done) | (simp [*]; done)), (by first | rfl | (simp; done) | (simp only [← hji16] <;> (first | rfl | simp)) | (simp [*]; done)), (by first | rfl | (simp; done) | (simp [*]; done)), (by first | rfl | (simp; done) | (simp [*]; done)), H', ⟨by have := HK1.out; have := HJ8.out; omega⟩, ⟨by repeat (first | (with_reducible first | exact HB.out | apply below_alloc | apply pw_below_drewN | apply below_drew1) | exact HB.out)⟩⟩
                            · rw [if_neg c20] at H
                              exact absurd H (by simp)
                          · rw [if_neg c19] at H
                            exact absurd H (by simp)
                        · rw [if_neg c18] at H
                          exact absurd H (by simp)
                      · rw [if_neg c17] at H
                        exact absurd H (by simp)
                    · rw [if_neg c15] at H
                      exact absurd H (by simp)
            · rw [if_neg c7] at H
              exact absurd H (by simp)
          · rw [if_neg c6] at H
            exact absurd H (by simp)
        · rw [if_neg c5] at H
          exact absurd H (by simp)
      · rw [if_neg c4] at H
        have c4b0 : decide (x11_1 < (l1.length : Int)) = false := decide_eq_false c4
        clear c4
        simp only [Option.some.injEq, Prod.mk.injEq] at H
        obtain ⟨rfl, rfl⟩ := H
        go_wp2
        go_ret2
        exact ⟨by first | rfl | (simp [errW_none, errW_some] <;> rfl) | (simp [*, errW_none, errW_some] <;> rfl), by repeat (first | (with_reducible first | exact HB.out | apply below_alloc | apply pw_below_drewN | apply below_drew1) | exact HB.out)⟩

/-! ### drovewayref09_isRing: function 64 -/
def drovewayref09_isRing.l0 : Nat → List (S39) → List Int → Int → Option (Int × Bool)
  | 0, _, _, _ => none
  | k + 1, x0, x1, x6 => if x6 < (x1.length : Int) then (if 0 ≤ x6 then (if (rd x1 x6) < 0 then (some (0, false)) else (if (rd x1 x6) ≥ (x0.length : Int) then (some (0, false)) else (drovewayref09_isRing.l0 k x0 x1 (wrap64 (x6 + 1))))) else (none)) else (if 0 < (x1.length : Int) then (if 0 ≤ (rd x1 0) then (if (rd x1 0) < (x0.length : Int) then ((drovewayref09_walked.f k x0 x1 ((rd_T39 x0 (rd x1 0)).f0)).bind fun bt188 => (if bt188.2 = true then (some (bt188.1, true)) else ((drovewayref09_walked.f k x0 x1 ((rd_T39 x0 (rd x1 0)).f1)).bind fun bt192 => (if bt192.2 = true then (some (bt192.1, true)) else (some (0, false)))))) else (none)) else (none)) else (none))
def drovewayref09_isRing.f (k : Nat) (l0 : List (S39)) (l1 : List Int) : Option (Int × Bool) := if (l1.length : Int) < 3 then (some (0, false)) else (drovewayref09_isRing.l0 k l0 l1 0)
theorem drovewayref09_isRing.mono_l : ∀ k, (∀ y0 y1 y2, LeO (drovewayref09_isRing.l0 k y0 y1 y2) (drovewayref09_isRing.l0 (k + 1) y0 y1 y2))
  | 0 => fun _ _ _ r h => by simp [drovewayref09_isRing.l0] at h
  | k + 1 => by
    have ih0 := drovewayref09_isRing.mono_l k
    · intro y0 y1 y2
      unfold drovewayref09_isRing.l0
      repeat' first
      | (with_reducible exact ih0 _ _ _)
      | (with_reducible exact drovewayref09_walked.mono _ _ _ _)
      | (with_reducible exact LeO.refl _)
      | (with_reducible exact LeO.none _)
      | (with_reducible refine LeO.ite ?_ ?_)
      | (with_reducible refine LeO.bind ?_ (fun _ => ?_))
      | exact ih0 _ _ _
      | exact drovewayref09_walked.mono _ _ _ _
      | exact LeO.none _
      | refine LeO.ite ?_ ?_
      | refine LeO.bind ?_ (fun _ => ?_)
theorem drovewayref09_isRing.mono : ∀ a0 a1 k, LeO (drovewayref09_isRing.f k a0 a1) (drovewayref09_isRing.f (k + 1) a0 a1) := by
  intro a0 a1 k
  have ih0 := drovewayref09_isRing.mono_l k
  unfold drovewayref09_isRing.f
  repeat' first
      | (with_reducible exact ih0 _ _ _)
      | (with_reducible exact drovewayref09_walked.mono _ _ _ _)
      | (with_reducible exact LeO.refl _)
      | (with_reducible exact LeO.none _)
      | (with_reducible refine LeO.ite ?_ ?_)
      | (with_reducible refine LeO.bind ?_ (fun _ => ?_))
      | exact ih0 _ _ _
      | exact drovewayref09_walked.mono _ _ _ _
      | exact LeO.none _
      | refine LeO.ite ?_ ?_
      | refine LeO.bind ?_ (fun _ => ?_)
set_option maxHeartbeats 8000000 in
set_option maxRecDepth 100000 in
theorem drovewayref09_isRing.calls (k : Nat) (A0 : Option Addr) (c0 : Nat) (l0 : List (S39)) (A1 : Option Addr) (c1 : Nat) (l1 : List Int) (r1 : Int) (r2 : Bool) (w : World) (hr0 : Kd.C k39 w A0 l0.length l0) (hc0 : l0.length ≤ c0) (hr1 : Kd.C (Kd.int .i64) w A1 l1.length l1) (hc1 : l1.length ≤ c1) (h : drovewayref09_isRing.f k l0 l1 = some (r1, r2)) :
    Calls Try.prog 64 #[.slice A0 l0.length c0, .slice A1 l1.length c1] w fun e w' => e = .returned (.tuple #[.int .i64 r1, .bool r2]) ∧ Below w.heap.size w w' := by
  have HR0 := Aside0.mk hr0
  have HC0 := Aside0.mk hc0
  clear hr0 hc0
  have HR1 := Aside0.mk hr1
  have HC1 := Aside0.mk hc1
  clear hr1 hc1
  have HB := Aside0.mk (Below.refl w.heap.size w)
  have H : (if (l1.length : Int) < 3 then (some (0, false)) else (drovewayref09_isRing.l0 k l0 l1 0)) = some (r1, r2) := h
  clear h
  by_cases c3 : (l1.length : Int) < 3
  · rw [if_pos c3] at H
    have c3b0 : decide ((l1.length : Int) < 3) = true := decide_eq_true c3
    have c3b1 : decide (l1.length < 3) = true := decide_eq_true (by omega)
    clear c3
    simp only [Option.some.injEq, Prod.mk.injEq] at H
    obtain ⟨rfl, rfl⟩ := H
    go_enter Try.func64, Try.ntmps64
    go_wp2
    go_ret2
    exact ⟨by first | rfl | (simp [errW_none, errW_some] <;> rfl) | (simp [*, errW_none, errW_some] <;> rfl), by repeat (first | (with_reducible first | exact HB.out | apply below_alloc | apply pw_below_drewN | apply below_drew1) | exact HB.out)⟩
  · rw [if_neg c3] at H
    have c3b0 : decide ((l1.length : Int) < 3) = false := decide_eq_false c3
    have c3b1 : decide (l1.length < 3) = false := decide_eq_false (by omega)
    clear c3
    have H' := Aside0.mk H
    clear H
    go_enter Try.func64, Try.ntmps64
    go_wp2
    go_loopg [6] k (fun kq v6 w' => ∃ (x6_1 : Int), v6 = .int .i64 x6_1 ∧ Aside0 (drovewayref09_isRing.l0 kq l0 l1 x6_1 = some (r1, r2)) ∧ Aside0 (kq ≤ k) ∧ Aside0 (Below w.heap.size w w'))
    case atStart => exact ⟨(0), (by first | rfl | (simp; done) | (simp [*]; done)), H', ⟨Nat.le_refl _⟩, ⟨by repeat (first | (with_reducible first | exact HB.out | apply below_alloc | apply pw_below_drewN | apply below_drew1) | exact HB.out)⟩⟩
    case round =>
      clear H'
      try clear c1
      try clear p2
      try clear c3
      try clear c3b0
      try clear c3b1
      obtain ⟨x6_1, rfl, HA, HK1, HB⟩ := hrel
      cases gk with
      | zero => exact absurd HA.out (by simp [drovewayref09_isRing.l0])
      | succ k1 =>
        have H := HA.out
        clear HA
        simp only [drovewayref09_isRing.l0] at H
        by_cases c4 : x6_1 < (l1.length : Int)
        · rw [if_pos c4] at H
          have c4b0 : decide (x6_1 < (l1.length : Int)) = true := decide_eq_true c4
          clear c4
          by_cases c5 : 0 ≤ x6_1
          · rw [if_pos c5] at H
            have c5b0 : decide (0 ≤ x6_1) = true := decide_eq_true c5
            clear c5
            by_cases c6 : (rd l1 x6_1) < 0
            · rw [if_pos c6] at H
              have c6b0 : decide ((rd l1 x6_1) < 0) = true := decide_eq_true c6
              clear c6
              simp only [Option.some.injEq, Prod.mk.injEq] at H
              obtain ⟨rfl, rfl⟩ := H
              have p184 : 0 ≤ (x6_1 : Int) := of_decide_eq_true (by first | (with_reducible assumption) | assumption)
              have q184 : x6_1 < (l1.length : Int) := of_decide_eq_true (by first | (with_reducible assumption) | assumption)
              obtain ⟨ad184, e184, hx184_0⟩ := Kd.at_int HR1.out x6_1 p184 q184
              cases e184
              replace hx184_0 := (HB.out.cell (World.block_lt_of_cell? w _ hx184_0)).trans hx184_0
              replace p184 := eq_true p184
              replace q184 := eq_true q184
              go_wp2
              go_ret2
              exact ⟨by first | rfl | (simp [errW_none, errW_some] <;> rfl) | (simp [*, errW_none, errW_some] <;> rfl), by repeat (first | (with_reducible first | exact HB.out | apply below_alloc | apply pw_below_drewN | apply below_drew1) | exact HB.out)⟩
            · rw [if_neg c6] at H
              have c6b0 : decide ((rd l1 x6_1) < 0) = false := decide_eq_false c6
              clear c6
              by_cases c7 : (rd l1 x6_1) ≥ (l0.length : Int)
              · rw [if_pos c7] at H
                have c7b0 : decide ((l0.length : Int) ≤ (rd l1 x6_1)) = true := decide_eq_true c7
                clear c7
                simp only [Option.some.injEq, Prod.mk.injEq] at H
                obtain ⟨rfl, rfl⟩ := H
                have p184 : 0 ≤ (x6_1 : Int) := of_decide_eq_true (by first | (with_reducible assumption) | assumption)
                have q184 : x6_1 < (l1.length : Int) := of_decide_eq_true (by first | (with_reducible assumption) | assumption)
                obtain ⟨ad184, e184, hx184_0⟩ := Kd.at_int HR1.out x6_1 p184 q184
                cases e184
                replace hx184_0 := (HB.out.cell (World.block_lt_of_cell? w _ hx184_0)).trans hx184_0
                replace p184 := eq_true p184
                replace q184 := eq_true q184
                have p185 : 0 ≤ (x6_1 : Int) := of_decide_eq_true (by first | (with_reducible assumption) | assumption)
                have q185 : x6_1 < (l1.length : Int) := of_decide_eq_true (by first | (with_reducible assumption) | assumption)
                obtain ⟨ad185, e185, hx185_0⟩ := Kd.at_int HR1.out x6_1 p185 q185
                obtain rfl : ad184 = ad185 := (by injection e185)
                replace hx185_0 := (HB.out.cell (World.block_lt_of_cell? w _ hx185_0)).trans hx185_0
                replace p185 := eq_true p185
                replace q185 := eq_true q185
                go_wp2
                go_ret2
                exact ⟨by first | rfl | (simp [errW_none, errW_some] <;> rfl) | (simp [*, errW_none, errW_some] <;> rfl), by repeat (first | (with_reducible first | exact HB.out | apply below_alloc | apply pw_below_drewN | apply below_drew1) | exact HB.out)⟩
              · rw [if_neg c7] at H
                have c7b0 : decide ((l0.length : Int) ≤ (rd l1 x6_1)) = false := decide_eq_false c7
                clear c7
                have H' := Aside0.mk H
                clear H
                have p184 : 0 ≤ (x6_1 : Int) := of_decide_eq_true (by first | (with_reducible assumption) | assumption)
                have q184 : x6_1 < (l1.length : Int) := of_decide_eq_true (by first | (with_reducible assumption) | assumption)
                obtain ⟨ad184, e184, hx184_0⟩ := Kd.at_int HR1.out x6_1 p184 q184
                cases e184
                replace hx184_0 := (HB.out.cell (World.block_lt_of_cell? w _ hx184_0)).trans hx184_0
                replace p184 := eq_true p184
                replace q184 := eq_true q184
                have p185 : 0 ≤ (x6_1 : Int) := of_decide_eq_true (by first | (with_reducible assumption) | assumption)
                have q185 : x6_1 < (l1.length : Int) := of_decide_eq_true (by first | (with_reducible assumption) | assumption)
                obtain ⟨ad185, e185, hx185_0⟩ := Kd.at_int HR1.out x6_1 p185 q185
                obtain rfl : ad184 = ad185 := (by injection e185)
                replace hx185_0 := (HB.out.cell (World.block_lt_of_cell? w _ hx185_0)).trans hx185_0
                replace p185 := eq_true p185
                replace q185 := eq_true q185
                go_wp2
                go_roundg k1
                case measure => have := HK1.out; omega
                case rel => exact ⟨(wrap64 (x6_1 + 1)), (by first | rfl | (simp; done) | (simp [*]; done)), H', ⟨by have := HK1.out; omega⟩, ⟨by repeat (first | (with_reducible first | exact HB.out | apply below_alloc | apply pw_below_drewN | apply below_drew1) | exact HB.out)⟩⟩
          · rw [if_neg c5] at H
            exact absurd H (by simp)
        · rw [if_neg c4] at H
          have c4b0 : decide (x6_1 < (l1.length : Int)) = false := decide_eq_false c4
          clear c4
          by_cases c8 : 0 < (l1.length : Int)
          · rw [if_pos c8] at H
            have c8b0 : decide (0 < (l1.length : Int)) = true := decide_eq_true c8
            have c8b1 : decide (0 < l1.length) = true := decide_eq_true (by omega)
            clear c8
            by_cases c9 : 0 ≤ (rd l1 0)
            · rw [if_pos c9] at H
              have c9b0 : decide (0 ≤ (rd l1 0)) = true := decide_eq_true c9
              clear c9
              by_cases c10 : (rd l1 0) < (l0.length : Int)
              · rw [if_pos c10] at H
                have c10b0 : decide ((rd l1 0) < (l0.length : Int)) = true := decide_eq_true c10
                clear c10
                replace H := Option.bind_eq_some_iff.mp H
                obtain ⟨⟨t188, t189⟩, A110, H⟩ := H
                replace H : (if t189 = true then (some (t188, true)) else ((drovewayref09_walked.f k1 l0 l1 ((rd_T39 l0 (rd l1 0)).f1)).bind fun bt192 => (if bt192.2 = true then (some (bt192.1, true)) else (some (0, false))))) = some (r1, r2) := H
                have A11 := Aside0.mk A110
                clear A110
                by_cases c12 : t189 = true
                · subst c12
                  have H1 : (some (t188, true)) = some (r1, r2) := by rw [if_pos rfl] at H; exact H
                  clear H
                  have H := H1
                  clear H1
                  simp only [Option.some.injEq, Prod.mk.injEq] at H
                  obtain ⟨rfl, rfl⟩ := H
                  have p186 : 0 ≤ (0 : Int) := (by omega)
                  have q186 : 0 < (l1.length : Int) := of_decide_eq_true (by first | (with_reducible assumption) | assumption)
                  obtain ⟨ad186, e186, hx186_0⟩ := Kd.at_int HR1.out 0 p186 q186
                  cases e186
                  have qi186 : (0 < l1.length) = True := eq_true (by omega)
                  (try rw [show ((0 : Int)).toNat = 0 from rfl] at hx186_0)
                  (try rw [Addr.add_zero'] at hx186_0)
                  replace hx186_0 := (HB.out.cell (World.block_lt_of_cell? w _ hx186_0)).trans hx186_0
                  replace p186 := eq_true p186
                  replace q186 := eq_true q186
                  have p187 : 0 ≤ ((rd l1 0) : Int) := of_decide_eq_true (by first | (with_reducible assumption) | assumption)
                  have q187 : (rd l1 0) < (l0.length : Int) := of_decide_eq_true (by first | (with_reducible assumption) | assumption)
                  obtain ⟨ad187, e187, hx187_0, hx187_1, hx187_2⟩ := at_T39 HR0.out (rd l1 0) p187 q187
                  cases e187
                  replace hx187_0 := (HB.out.cell (World.block_lt_of_cell? w _ hx187_0)).trans hx187_0
                  replace hx187_1 := (HB.out.cell (World.block_lt_of_cell? w _ hx187_1)).trans hx187_1
                  replace hx187_2 := (HB.out.cell (World.block_lt_of_cell? w _ hx187_2)).trans hx187_2
                  replace p187 := eq_true p187
                  replace q187 := eq_true q187
                  go_wp2_with (first | ((with_reducible refine gate_callee (f := 81) rfl ?_); refine goesL_ (some 42) rfl rfl Try.func81 (by kernel_rfl) rfl #[.slice (some ad187) l0.length c0, .slice (some ad186) l1.length c1, .int .i64 ((rd_T39 l0 (rd l1 0)).f0)] rfl (by (try simp only [List.map_toArray, List.map_cons, List.map_nil]); first | done | rfl | (simp only [List.length_drop, List.length_take]; rfl)) ?_; (with_reducible refine (drovewayref09_walked.calls k1 _ _ l0 _ _ l1 ((rd_T39 l0 (rd l1 0)).f0) t188 true _ ?side1 ?side2 ?side3 ?side4 A11.out).mono ?_); (case side1 => repeat (first | exact (Kd.C_below HR0.out HB.out) | (with_reducible refine Kd.C_alloc ?_ _) | (with_reducible refine Kd.C_drewN ?_ _) | (with_reducible refine Kd.C_drew ?_))); (case side2 => exact HC0.out); (case side3 => repeat (first | exact (Kd.C_below HR1.out HB.out) | (with_reducible refine Kd.C_alloc ?_ _) | (with_reducible refine Kd.C_drewN ?_ _) | (with_reducible refine Kd.C_drew ?_))); (case side4 => exact HC1.out); rintro e w13 ⟨rfl, hb⟩; refine ⟨_, rfl, ?_⟩; have n0_ := Aside0.mk (below_step (by repeat (first | (with_reducible first | exact HB.out | apply below_alloc | apply pw_below_drewN | apply below_drew1) | exact HB.out)) hb); clear HB; have HB := n0_; clear n0_; (try clear hb); (try clear hb2); (try clear hk); (try clear hi)))
                  go_ret2
                  exact ⟨by first | rfl | (simp [errW_none, errW_some] <;> rfl) | (simp [*, errW_none, errW_some] <;> rfl), by repeat (first | (with_reducible first | exact HB.out | apply below_alloc | apply pw_below_drewN | apply below_drew1) | exact HB.out)⟩
                · replace c12 := Bool.eq_false_iff.mpr c12
                  subst c12
                  have H1 : ((drovewayref09_walked.f k1 l0 l1 ((rd_T39 l0 (rd l1 0)).f1)).bind fun bt192 => (if bt192.2 = true then (some (bt192.1, true)) else (some (0, false)))) = some (r1, r2) := by rw [if_neg (show ¬ (false = true) by decide)] at H; exact H
                  clear H
                  have H := H1
                  clear H1
                  replace H := Option.bind_eq_some_iff.mp H
                  obtain ⟨⟨t192, t193⟩, A140, H⟩ := H
                  replace H : (if t193 = true then (some (t192, true)) else (some (0, false))) = some (r1, r2) := H
                  have A14 := Aside0.mk A140
                  clear A140
                  by_cases c15 : t193 = true
                  · subst c15
                    have H1 : (some (t192, true)) = some (r1, r2) := by rw [if_pos rfl] at H; exact H
                    clear H
                    have H := H1
                    clear H1
                    simp only [Option.some.injEq, Prod.mk.injEq] at H
                    obtain ⟨rfl, rfl⟩ := H
                    have p186 : 0 ≤ (0 : Int) := (by omega)
                    have q186 : 0 < (l1.length : Int) := of_decide_eq_true (by first | (with_reducible assumption) | assumption)
                    obtain ⟨ad186, e186, hx186_0⟩ := Kd.at_int HR1.out 0 p186 q186
                    cases e186
                    have qi186 : (0 < l1.length) = True := eq_true (by omega)
                    (try rw [show ((0 : Int)).toNat = 0 from rfl] at hx186_0)
                    (try rw [Addr.add_zero'] at hx186_0)
                    replace hx186_0 := (HB.out.cell (World.block_lt_of_cell? w _ hx186_0)).trans hx186_0
                    replace p186 := eq_true p186
                    replace q186 := eq_true q186
                    have p187 : 0 ≤ ((rd l1 0) : Int) := of_decide_eq_true (by first | (with_reducible assumption) | assumption)
                    have q187 : (rd l1 0) < (l0.length : Int) := of_decide_eq_true (by first | (with_reducible assumption) | assumption)
                    obtain ⟨ad187, e187, hx187_0, hx187_1, hx187_2⟩ := at_T39 HR0.out (rd l1 0) p187 q187
                    cases e187
                    replace hx187_0 := (HB.out.cell (World.block_lt_of_cell? w _ hx187_0)).trans hx187_0
                    replace hx187_1 := (HB.out.cell (World.block_lt_of_cell? w _ hx187_1)).trans hx187_1
                    replace hx187_2 := (HB.out.cell (World.block_lt_of_cell? w _ hx187_2)).trans hx187_2
                    replace p187 := eq_true p187
                    replace q187 := eq_true q187
                    go_wp2_with (first | ((with_reducible refine gate_callee (f := 81) rfl ?_); refine goesL_ (some 42) rfl rfl Try.func81 (by kernel_rfl) rfl #[.slice (some ad187) l0.length c0, .slice (some ad186) l1.length c1, .int .i64 ((rd_T39 l0 (rd l1 0)).f0)] rfl (by (try simp only [List.map_toArray, List.map_cons, List.map_nil]); first | done | rfl | (simp only [List.length_drop, List.length_take]; rfl)) ?_; (with_reducible refine (drovewayref09_walked.calls k1 _ _ l0 _ _ l1 ((rd_T39 l0 (rd l1 0)).f0) t188 false _ ?side1 ?side2 ?side3 ?side4 A11.out).mono ?_); (case side1 => repeat (first | exact (Kd.C_below HR0.out HB.out) | (with_reducible refine Kd.C_alloc ?_ _) | (with_reducible refine Kd.C_drewN ?_ _) | (with_reducible refine Kd.C_drew ?_))); (case side2 => exact HC0.out); (case side3 => repeat (first | exact (Kd.C_below HR1.out HB.out) | (with_reducible refine Kd.C_alloc ?_ _) | (with_reducible refine Kd.C_drewN ?_ _) | (with_reducible refine Kd.C_drew ?_))); (case side4 => exact HC1.out); rintro e w16 ⟨rfl, hb⟩; refine ⟨_, rfl, ?_⟩; have n0_ := Aside0.mk (below_step (by repeat (first | (with_reducible first | exact HB.out | apply below_alloc | apply pw_below_drewN | apply below_drew1) | exact HB.out)) hb); clear HB; have HB := n0_; clear n0_; (try clear hb); (try clear hb2); (try clear hk); (try clear hi); have p190 : 0 ≤ (0 : Int) := (by omega); have q190 : 0 < (l1.length : Int) := of_decide_eq_true (by first | (with_reducible assumption) | assumption); obtain ⟨ad190, e190, hx190_0⟩ := Kd.at_int HR1.out 0 p190 q190; obtain rfl : ad186 = ad190 := (by injection e190); have qi190 : (0 < l1.length) = True := eq_true (by omega); (try rw [show ((0 : Int)).toNat = 0 from rfl] at hx190_0); (try rw [Addr.add_zero'] at hx190_0); replace hx190_0 := (HB.out.cell (World.block_lt_of_cell? w _ hx190_0)).trans hx190_0; replace p190 := eq_true p190; replace q190 := eq_true q190; have p191 : 0 ≤ ((rd l1 0) : Int) := of_decide_eq_true (by first | (with_reducible assumption) | assumption); have q191 : (rd l1 0) < (l0.length : Int) := of_decide_eq_true (by first | (with_reducible assumption) | assumption); obtain ⟨ad191, e191, hx191_0, hx191_1, hx191_2⟩ := at_T39 HR0.out (rd l1 0) p191 q191; obtain rfl : ad187 = ad191 := (by injection e191); replace hx191_0 := (HB.out.cell (World.block_lt_of_cell? w _ hx191_0)).trans hx191_0; replace hx191_1 := (HB.out.cell (World.block_lt_of_cell? w _ hx191_1)).trans hx191_1; replace hx191_2 := (HB.out.cell (World.block_lt_of_cell? w _ hx191_2)).trans hx191_2; replace p191 := eq_true p191; replace q191 := eq_true q191) | ((with_reducible refine gate_callee (f := 81) rfl ?_); refine goesL_ (some 57) rfl rfl Try.func81 (by kernel_rfl) rfl #[.slice (some ad187) l0.length c0, .slice (some ad186) l1.length c1, .int .i64 ((rd_T39 l0 (rd l1 0)).f1)] rfl (by (try simp only [List.map_toArray, List.map_cons, List.map_nil]); first | done | rfl | (simp only [List.length_drop, List.length_take]; rfl)) ?_; (with_reducible refine (drovewayref09_walked.calls k1 _ _ l0 _ _ l1 ((rd_T39 l0 (rd l1 0)).f1) t192 true _ ?side1 ?side2 ?side3 ?side4 A14.out).mono ?_); (case side1 => repeat (first | exact (Kd.C_below HR0.out HB.out) | (with_reducible refine Kd.C_alloc ?_ _) | (with_reducible refine Kd.C_drewN ?_ _) | (with_reducible refine Kd.C_drew ?_))); (case side2 => exact HC0.out); (case side3 => repeat (first | exact (Kd.C_below HR1.out HB.out) | (with_reducible refine Kd.C_alloc ?_ _) | (with_reducible refine Kd.C_drewN ?_ _) | (with_reducible refine Kd.C_drew ?_))); (case side4 => exact HC1.out); rintro e w17 ⟨rfl, hb⟩; refine ⟨_, rfl, ?_⟩; have n0_ := Aside0.mk (below_step (by repeat (first | (with_reducible first | exact HB.out | apply below_alloc | apply pw_below_drewN | apply below_drew1) | exact HB.out)) hb); clear HB; have HB := n0_; clear n0_; (try clear hb); (try clear hb2); (try clear hk); (try clear hi)))
                    go_ret2
                    exact ⟨by first | rfl | (simp [errW_none, errW_some] <;> rfl) | (simp [*, errW_none, errW_some] <;> rfl), by repeat (first | (with_reducible first | exact HB.out | apply below_alloc | apply pw_below_drewN | apply below_drew1) | exact HB.out)⟩
                  · replace c15 := Bool.eq_false_iff.mpr c15
                    subst c15
                    have H1 : (some (0, false)) = some (r1, r2) := by rw [if_neg (show ¬ (false = true) by decide)] at H; exact H
                    clear H
                    have H := H1
                    clear H1
                    simp only [Option.some.injEq, Prod.mk.injEq] at H
                    obtain ⟨rfl, rfl⟩ := H
                    have p186 : 0 ≤ (0 : Int) := (by omega)
                    have q186 : 0 < (l1.length : Int) := of_decide_eq_true (by first | (with_reducible assumption) | assumption)
                    obtain ⟨ad186, e186, hx186_0⟩ := Kd.at_int HR1.out 0 p186 q186
                    cases e186
                    have qi186 : (0 < l1.length) = True := eq_true (by omega)
                    (try rw [show ((0 : Int)).toNat = 0 from rfl] at hx186_0)
                    (try rw [Addr.add_zero'] at hx186_0)
                    replace hx186_0 := (HB.out.cell (World.block_lt_of_cell? w _ hx186_0)).trans hx186_0
                    replace p186 := eq_true p186
                    replace q186 := eq_true q186
                    have p187 : 0 ≤ ((rd l1 0) : Int) := of_decide_eq_true (by first | (with_reducible assumption) | assumption)
                    have q187 : (rd l1 0) < (l0.length : Int) := of_decide_eq_true (by first | (with_reducible assumption) | assumption)
                    obtain ⟨ad187, e187, hx187_0, hx187_1, hx187_2⟩ := at_T39 HR0.out (rd l1 0) p187 q187
                    cases e187
                    replace hx187_0 := (HB.out.cell (World.block_lt_of_cell? w _ hx187_0)).trans hx187_0
                    replace hx187_1 := (HB.out.cell (World.block_lt_of_cell? w _ hx187_1)).trans hx187_1
                    replace hx187_2 := (HB.out.cell (World.block_lt_of_cell? w _ hx187_2)).trans hx187_2
                    replace p187 := eq_true p187
                    replace q187 := eq_true q187
                    go_wp2_with (first | ((with_reducible refine gate_callee (f := 81) rfl ?_); refine goesL_ (some 42) rfl rfl Try.func81 (by kernel_rfl) rfl #[.slice (some ad187) l0.length c0, .slice (some ad186) l1.length c1, .int .i64 ((rd_T39 l0 (rd l1 0)).f0)] rfl (by (try simp only [List.map_toArray, List.map_cons, List.map_nil]); first | done | rfl | (simp only [List.length_drop, List.length_take]; rfl)) ?_; (with_reducible refine (drovewayref09_walked.calls k1 _ _ l0 _ _ l1 ((rd_T39 l0 (rd l1 0)).f0) t188 false _ ?side1 ?side2 ?side3 ?side4 A11.out).mono ?_); (case side1 => repeat (first | exact (Kd.C_below HR0.out HB.out) | (with_reducible refine Kd.C_alloc ?_ _) | (with_reducible refine Kd.C_drewN ?_ _) | (with_reducible refine Kd.C_drew ?_))); (case side2 => exact HC0.out); (case side3 => repeat (first | exact (Kd.C_below HR1.out HB.out) | (with_reducible refine Kd.C_alloc ?_ _) | (with_reducible refine Kd.C_drewN ?_ _) | (with_reducible refine Kd.C_drew ?_))); (case side4 => exact HC1.out); rintro e w18 ⟨rfl, hb⟩; refine ⟨_, rfl, ?_⟩; have n0_ := Aside0.mk (below_step (by repeat (first | (with_reducible first | exact HB.out | apply below_alloc | apply pw_below_drewN | apply below_drew1) | exact HB.out)) hb); clear HB; have HB := n0_; clear n0_; (try clear hb); (try clear hb2); (try clear hk); (try clear hi); have p190 : 0 ≤ (0 : Int) := (by omega); have q190 : 0 < (l1.length : Int) := of_decide_eq_true (by first | (with_reducible assumption) | assumption); obtain ⟨ad190, e190, hx190_0⟩ := Kd.at_int HR1.out 0 p190 q190; obtain rfl : ad186 = ad190 := (by injection e190); have qi190 : (0 < l1.length) = True := eq_true (by omega); (try rw [show ((0 : Int)).toNat = 0 from rfl] at hx190_0); (try rw [Addr.add_zero'] at hx190_0); replace hx190_0 := (HB.out.cell (World.block_lt_of_cell? w _ hx190_0)).trans hx190_0; replace p190 := eq_true p190; replace q190 := eq_true q190; have p191 : 0 ≤ ((rd l1 0) : Int) := of_decide_eq_true (by first | (with_reducible assumption) | assumption); have q191 : (rd l1 0) < (l0.length : Int) := of_decide_eq_true (by first | (with_reducible assumption) | assumption); obtain ⟨ad191, e191, hx191_0, hx191_1, hx191_2⟩ := at_T39 HR0.out (rd l1 0) p191 q191; obtain rfl : ad187 = ad191 := (by injection e191); replace hx191_0 := (HB.out.cell (World.block_lt_of_cell? w _ hx191_0)).trans hx191_0; replace hx191_1 := (HB.out.cell (World.block_lt_of_cell? w _ hx191_1)).trans hx191_1; replace hx191_2 := (HB.out.cell (World.block_lt_of_cell? w _ hx191_2)).trans hx191_2; replace p191 := eq_true p191; replace q191 := eq_true q191) | ((with_reducible refine gate_callee (f := 81) rfl ?_); refine goesL_ (some 57) rfl rfl Try.func81 (by kernel_rfl) rfl #[.slice (some ad187) l0.length c0, .slice (some ad186) l1.length c1, .int .i64 ((rd_T39 l0 (rd l1 0)).f1)] rfl (by (try simp only [List.map_toArray, List.map_cons, List.map_nil]); first | done | rfl | (simp only [List.length_drop, List.length_take]; rfl)) ?_; (with_reducible refine (drovewayref09_walked.calls k1 _ _ l0 _ _ l1 ((rd_T39 l0 (rd l1 0)).f1) t192 false _ ?side1 ?side2 ?side3 ?side4 A14.out).mono ?_); (case side1 => repeat (first | exact (Kd.C_below HR0.out HB.out) | (with_reducible refine Kd.C_alloc ?_ _) | (with_reducible refine Kd.C_drewN ?_ _) | (with_reducible refine Kd.C_drew ?_))); (case side2 => exact HC0.out); (case side3 => repeat (first | exact (Kd.C_below HR1.out HB.out) | (with_reducible refine Kd.C_alloc ?_ _) | (with_reducible refine Kd.C_drewN ?_ _) | (with_reducible refine Kd.C_drew ?_))); (case side4 => exact HC1.out); rintro e w19 ⟨rfl, hb⟩; refine ⟨_, rfl, ?_⟩; have n0_ := Aside0.mk (below_step (by repeat (first | (with_reducible first | exact HB.out | apply below_alloc | apply pw_below_drewN | apply below_drew1) | exact HB.out)) hb); clear HB; have HB := n0_; clear n0_; (try clear hb); (try clear hb2); (try clear hk); (try clear hi)))
                    go_ret2
                    exact ⟨by first | rfl | (simp [errW_none, errW_some] <;> rfl) | (simp [*, errW_none, errW_some] <;> rfl), by repeat (first | (with_reducible first | exact HB.out | apply below_alloc | apply pw_below_drewN | apply below_drew1) | exact HB.out)⟩
              · rw [if_neg c10] at H
                exact absurd H (by simp)
            · rw [if_neg c9] at H
              exact absurd H (by simp)
          · rw [if_neg c8] at H
            exact absurd H (by simp)

-- NOT PRINTED: function 77 (drovewayref09_ringed)

-- NOT PRINTED: function 51 (drovewayref09_shortest)

-- NOT PRINTED: function 21 (drovewayref09_Ring)

/-! ### drovewayref09_IsRing: function 40 -/
def drovewayref09_IsRing.f (k : Nat) (a0 : Int) (l1 : List (S39)) (l2 : List Int) : Option (Int × Bool × Int) := (drovewayref09_Ties.f k a0 l1).bind fun t276 => (if t276 = 0 then ((drovewayref09_isRing.f k l1 l2).bind fun bt277 => (some (bt277.1, bt277.2, 0))) else (some (0, false, t276)))
theorem drovewayref09_IsRing.mono : ∀ a0 a1 a2 k, LeO (drovewayref09_IsRing.f k a0 a1 a2) (drovewayref09_IsRing.f (k + 1) a0 a1 a2) := by
  intro a0 a1 a2 k
  unfold drovewayref09_IsRing.f
  repeat' first
      | (with_reducible exact drovewayref09_Ties.mono _ _ _)
      | (with_reducible exact drovewayref09_isRing.mono _ _ _)
      | (with_reducible exact LeO.refl _)
      | (with_reducible exact LeO.none _)
      | (with_reducible refine LeO.ite ?_ ?_)
      | (with_reducible refine LeO.bind ?_ (fun _ => ?_))
      | exact drovewayref09_Ties.mono _ _ _
      | exact drovewayref09_isRing.mono _ _ _
      | exact LeO.none _
      | refine LeO.ite ?_ ?_
      | refine LeO.bind ?_ (fun _ => ?_)
set_option maxHeartbeats 8000000 in
set_option maxRecDepth 100000 in
theorem drovewayref09_IsRing.calls (k : Nat) (a0 : Int) (A1 : Option Addr) (c1 : Nat) (l1 : List (S39)) (A2 : Option Addr) (c2 : Nat) (l2 : List Int) (r1 : Int) (r2 : Bool) (r3 : Int) (w : World) (hr1 : Kd.C k39 w A1 l1.length l1) (hc1 : l1.length ≤ c1) (hr2 : Kd.C (Kd.int .i64) w A2 l2.length l2) (hc2 : l2.length ≤ c2) (h : drovewayref09_IsRing.f k a0 l1 l2 = some (r1, r2, r3)) :
    Calls Try.prog 40 #[.int .i64 a0, .slice A1 l1.length c1, .slice A2 l2.length c2] w fun e w' => e = .returned (.tuple #[.int .i64 r1, .bool r2, .int .i64 r3]) ∧ Below w.heap.size w w' := by
  have HR1 := Aside0.mk hr1
  have HC1 := Aside0.mk hc1
  clear hr1 hc1
  have HR2 := Aside0.mk hr2
  have HC2 := Aside0.mk hc2
  clear hr2 hc2
  have HB := Aside0.mk (Below.refl w.heap.size w)
  have H : ((drovewayref09_Ties.f k a0 l1).bind fun t276 => (if t276 = 0 then ((drovewayref09_isRing.f k l1 l2).bind fun bt277 => (some (bt277.1, bt277.2, 0))) else (some (0, false, t276)))) = some (r1, r2, r3) := h
  clear h
  replace H := Option.bind_eq_some_iff.mp H
  obtain ⟨t276, A40, H⟩ := H
  replace H : (if t276 = 0 then ((drovewayref09_isRing.f k l1 l2).bind fun bt277 => (some (bt277.1, bt277.2, 0))) else (some (0, false, t276))) = some (r1, r2, r3) := H
  have A4 := Aside0.mk A40
  clear A40
  by_cases c5 : t276 = 0
  · rw [if_pos c5] at H
    have c5b0 : (t276 == 0) = true := beq_iff_eq.mpr c5
    have c5b1 : (t276 != 0) = false := bne_eq_false_iff_eq.mpr c5
    clear c5
    replace H := Option.bind_eq_some_iff.mp H
    obtain ⟨⟨t277, t278⟩, A60, H⟩ := H
    replace H : (some (t277, t278, 0)) = some (r1, r2, r3) := H
    have A6 := Aside0.mk A60
    clear A60
    simp only [Option.some.injEq, Prod.mk.injEq] at H
    obtain ⟨rfl, rfl, rfl⟩ := H
    go_enter Try.func40, Try.ntmps40
    go_wp2_with (first | ((with_reducible refine gate_callee (f := 24) rfl ?_); refine goesL_ (some 14) rfl rfl Try.func24 (by kernel_rfl) rfl #[.int .i64 a0, .slice A1 l1.length c1] rfl (by (try simp only [List.map_toArray, List.map_cons, List.map_nil]); first | done | rfl | (simp only [List.length_drop, List.length_take]; rfl)) ?_; (with_reducible refine (drovewayref09_Ties.calls k a0 _ _ l1 t276 _ ?side1 ?side2 A4.out).mono ?_); (case side1 => repeat (first | exact HR1.out | (with_reducible refine Kd.C_alloc ?_ _) | (with_reducible refine Kd.C_drewN ?_ _) | (with_reducible refine Kd.C_drew ?_))); (case side2 => exact HC1.out); rintro e w' ⟨rfl, ⟨nd, rfl⟩⟩; refine ⟨_, rfl, ?_⟩) | ((with_reducible refine gate_callee (f := 64) rfl ?_); refine goesL_ (some 21) rfl rfl Try.func64 (by kernel_rfl) rfl #[.slice A1 l1.length c1, .slice A2 l2.length c2] rfl (by (try simp only [List.map_toArray, List.map_cons, List.map_nil]); first | done | rfl | (simp only [List.length_drop, List.length_take]; rfl)) ?_; (with_reducible refine (drovewayref09_isRing.calls k _ _ l1 _ _ l2 t277 t278 _ ?side1 ?side2 ?side3 ?side4 A6.out).mono ?_); (case side1 => repeat (first | exact HR1.out | (with_reducible refine Kd.C_alloc ?_ _) | (with_reducible refine Kd.C_drewN ?_ _) | (with_reducible refine Kd.C_drew ?_))); (case side2 => exact HC1.out); (case side3 => repeat (first | exact HR2.out | (with_reducible refine Kd.C_alloc ?_ _) | (with_reducible refine Kd.C_drewN ?_ _) | (with_reducible refine Kd.C_drew ?_))); (case side4 => exact HC2.out); rintro e w7 ⟨rfl, hb⟩; refine ⟨_, rfl, ?_⟩; have n0_ := Aside0.mk (below_step (by repeat (first | (with_reducible first | exact HB.out | apply below_alloc | apply pw_below_drewN | apply below_drew1) | exact HB.out)) hb); clear HB; have HB := n0_; clear n0_; (try clear hb); (try clear hb2); (try clear hk); (try clear hi)))
    go_ret3
    exact ⟨by first | rfl | (simp [errW_none, errW_some] <;> rfl) | (simp [*, errW_none, errW_some] <;> rfl), by repeat (first | (with_reducible first | exact HB.out | apply below_alloc | apply pw_below_drewN | apply below_drew1) | exact HB.out)⟩
  · rw [if_neg c5] at H
    have c5b0 : (t276 == 0) = false := beq_eq_false_iff_ne.mpr c5
    have c5b1 : (t276 != 0) = true := bne_iff_ne.mpr c5
    simp only [Option.some.injEq, Prod.mk.injEq] at H
    obtain ⟨rfl, rfl, rfl⟩ := H
    go_enter Try.func40, Try.ntmps40
    go_wp2_with (first | ((with_reducible refine gate_callee (f := 24) rfl ?_); refine goesL_ (some 14) rfl rfl Try.func24 (by kernel_rfl) rfl #[.int .i64 a0, .slice A1 l1.length c1] rfl (by (try simp only [List.map_toArray, List.map_cons, List.map_nil]); first | done | rfl | (simp only [List.length_drop, List.length_take]; rfl)) ?_; (with_reducible refine (drovewayref09_Ties.calls k a0 _ _ l1 t276 _ ?side1 ?side2 A4.out).mono ?_); (case side1 => repeat (first | exact HR1.out | (with_reducible refine Kd.C_alloc ?_ _) | (with_reducible refine Kd.C_drewN ?_ _) | (with_reducible refine Kd.C_drew ?_))); (case side2 => exact HC1.out); rintro e w' ⟨rfl, ⟨nd, rfl⟩⟩; refine ⟨_, rfl, ?_⟩))
    go_ret3
    exact ⟨by first | rfl | (simp [errW_none, errW_some] <;> rfl) | (simp [*, errW_none, errW_some] <;> rfl), by repeat (first | (with_reducible first | exact HB.out | apply below_alloc | apply pw_below_drewN | apply below_drew1) | exact HB.out)⟩

-- NOT PRINTED: function 9 (drovewaylaw09_FeudsRings)

end
end Go.Proofs.Ytaegldcifhgnmaa.B

/- A drawn region with guards that say no, operation by operation. -/
namespace Go.Proofs.Ytaegldcifhgnmaa.A
variable {P : Program} {ops : Array Oper} {Q : Exit → Act → World → Prop} {md : Region.Mode} {S : World → Prop} {oi : Oper} {fuel : Nat} {listed : Array Bool} {a : Act} {w : World}

theorem noPanic_not {Q : Exit → Act → World → Prop} {c : List PanicEntry} {a : Act} {w : World} : ¬ NoPanic Q (.panic c) a w := fun h => h

theorem H_off (i d : Nat) (ho : ops[i]? = some oi) (hd : oi.dst = some d) (hn : Region.noSelect ops = true) (hf : Region.free md ops listed i = true) (hr : (Region.ready md ops listed).contains i = true)
    (hw : Region.wanted oi (yielded ops a.tmps) = false) (hS : S w) (h : wpAnyH P md ops (NoPanic Q) S fuel (listed.setIfInBounds i true) (a.put (some d) undef) w) : wpAnyH P md ops (NoPanic Q) S (fuel + 1) listed a w :=
  wpAnyH_take ho hn hf hr (fun _ _ _ h => (noPanic_not h).elim) (Or.inr ⟨hw, rfl⟩) hS (by rw [hd]; exact h)

theorem H_on (i d : Nat) (v : Value) (ho : ops[i]? = some oi) (hd : oi.dst = some d) (hn : Region.noSelect ops = true) (hf : Region.free md ops listed i = true) (hr : (Region.ready md ops listed).contains i = true)
    (hw : Region.wanted oi (yielded ops a.tmps) = true) (hy : ∀ w, S w → (execOp a.eval oi).run P w = .ok (.value v) w) (hS : S w) (h : wpAnyH P md ops (NoPanic Q) S fuel (listed.setIfInBounds i true) (a.put (some d) v) w) : wpAnyH P md ops (NoPanic Q) S (fuel + 1) listed a w :=
  wpAnyH_take ho hn hf hr (fun _ _ _ h => (noPanic_not h).elim) (Or.inl ⟨hw, hy⟩) hS (by rw [hd]; exact h)
end Go.Proofs.Ytaegldcifhgnmaa.A

/- append to a row of whole numbers that is cut to its own length: one step of a region that draws its order. -/
namespace Go.Proofs.Ytaegldcifhgnmaa.B
open Go.Proofs.Ytaegldcifhgnmaa.A
open Go.RowKit Go.Proofs.YtaegldcifhgnmaaW.PrintWords Go.Proofs.YtaegldcifhgnmaaW.PrintMore

theorem grown_some {w w' : World} (h : w.grownBy w' none) (row : Option Nat) : w.grownBy w' row := ⟨h.os, h.tape, h.output, h.size, fun k hk _ => h.block k hk (by intro e; cases e)⟩
theorem appendI_run {W : World} {B : Nat} {A1 : Option Addr} {n c1 : Nat} {now : List Int} (p : Int) (ty : TypeId) (HO : Kd.R (Kd.int .i64) 3 W B (fun _ => True) (.slice A1 n c1) now) (hB : B ≤ W.heap.size) (hn : n ≤ 1000) :
    ∃ v1 w1, (Builtin.append_ #[28, 28] ty #[.slice A1 n n, .slice (some ⟨W.heap.size, 0, none⟩) 1 1]).run Try.prog (W.alloc (.cells #[.int .i64 p] 3)) = .ok v1 w1 ∧ Kd.R (Kd.int .i64) 3 w1 B (fun _ => True) v1 (now ++ [p]) ∧ Below W.heap.size W w1 := by
  obtain ⟨i0, hi, hzz⟩ := Option.map_eq_some_iff.1 info3
  simp only [Prod.mk.injEq] at hzz
  obtain ⟨hz0, hz1, hz2⟩ := hzz
  have hnl : n = now.length := (Kd.R_reads' HO).1
  obtain ⟨h0, inner, hown, hr⟩ := HO
  have hnews := World.news_of_block (cs := #[.int .i64 p]) (t := 3) (fr := (0, 0)) (heap_alloc_new W (.cells #[.int .i64 p] 3))
  have hsz : (Kd.int .i64).sz = 1 := rfl
  have key : ∃ v1 w1, (Builtin.append_ #[28, 28] ty #[.slice A1 n n, .slice (some ⟨W.heap.size, 0, none⟩) 1 1]).run Try.prog (W.alloc (.cells #[.int .i64 p] 3)) = .ok v1 w1 ∧ w1.ownsRow (W.heap.size + 1) 3 1 v1 (n + 1) (inner ++ [.int .i64 p]) ∧ (W.alloc (.cells #[.int .i64 p] 3)).grownBy w1 none := by
    rcases hown.2 with ⟨e1, e2⟩ | ⟨g, cap, cur, e1, hg, hh, hc, hcm, hcs, ht⟩
    · injection e1 with e3 e4 e5
      subst e3 e4
      have hin : inner = [] := by
        have := hown.1
        rw [← hnl, Nat.zero_mul] at this
        exact List.eq_nil_of_length_eq_zero this
      rw [hin]
      obtain ⟨v1, w1, h1, h2, h3, _⟩ := run_append_own_at (P := Try.prog) (W.alloc (.cells #[.int .i64 p] 3)) (W.heap.size + 1) 28 ty 3 i0 (.int .i64 0) 1 8 Try.underlying28 hi hz0 hz1 hz2 rfl (by decide) (.slice none 0 0) 0 [] (own_nil _ _ _ _) ⟨W.heap.size, 0, none⟩ 1 1 [.int .i64 p] rfl hnews (by intro u hu; simp at hu; subst hu; rfl) (by decide) (by decide) (by simp)
      exact ⟨v1, w1, h1, h2, h3⟩
    · injection e1 with e3 e4 e5
      subst e3
      rw [hsz] at hcs ht hown
      have hlen := hown.1
      rw [← hnl] at hlen ht
      have holds : ∀ j u, inner[j]? = some u → (W.alloc (.cells #[.int .i64 p] 3)).cell? ((⟨g, 0, none⟩ : Addr).add j) = some u := by
        intro j u hu
        have hgl : g < W.heap.size := by
          have := (Array.getElem?_eq_some_iff.1 hh).1
          exact this
        have hb2 : (W.alloc (.cells #[.int .i64 p] 3)).heap[g]? = some (.cells cur 3 (0, 0)) := by
          rw [← hh]
          exact (below_alloc (Below.refl W.heap.size W) _).block g hgl
        refine World.news_of_block hb2 j u ?_
        rw [← ht, List.getElem?_take] at hu
        split at hu
        · exact hu
        · cases hu
      obtain ⟨v1, w1, h1, h2, h3⟩ := run_append_arg_grows (P := Try.prog) (w := W.alloc (.cells #[.int .i64 p] 3)) 28 ty 3 i0 (.int .i64 0) 1 8 Try.underlying28 hi hz0 hz1 hz2 rfl (by decide) ⟨g, 0, none⟩ n n inner hlen holds ⟨W.heap.size, 0, none⟩ 1 1 [.int .i64 p] rfl hnews (by omega) (by simp only [maxLen]; omega) (by omega)
      exact ⟨v1, w1, h1, by simpa using h2, h3⟩
  obtain ⟨v1, w1, h1, h2, h3⟩ := key
  have hgr : W.grownBy w1 none := World.grownBy.trans (World.grownBy_alloc W _ _) h3
  refine ⟨v1, w1, h1, ?_, (below_alloc (Below.refl W.heap.size W) _).grown h3 (by simp) (fun k hk => by cases hk)⟩
  have hown1 : w1.ownsRow B 3 (Kd.int .i64).sz v1 (now.length + 1) (inner ++ [.int .i64 p]) := by rw [← hnl]; exact own_weaken h2 (by omega)
  refine Kd.R_appended (okp := fun _ => False) h0 hr rfl (fun _ hk => hk.elim) (fun _ _ => trivial) hown1 (grown_some hgr _) ?_
  right
  rcases h2.2 with ⟨_, e⟩ | ⟨g, cap, cur, e, hg, _⟩
  · omega
  · exact ⟨g, by rw [e]; rfl, by omega⟩
section
variable {ops : Array Oper} {o : Oper} {a : Act} {Q : Exit → Act → World → Prop} {K : Act → World → Prop}
theorem step_appendI {W : World} {B : Nat} {A1 : Option Addr} {n c1 : Nat} {now : List Int} (p : Int) (hw : Region.wanted o (yielded ops a.tmps) = true) (s x : Operand) (ho : o.op = .call { callee := .builtin .append, args := #[s, x], argTypes := #[28, 28] })
    (hs : a.eval s = .slice A1 n n) (hx : a.eval x = .slice (some ⟨W.heap.size, 0, none⟩) 1 1) (HO : Kd.R (Kd.int .i64) 3 W B (fun _ => True) (.slice A1 n c1) now) (hB : B ≤ W.heap.size) (hn : n ≤ 1000)
    (h : ∀ v1 w1, Kd.R (Kd.int .i64) 3 w1 B (fun _ => True) v1 (now ++ [p]) → Below W.heap.size W w1 → K (a.put o.dst v1) w1) :
    if Region.wanted o (yielded ops a.tmps) = true then Oper.wp Try.prog o a (W.alloc (.cells #[.int .i64 p] 3)) K Q else K (a.put o.dst undef) (W.alloc (.cells #[.int .i64 p] 3)) := by
  obtain ⟨v1, w1, hr, h1, h2⟩ := appendI_run p o.type HO hB hn
  rw [if_pos hw]
  unfold Oper.wp execOp
  simp only [ho, resolve, invoke, builtin, Sem.run_bind, Sem.run_pure, Result.andThen_ok, List.map_toArray, List.map_cons, List.map_nil, hs, hx, hr]
  exact h v1 w1 h1 h2
end
end Go.Proofs.Ytaegldcifhgnmaa.B

/- A list of ties is a ring: the program's question and the reference's are one (plain). -/
namespace Go.Proofs.Ytaegldcifhgnmaa.A
open Go.RowKit Go.Proofs.YtaegldcifhgnmaaW.PrintWords Go.Proofs.YtaegldcifhgnmaaW.PrintMore

def goodT (l : List S39) : Prop := ∀ t ∈ l, 0 ≤ t.f0 ∧ t.f0 < t.f1 ∧ t.f1 < 60
theorem tiesE_good {n : Int} {l : List S39} (h : tiesE n l = 0) : goodT l := by
  intro t ht
  obtain ⟨i, hi, e⟩ := List.getElem_of_mem ht
  have h1 := tiesE_parts h
  have h2 := okT_parts (okTies_parts h1.2.2 hi).1
  have hg : l.getD i z39 = t := by rw [List.getD_eq_getElem?_getD, List.getElem?_eq_getElem hi, e]; rfl
  rw [hg] at h2
  omega

/-- The tie of an index. -/
def tieA (l : List S39) (i : Int) : S39 := l.getD i.toNat z39
def inR (l : List S39) (i : Int) : Prop := 0 ≤ i ∧ i < (l.length : Int)
instance (l : List S39) (i : Int) : Decidable (inR l i) := inferInstanceAs (Decidable (_ ∧ _))
theorem tieA_good {l : List S39} (hg : goodT l) {i : Int} (h : inR l i) : 0 ≤ (tieA l i).f0 ∧ (tieA l i).f0 < (tieA l i).f1 ∧ (tieA l i).f1 < 60 := hg _ (getD_mem z39 (by unfold inR at h; omega))
/-- The drover that two ties have in common, as the program looks for it. -/
def comB (l : List S39) (i nx : Int) : Option Nat :=
  if inR l i ∧ inR l nx ∧ i ≠ nx then
    (if hasB (tieA l nx) (tieA l i).f0.toNat = true then some (tieA l i).f0.toNat else if hasB (tieA l nx) (tieA l i).f1.toNat = true then some (tieA l i).f1.toNat else none)
  else none
def nextI (r : List Int) (k : Nat) : Int := r.getD ((k + 1) % r.length) 0
def feA (l : List S39) (r : List Int) (k : Nat) : Nat := feT (tieA l (r.getD k 0))
def ringN (l : List S39) (r : List Int) : Nat → Nat → Nat → Nat → Int × Bool
  | 0, _, fe, _ => ((fe : Int), true)
  | d + 1, k, fe, met => match comB l (r.getD k 0) (nextI r k) with
    | none => (0, false)
    | some c => if met.testBit c = true then (0, false) else ringN l r d (k + 1) (fe + feA l r k) (met ||| 2 ^ c)
/-- The program's answer for a list. -/
def ringP (l : List S39) (r : List Int) : Int × Bool := if r.length < 3 then (0, false) else ringN l r r.length 0 0 0
/-- The other drover of a tie. -/
def otherN (t : S39) (v : Nat) : Option Nat := if t.f0 = (v : Int) then some t.f1.toNat else if t.f1 = (v : Int) then some t.f0.toNat else none
def walkN (l : List S39) (r : List Int) (fr : Nat) : Nat → Nat → Nat → Nat → Nat → Int × Bool
  | 0, _, at_, fe, _ => ((fe : Int), decide (at_ = fr))
  | d + 1, k, at_, fe, met => match otherN (tieA l (r.getD k 0)) at_ with
    | none => (0, false)
    | some v => if met.testBit v = true then (0, false) else walkN l r fr d (k + 1) v (fe + feA l r k) (met ||| 2 ^ v)
def walkF (l : List S39) (r : List Int) (fr : Nat) : Int × Bool := walkN l r fr r.length 0 fr 0 0
/-- The reference's answer for a list. -/
def isRingR (l : List S39) (r : List Int) : Int × Bool :=
  if r.length < 3 then (0, false) else if ∀ k, k < r.length → inR l (r.getD k 0) then
    (if (walkF l r (tieA l (r.getD 0 0)).f0.toNat).2 = true then walkF l r (tieA l (r.getD 0 0)).f0.toNat
     else if (walkF l r (tieA l (r.getD 0 0)).f1.toNat).2 = true then walkF l r (tieA l (r.getD 0 0)).f1.toNat else (0, false))
  else (0, false)
def feSum (l : List S39) (r : List Int) : Nat → Nat → Nat
  | 0, _ => 0
  | d + 1, k => feA l r k + feSum l r d (k + 1)

theorem or_bit {met c v : Nat} : (met ||| 2 ^ c).testBit v = (met.testBit v || decide (v = c)) := by
  rw [Nat.testBit_or, tb_two]
  congr 1
theorem ringN_fst (l : List S39) (r : List Int) : ∀ d k fe met, (ringN l r d k fe met).1 = if (ringN l r d k fe met).2 = true then ((fe + feSum l r d k : Nat) : Int) else 0 := by
  intro d
  induction d with
  | zero => intro k fe met; simp [ringN, feSum]
  | succ d ih =>
    intro k fe met
    rw [ringN, feSum]
    cases comB l (r.getD k 0) (nextI r k) with
    | none => simp
    | some c =>
      dsimp only
      by_cases h : met.testBit c = true
      · simp only [if_pos h]; simp
      · simp only [if_neg h]
        rw [ih, Nat.add_assoc]
theorem walkN_fst (l : List S39) (r : List Int) (fr : Nat) : ∀ d k at_ fe met, (walkN l r fr d k at_ fe met).2 = true → (walkN l r fr d k at_ fe met).1 = ((fe + feSum l r d k : Nat) : Int) := by
  intro d
  induction d with
  | zero => intro k at_ fe met h; simp [walkN, feSum]
  | succ d ih =>
    intro k at_ fe met
    rw [walkN, feSum]
    cases otherN (tieA l (r.getD k 0)) at_ with
    | none => simp
    | some c =>
      dsimp only
      by_cases h : met.testBit c = true
      · rw [if_pos h]; simp
      · rw [if_neg h]
        intro h2
        rw [ih _ _ _ _ h2, Nat.add_assoc]

/-! ### lists of drovers -/
theorem ringN_to (l : List S39) (r : List Int) : ∀ d k fe met, (ringN l r d k fe met).2 = true → ∃ c : Nat → Nat, (∀ j, j < d → comB l (r.getD (k + j) 0) (nextI r (k + j)) = some (c j) ∧ met.testBit (c j) = false) ∧ ∀ i j, i < j → j < d → c i ≠ c j := by
  intro d
  induction d with
  | zero => intro k fe met _; exact ⟨fun _ => 0, fun j hj => absurd hj (Nat.not_lt_zero j), fun i j _ hj => absurd hj (Nat.not_lt_zero j)⟩
  | succ d ih =>
    intro k fe met
    rw [ringN]
    cases e : comB l (r.getD k 0) (nextI r k) with
    | none => intro h; simp at h
    | some v =>
      dsimp only
      by_cases h : met.testBit v = true
      · rw [if_pos h]; intro h; simp at h
      · rw [if_neg h]
        intro h2
        obtain ⟨c, h3, h4⟩ := ih _ _ _ h2
        refine ⟨fun j => match j with | 0 => v | j + 1 => c j, fun j hj => ?_, fun i j hij hj => ?_⟩
        · cases j with
          | zero => exact ⟨e, by simpa using h⟩
          | succ j =>
            have := h3 j (by omega)
            rw [or_bit, Bool.or_eq_false_iff] at this
            rw [show k + (j + 1) = k + 1 + j by omega]
            exact ⟨this.1, this.2.1⟩
        · cases j with
          | zero => omega
          | succ j =>
            cases i with
            | zero =>
              have := (h3 j (by omega)).2
              rw [or_bit, Bool.or_eq_false_iff, decide_eq_false_iff_not] at this
              exact fun e => this.2 e.symm
            | succ i => exact h4 i j (by omega) (by omega)
theorem ringN_of (l : List S39) (r : List Int) : ∀ d k fe met (c : Nat → Nat), (∀ j, j < d → comB l (r.getD (k + j) 0) (nextI r (k + j)) = some (c j) ∧ met.testBit (c j) = false) → (∀ i j, i < j → j < d → c i ≠ c j) → (ringN l r d k fe met).2 = true := by
  intro d
  induction d with
  | zero => intros; rfl
  | succ d ih =>
    intro k fe met c h3 h4
    have h0 := h3 0 (by omega)
    rw [Nat.add_zero] at h0
    rw [ringN, h0.1]
    dsimp only
    rw [if_neg (by rw [h0.2]; exact Bool.false_ne_true)]
    refine ih _ _ _ (fun j => c (j + 1)) (fun j hj => ?_) (fun i j hij hj => h4 (i + 1) (j + 1) (by omega) (by omega))
    have := h3 (j + 1) (by omega)
    rw [show k + 1 + j = k + (j + 1) by omega]
    refine ⟨this.1, ?_⟩
    rw [or_bit, this.2, Bool.false_or, decide_eq_false_iff_not]
    exact fun e => h4 0 (j + 1) (by omega) (by omega) e.symm
theorem walkN_to (l : List S39) (r : List Int) (fr : Nat) : ∀ d k at_ fe met, (walkN l r fr d k at_ fe met).2 = true → ∃ c : Nat → Nat, c 0 = at_ ∧ c d = fr ∧ (∀ j, j < d → otherN (tieA l (r.getD (k + j) 0)) (c j) = some (c (j + 1)) ∧ met.testBit (c (j + 1)) = false) ∧ ∀ i j, i < j → j < d → c (i + 1) ≠ c (j + 1) := by
  intro d
  induction d with
  | zero =>
    intro k at_ fe met h
    rw [walkN] at h
    exact ⟨fun _ => at_, rfl, of_decide_eq_true h, fun j hj => absurd hj (Nat.not_lt_zero j), fun i j _ hj => absurd hj (Nat.not_lt_zero j)⟩
  | succ d ih =>
    intro k at_ fe met
    rw [walkN]
    cases e : otherN (tieA l (r.getD k 0)) at_ with
    | none => intro h; simp at h
    | some v =>
      dsimp only
      by_cases h : met.testBit v = true
      · rw [if_pos h]; intro h; simp at h
      · rw [if_neg h]
        intro h2
        obtain ⟨c, h0, hd, h3, h4⟩ := ih _ _ _ _ h2
        refine ⟨fun j => match j with | 0 => at_ | j + 1 => c j, rfl, hd, fun j hj => ?_, fun i j hij hj => ?_⟩
        · cases j with
          | zero =>
            dsimp only
            rw [h0]
            exact ⟨e, by simpa using h⟩
          | succ j =>
            have := h3 j (by omega)
            rw [or_bit, Bool.or_eq_false_iff] at this
            rw [show k + (j + 1) = k + 1 + j by omega]
            exact ⟨this.1, this.2.1⟩
        · cases j with
          | zero => omega
          | succ j =>
            cases i with
            | zero =>
              have := (h3 j (by omega)).2
              rw [or_bit, Bool.or_eq_false_iff, decide_eq_false_iff_not] at this
              dsimp only
              rw [h0]
              exact fun e => this.2 e.symm
            | succ i => exact h4 i j (by omega) (by omega)
theorem walkN_of (l : List S39) (r : List Int) (fr : Nat) : ∀ d k at_ fe met (c : Nat → Nat), c 0 = at_ → c d = fr → (∀ j, j < d → otherN (tieA l (r.getD (k + j) 0)) (c j) = some (c (j + 1)) ∧ met.testBit (c (j + 1)) = false) → (∀ i j, i < j → j < d → c (i + 1) ≠ c (j + 1)) → (walkN l r fr d k at_ fe met).2 = true := by
  intro d
  induction d with
  | zero =>
    intro k at_ fe met c h0 hd _ _
    rw [walkN]
    exact decide_eq_true (h0.symm.trans hd)
  | succ d ih =>
    intro k at_ fe met c h0 hd h3 h4
    have h1 := h3 0 (by omega)
    rw [Nat.add_zero, h0] at h1
    rw [walkN, h1.1]
    dsimp only
    rw [if_neg (by rw [h1.2]; exact Bool.false_ne_true)]
    refine ih _ _ _ _ (fun j => c (j + 1)) rfl hd (fun j hj => ?_) (fun i j hij hj => h4 (i + 1) (j + 1) (by omega) (by omega))
    have := h3 (j + 1) (by omega)
    rw [show k + 1 + j = k + (j + 1) by omega]
    refine ⟨this.1, ?_⟩
    rw [or_bit, this.2, Bool.false_or, decide_eq_false_iff_not]
    exact fun e => h4 0 (j + 1) (by omega) (by omega) e.symm

/-! ### two ties -/
theorem hasB_iff {t : S39} {v : Nat} : hasB t v = true ↔ t.f0 = (v : Int) ∨ t.f1 = (v : Int) := by
  unfold hasB
  rw [Bool.or_eq_true, beq_iff_eq, beq_iff_eq]
theorem other_has {t : S39} {a b : Nat} (h1 : t.f0 < t.f1) (ha : hasB t a = true) (hb : hasB t b = true) (hne : a ≠ b) : otherN t a = some b := by
  rw [hasB_iff] at ha hb
  unfold otherN
  by_cases h : t.f0 = (a : Int)
  · rw [if_pos h]
    have : t.f1.toNat = b := by omega
    rw [this]
  · rw [if_neg h, if_pos (by omega)]
    have : t.f0.toNat = b := by omega
    rw [this]
theorem other_parts {t : S39} {a b : Nat} (h0 : 0 ≤ t.f0) (h1 : t.f0 < t.f1) (h : otherN t a = some b) : hasB t a = true ∧ hasB t b = true ∧ a ≠ b := by
  rw [hasB_iff, hasB_iff]
  unfold otherN at h
  by_cases e : t.f0 = (a : Int)
  · rw [if_pos e] at h
    have := Option.some.inj h
    omega
  · rw [if_neg e] at h
    by_cases e1 : t.f1 = (a : Int)
    · rw [if_pos e1] at h
      have := Option.some.inj h
      omega
    · rw [if_neg e1] at h; exact absurd h (by simp)
theorem com_parts {l : List S39} (hg : goodT l) {i nx : Int} {c : Nat} (h : comB l i nx = some c) : inR l i ∧ inR l nx ∧ hasB (tieA l i) c = true ∧ hasB (tieA l nx) c = true := by
  unfold comB at h
  by_cases h1 : inR l i ∧ inR l nx ∧ i ≠ nx
  · rw [if_pos h1] at h
    have hi := tieA_good hg h1.1
    refine ⟨h1.1, h1.2.1, ?_⟩
    by_cases h2 : hasB (tieA l nx) (tieA l i).f0.toNat = true
    · rw [if_pos h2] at h
      obtain rfl := Option.some.inj h
      exact ⟨hasB_iff.mpr (Or.inl (by omega)), h2⟩
    · rw [if_neg h2] at h
      by_cases h3 : hasB (tieA l nx) (tieA l i).f1.toNat = true
      · rw [if_pos h3] at h
        obtain rfl := Option.some.inj h
        exact ⟨hasB_iff.mpr (Or.inr (by omega)), h3⟩
      · rw [if_neg h3] at h; exact absurd h (by simp)
  · rw [if_neg h1] at h; exact absurd h (by simp)
theorem com_of {l : List S39} (hg : goodT l) {i nx : Int} (hi : inR l i) (hn : inR l nx) {a b x : Nat} (h : otherN (tieA l i) a = some b) (h' : otherN (tieA l nx) b = some x) (hne : x ≠ a) : comB l i nx = some b := by
  have gi := tieA_good hg hi
  have gn := tieA_good hg hn
  have p := other_parts gi.1 gi.2.1 h
  have q := other_parts gn.1 gn.2.1 h'
  rw [hasB_iff, hasB_iff] at p q
  have hin : i ≠ nx := by
    intro e
    subst e
    omega
  unfold comB
  rw [if_pos ⟨hi, hn, hin⟩]
  by_cases e : (tieA l i).f0.toNat = b
  · rw [e, if_pos (hasB_iff.mpr q.1)]
  · rw [if_neg (by rw [hasB_iff]; omega)]
    have e1 : (tieA l i).f1.toNat = b := by omega
    rw [e1, if_pos (hasB_iff.mpr q.1)]

/-! ### the two are one -/
theorem mod_in {k m : Nat} (h : k + 1 < m) : (k + 1) % m = k + 1 := Nat.mod_eq_of_lt h
theorem ring_of_walk {l : List S39} (hg : goodT l) {r : List Int} (h3 : 3 ≤ r.length) (hin : ∀ k, k < r.length → inR l (r.getD k 0)) {fr : Nat} (h : (walkF l r fr).2 = true) : (ringN l r r.length 0 0 0).2 = true := by
  obtain ⟨c, h0, hd, hs, hd2⟩ := walkN_to l r fr _ _ _ _ _ h
  refine ringN_of l r _ _ _ _ (fun j => c (j + 1)) (fun j hj => ⟨?_, Nat.zero_testBit _⟩) hd2
  rw [Nat.zero_add]
  have a1 := (hs j hj).1
  rw [Nat.zero_add] at a1
  by_cases hl : j + 1 < r.length
  · have a2 := (hs (j + 1) hl).1
    rw [Nat.zero_add] at a2
    unfold nextI
    rw [mod_in hl]
    refine com_of hg (hin j hj) (hin _ hl) a1 a2 ?_
    cases j with
    | zero =>
      rw [h0, ← hd]
      have := hd2 1 (r.length - 1) (by omega) (by omega)
      rwa [Nat.sub_add_cancel (by omega)] at this
    | succ j => exact fun e => hd2 j (j + 2) (by omega) (by omega) e.symm
  · have e : j + 1 = r.length := by omega
    have a2 := (hs 0 (by omega)).1
    rw [Nat.zero_add, h0, ← hd, ← e] at a2
    unfold nextI
    rw [e, Nat.mod_self]
    rw [← e]
    refine com_of hg (hin j hj) (hin 0 (by omega)) a1 a2 ?_
    obtain ⟨q, rfl⟩ : ∃ q, j = q + 1 := ⟨j - 1, by omega⟩
    exact hd2 0 q (by omega) (by omega)
theorem walk_of_ring {l : List S39} (hg : goodT l) {r : List Int} (h3 : 3 ≤ r.length) (h : (ringN l r r.length 0 0 0).2 = true) : (∀ k, k < r.length → inR l (r.getD k 0)) ∧ ∃ fr, (fr = (tieA l (r.getD 0 0)).f0.toNat ∨ fr = (tieA l (r.getD 0 0)).f1.toNat) ∧ (walkF l r fr).2 = true := by
  obtain ⟨c, hs, hd⟩ := ringN_to l r _ _ _ _ h
  have hc : ∀ k, k < r.length → inR l (r.getD k 0) ∧ inR l (nextI r k) ∧ hasB (tieA l (r.getD k 0)) (c k) = true ∧ hasB (tieA l (nextI r k)) (c k) = true := by
    intro k hk
    have := (hs k hk).1
    rw [Nat.zero_add] at this
    exact com_parts hg this
  have hin : ∀ k, k < r.length → inR l (r.getD k 0) := fun k hk => (hc k hk).1
  have e : r.length - 1 + 1 = r.length := Nat.sub_add_cancel (by omega)
  have hlast := hc (r.length - 1) (by omega)
  have hn0 : nextI r (r.length - 1) = r.getD 0 0 := by
    unfold nextI
    rw [e, Nat.mod_self]
  rw [hn0] at hlast
  have h00 := tieA_good hg (hin 0 (by omega))
  refine ⟨hin, c (r.length - 1), ?_, ?_⟩
  · have := hasB_iff.mp hlast.2.2.2
    omega
  · refine walkN_of l r _ _ _ _ _ _ (fun j => match j with | 0 => c (r.length - 1) | j + 1 => c j) rfl ?_ (fun j hj => ⟨?_, Nat.zero_testBit _⟩) hd
    · obtain ⟨q, hq⟩ : ∃ q, r.length = q + 1 := ⟨r.length - 1, by omega⟩
      rw [hq]; rfl
    · rw [Nat.zero_add]
      cases j with
      | zero => exact other_has h00.2.1 hlast.2.2.2 (hc 0 hj).2.2.1 (fun e => hd 0 (r.length - 1) (by omega) (by omega) e.symm)
      | succ j =>
        have hj' := hc j (by omega)
        have hn : nextI r j = r.getD (j + 1) 0 := by unfold nextI; rw [mod_in hj]
        rw [hn] at hj'
        exact other_has (tieA_good hg (hin _ hj)).2.1 hj'.2.2.2 (hc _ hj).2.2.1 (hd j (j + 1) (by omega) hj)
theorem ringP_eq {l : List S39} (hg : goodT l) (r : List Int) : ringP l r = isRingR l r := by
  unfold ringP isRingR
  by_cases h3 : r.length < 3
  · rw [if_pos h3, if_pos h3]
  · rw [if_neg h3, if_neg h3]
    have f0 := ringN_fst l r r.length 0 0 0
    have h3' : 3 ≤ r.length := by omega
    by_cases h : (ringN l r r.length 0 0 0).2 = true
    · obtain ⟨hin, fr, hfr, hw⟩ := walk_of_ring hg h3' h
      rw [if_pos h] at f0
      have e1 : ringN l r r.length 0 0 0 = (((0 + feSum l r r.length 0 : Nat) : Int), true) := Prod.ext f0 h
      have e2 : ∀ v, (walkF l r v).2 = true → walkF l r v = (((0 + feSum l r r.length 0 : Nat) : Int), true) := fun v hv => Prod.ext (walkN_fst l r v _ _ _ _ _ hv) hv
      rw [if_pos hin, e1]
      by_cases ha : (walkF l r (tieA l (r.getD 0 0)).f0.toNat).2 = true
      · rw [if_pos ha, e2 _ ha]
      · rw [if_neg ha]
        have hb : (walkF l r (tieA l (r.getD 0 0)).f1.toNat).2 = true := by
          rcases hfr with e | e
          · rw [e] at hw; exact absurd hw ha
          · rw [← e]; exact hw
        rw [if_pos hb, e2 _ hb]
    · rw [if_neg h] at f0
      have e1 : ringN l r r.length 0 0 0 = (0, false) := Prod.ext f0 (by simpa using h)
      rw [e1]
      by_cases hin : ∀ k, k < r.length → inR l (r.getD k 0)
      · rw [if_pos hin, if_neg (fun ha => h (ring_of_walk hg h3' hin ha)), if_neg (fun ha => h (ring_of_walk hg h3' hin ha))]
      · rw [if_neg hin]
end Go.Proofs.Ytaegldcifhgnmaa.A

/- What the reference's isRing computes (plain). -/
namespace Go.Proofs.Ytaegldcifhgnmaa.B
open Go.Proofs.Ytaegldcifhgnmaa.A
open Go.RowKit Go.Proofs.YtaegldcifhgnmaaW.PrintWords Go.Proofs.YtaegldcifhgnmaaW.PrintMore

theorem rdJ (r : List Int) (i : Nat) : rd r (i : Int) = r.getD i 0 := by simp [rd]
theorem rdB (l : List S39) (i : Int) : rd_T39 l i = tieA l i := rfl
theorem other_eq {t : S39} (h0 : 0 ≤ t.f0) (h1 : 0 ≤ t.f1) (v : Nat) : drovewayref09_other.f t.f0 t.f1 t.f2 (v : Int) = some (match otherN t v with | some x => (x : Int) | none => -1) := by
  unfold drovewayref09_other.f otherN
  by_cases h : t.f0 = (v : Int)
  · rw [if_pos h, if_pos h]
    congr 1
    show t.f1 = ((t.f1.toNat : Nat) : Int)
    omega
  · rw [if_neg h, if_neg h]
    by_cases h' : t.f1 = (v : Int)
    · rw [if_pos h', if_pos h']
      congr 1
      show t.f0 = ((t.f0.toNat : Nat) : Int)
      omega
    · rw [if_neg h', if_neg h']
theorem or_add {a c : Nat} (ha : a < 2 ^ 62) (hc : c < 62) (h : a.testBit c = false) : a + 2 ^ c = a ||| 2 ^ c := by
  have h1 : a &&& 2 ^ c = 0 := by
    apply Nat.eq_of_testBit_eq
    intro i
    rw [Nat.testBit_and, tb_two, Nat.zero_testBit]
    by_cases e : i = c
    · subst e; rw [h, Bool.false_and]
    · rw [beq_eq_false_iff_ne.mpr e, Bool.and_false]
  have hp := two_lt hc
  have hb := BitVec.add_eq_or_of_and_eq_zero (BitVec.ofNat 64 a) (BitVec.ofNat 64 (2 ^ c)) (by
    apply BitVec.eq_of_toNat_eq
    rw [BitVec.toNat_and, BitVec.toNat_ofNat, BitVec.toNat_ofNat, Nat.mod_eq_of_lt (by omega), Nat.mod_eq_of_lt (by omega), h1]; rfl)
  have hn := congrArg BitVec.toNat hb
  rw [BitVec.toNat_add, BitVec.toNat_or, BitVec.toNat_ofNat, BitVec.toNat_ofNat, Nat.mod_eq_of_lt (show a < 2 ^ 64 by omega), Nat.mod_eq_of_lt (show 2 ^ c < 2 ^ 64 by omega), Nat.mod_eq_of_lt (by omega)] at hn
  exact hn
section
variable {n : Int} {l : List S39} {r : List Int}
theorem walked_l0 (hg : goodT l) (hr : r.length ≤ 1000) (hin : ∀ k, k < r.length → inR l (r.getD k 0)) (fr : Nat) : ∀ (d k at_ fe met : Nat), r.length - k = d → k ≤ r.length → fe ≤ k → met < 2 ^ 60 → Ev (fun K => drovewayref09_walked.l0 K l r (fr : Int) (at_ : Int) (met : Int) (fe : Int) (k : Int)) (walkN l r fr d k at_ fe met) := by
  intro d
  induction d with
  | zero =>
    intro k at_ fe met hd hk hf hm
    obtain rfl : k = r.length := by omega
    refine Ev.step (f := fun _ => some ((fe : Int), (at_ : Int) == (fr : Int))) (fun k => ?_) ?_
    · rw [drovewayref09_walked.l0, if_neg (by omega)]
    · rw [walkN]
      have : ((at_ : Int) == (fr : Int)) = decide (at_ = fr) := by
        by_cases e : at_ = fr
        · rw [decide_eq_true e, beq_iff_eq]; omega
        · rw [decide_eq_false e, beq_eq_false_iff_ne]; omega
      rw [this]
      exact Ev.now _
  | succ d ih =>
    intro k at_ fe met hd hk hf hm
    have hlt : k < r.length := by omega
    have hi := hin k hlt
    have gi := tieA_good hg hi
    have h1 := hi.1
    have h2 := hi.2
    rw [walkN]
    have hst : ∀ K, drovewayref09_walked.l0 (K + 1) l r (fr : Int) (at_ : Int) (met : Int) (fe : Int) (k : Int) = (some (match otherN (tieA l (r.getD k 0)) at_ with | some x => (x : Int) | none => -1)).bind fun t181 => (if t181 < 0 then (drovewayref09_walked.j1 K l r fr met fe k t181 true) else (if 0 ≤ t181 then (drovewayref09_walked.j1 K l r fr met fe k t181 ((Int.tmod (shr .i64 met t181) 2) == 1)) else (none))) := by
      intro K
      rw [drovewayref09_walked.l0, if_pos (by omega), if_pos (by omega), rdJ, if_pos h1, if_pos h2, rdB, other_eq gi.1 (by omega)]
    cases e : otherN (tieA l (r.getD k 0)) at_ with
    | none =>
      rw [e] at hst
      refine Ev.step hst ?_
      refine Ev.congr (fun K => by rw [Option.bind_some, if_pos (by decide)]) ?_
      refine Ev.step (f := fun _ => some ((0 : Int), false)) (fun K => ?_) (Ev.now _)
      rw [drovewayref09_walked.j1, if_pos rfl]
    | some v =>
      rw [e] at hst
      have p := other_parts gi.1 gi.2.1 e
      have pv := hasB_iff.mp p.2.1
      have hv : v < 60 := by omega
      have h60 : 2 ^ v < 2 ^ 60 := Nat.pow_lt_pow_right (by decide) hv
      refine Ev.step hst ?_
      refine Ev.congr (fun K => by rw [Option.bind_some, if_neg (by dsimp only; omega), if_pos (by dsimp only; omega)]) ?_
      dsimp only
      rw [shr_mod met v (by omega)]
      by_cases hb : met.testBit v = true
      · rw [if_pos hb, if_pos hb]
        refine Ev.step (f := fun _ => some ((0 : Int), false)) (fun K => ?_) (Ev.now _)
        rw [drovewayref09_walked.j1, if_pos (by decide)]
      · rw [if_neg hb, if_neg hb]
        have hb' : met.testBit v = false := by simpa using hb
        have hfb : fe + feA l r k ≤ k + 1 := by
          have : feA l r k ≤ 1 := by unfold feA feT; split <;> omega
          omega
        refine Ev.step (fun K => ?_) (ih (k + 1) v (fe + feA l r k) (met ||| 2 ^ v) (by omega) (by omega) hfb (or_lt hm h60))
        have hw : wrap64 ((met : Int) + ((2 ^ v : Nat) : Int)) = ((met ||| 2 ^ v : Nat) : Int) := by
          rw [← or_add (lt62 hm (by decide)) (by omega) hb']
          generalize 2 ^ v = P at h60
          rw [wrap64_id] <;> omega
        rw [drovewayref09_walked.j1, if_neg (by decide), if_pos (by omega), if_pos (by omega), if_pos (by omega), rdJ, if_pos h1, if_pos h2, rdB, shl_one (by omega), hw, wrapS hlt (by omega)]
        unfold feA feT
        by_cases hc : (tieA l (r.getD k 0)).f2 = true
        · rw [if_pos hc, if_pos hc, wrap64_id (by omega) (by omega)]; rfl
        · rw [if_neg hc, if_neg hc]; rfl
theorem walked_ev (hg : goodT l) (hr : r.length ≤ 1000) (hin : ∀ k, k < r.length → inR l (r.getD k 0)) (fr : Nat) : Ev (fun K => drovewayref09_walked.f K l r (fr : Int)) (walkF l r fr) :=
  walked_l0 hg hr hin fr r.length 0 fr 0 0 (by omega) (Nat.zero_le _) (Nat.le_refl _) (by decide)
theorem isRing_l0 (hg : goodT l) (hr : r.length ≤ 1000) (h3 : 3 ≤ r.length) : ∀ (d k : Nat), r.length - k = d → k ≤ r.length → (∀ j, j < k → inR l (r.getD j 0)) → Ev (fun K => drovewayref09_isRing.l0 K l r (k : Int)) (isRingR l r) := by
  intro d
  unfold isRingR
  rw [if_neg (by omega)]
  induction d with
  | zero =>
    intro k hd hk hp
    obtain rfl : k = r.length := by omega
    rw [if_pos hp]
    have hi := hp 0 (by omega)
    have gi := tieA_good hg hi
    have h1 := hi.1
    have h2 := hi.2
    have wa := walked_ev hg hr hp (tieA l (r.getD 0 0)).f0.toNat
    have wb := walked_ev hg hr hp (tieA l (r.getD 0 0)).f1.toNat
    rw [Int.toNat_of_nonneg (by omega)] at wa wb
    generalize walkF l r (tieA l (r.getD 0 0)).f0.toNat = wA at wa
    generalize walkF l r (tieA l (r.getD 0 0)).f1.toNat = wB at wb
    have e0 : rd r 0 = r.getD 0 0 := rdJ r 0
    refine Ev.step (f := fun k => (drovewayref09_walked.f k l r (tieA l (r.getD 0 0)).f0).bind fun bt188 => (if bt188.2 = true then (some (bt188.1, true)) else ((drovewayref09_walked.f k l r (tieA l (r.getD 0 0)).f1).bind fun bt192 => (if bt192.2 = true then (some (bt192.1, true)) else (some (0, false)))))) (fun K => ?_) ?_
    · rw [drovewayref09_isRing.l0, if_neg (by omega), if_pos (by omega), e0, if_pos h1, if_pos h2, rdB]
    refine Ev.bind (f := fun k bt188 => (if bt188.2 = true then (some (bt188.1, true)) else ((drovewayref09_walked.f k l r (tieA l (r.getD 0 0)).f1).bind fun bt192 => (if bt192.2 = true then (some (bt192.1, true)) else (some (0, false)))))) wa ?_
    by_cases ha : wA.2 = true
    · rw [if_pos ha]
      refine Ev.congr (f := fun _ => some wA) (fun K => ?_) (Ev.now _)
      rw [if_pos ha, ← ha]
    · rw [if_neg ha]
      refine Ev.congr (fun K => by rw [if_neg ha]) ?_
      refine Ev.bind (f := fun _ bt192 => (if bt192.2 = true then (some (bt192.1, true)) else (some (0, false)))) wb ?_
      by_cases hb : wB.2 = true
      · simp only [if_pos hb]
        refine Ev.congr (f := fun _ => some wB) (fun K => ?_) (Ev.now _)
        rw [← hb]
      · simp only [if_neg hb]
        exact Ev.now _
  | succ d ih =>
    intro k hd hk hp
    have hlt : k < r.length := by omega
    by_cases hi : inR l (r.getD k 0)
    · refine Ev.step (fun K => ?_) (ih (k + 1) (by omega) (by omega) fun j hj => ?_)
      · rw [drovewayref09_isRing.l0, if_pos (by omega), if_pos (by omega), rdJ, if_neg (by unfold inR at hi; omega), if_neg (by unfold inR at hi; omega), wrapS hlt (by omega)]
      · by_cases e : j = k
        · subst e; exact hi
        · exact hp j (by omega)
    · rw [if_neg (fun h => hi (h k hlt))]
      refine Ev.step (f := fun _ => some ((0 : Int), false)) (fun K => ?_) (Ev.now _)
      rw [drovewayref09_isRing.l0, if_pos (by omega), if_pos (by omega), rdJ]
      by_cases h0 : r.getD k 0 < 0
      · rw [if_pos h0]
      · rw [if_neg h0, if_pos (by unfold inR at hi; omega)]
theorem isRing_ev (hg : goodT l) (hr : r.length ≤ 1000) : Ev (fun K => drovewayref09_isRing.f K l r) (isRingR l r) := by
  by_cases h : r.length < 3
  · unfold isRingR
    rw [if_pos h]
    refine Ev.congr (f := fun _ => some ((0 : Int), false)) (fun K => ?_) (Ev.now _)
    unfold drovewayref09_isRing.f
    rw [if_pos (by omega)]
  · refine Ev.congr (fun K => ?_) (isRing_l0 hg hr (by omega) r.length 0 (by omega) (Nat.zero_le _) (fun j hj => absurd hj (Nat.not_lt_zero _)))
    unfold drovewayref09_isRing.f
    rw [if_neg (by omega)]
    rfl
theorem rIsRing_ev (n : Int) (hl : l.length ≤ 1000) (hr : r.length ≤ 1000) : Ev (fun k => drovewayref09_IsRing.f k n l r) (if tiesE n l = 0 then ((isRingR l r).1, (isRingR l r).2, 0) else (0, false, tiesE n l)) := by
  refine Ev.bind (f := fun k t => (if t = 0 then ((drovewayref09_isRing.f k l r).bind fun bt277 => (some (bt277.1, bt277.2, 0))) else (some (0, false, t)))) (Ties_ev (n := n) hl) ?_
  by_cases h : tiesE n l = 0
  · rw [if_pos h]
    refine Ev.congr (fun k => by rw [if_pos h]) ?_
    exact Ev.bind (f := fun _ bt277 => (some (bt277.1, bt277.2, (0 : Int)))) (isRing_ev (tiesE_good h) hr) (Ev.now _)
  · rw [if_neg h]
    exact Ev.congr (fun k => by rw [if_neg h]) (Ev.now _)
end
end Go.Proofs.Ytaegldcifhgnmaa.B

/- The specification's search for a ring of a size: the walk. (Printed by gen_q4.py.) -/
namespace Go.Proofs.Ytaegldcifhgnmaa.B
open Go.Proofs.Ytaegldcifhgnmaa.A
open Go.RowKit Go.Proofs.YtaegldcifhgnmaaW.PrintWords Go.Proofs.YtaegldcifhgnmaaW.PrintMore
set_option linter.unusedSimpArgs false

theorem bit_ask (y a : Nat) : (((y : Int) / 2 ^ a).tmod 2 == 1) = y.testBit a := by
  have e : ((y : Int) / 2 ^ a) = ((y / 2 ^ a : Nat) : Int) := by simp
  rw [e, Int.tmod_eq_emod_of_nonneg (Int.natCast_nonneg _), Nat.testBit_eq_decide_div_mod_eq]
  by_cases h : y / 2 ^ a % 2 = 1
  · have : ((y / 2 ^ a : Nat) : Int) % 2 = 1 := by omega
    rw [this, decide_eq_true h]; rfl
  · have : ((y / 2 ^ a : Nat) : Int) % 2 = 0 := by omega
    rw [this, decide_eq_false h]; rfl
theorem two_wrap {a : Nat} (h : a < 60) : IntKind.i64.wrap ((2 : Int) ^ a) = 2 ^ a := by rw [pow_cast]; exact wrap64_nat _ (Int.natCast_nonneg _) (by exact_mod_cast two_lt (show a < 62 by omega))
theorem or_one {met a : Nat} (hm : met < 2 ^ 60) (ha : a < 60) : bits .or .i64 (met : Int) (2 ^ a) = ((met ||| 2 ^ a : Nat) : Int) := by
  rw [pow_cast, or64 met (2 ^ a) (lt62 hm (by decide)) (two_lt (by omega))]
theorem rother_calls (t : S39) (v : Nat) (h0 : 0 ≤ t.f0) (h1 : 0 ≤ t.f1) (w : World) :
    Calls Try.prog 88 #[.agg #[.int .i64 t.f0, .int .i64 t.f1, .bool t.f2], .int .i64 v] w fun e w' => e = .returned (.int .i64 (match otherN t v with | some x => (x : Int) | none => -1)) ∧ Below w.heap.size w w' :=
  drovewayref09_other.calls t.f0 t.f1 t.f2 v _ w (other_eq h0 h1 v)

/-- What is asked for of a ring's feuds. -/
def askB (one : Bool) (fe : Int) : Bool := if one = true then fe == 1 else Int.tmod fe 2 == 1
def ringedR (l : List S39) (one : Bool) : Nat → List Int → Nat → Nat → Option (List Int)
  | 0, now, _, _ => if ((isRingR l now).2 && askB one (isRingR l now).1) = true then some now else none
  | d + 1, now, at_, met => firstN (fun i => match otherN (l.getD i z39) at_ with
    | none => none
    | some v => if met.testBit v = true then none else ringedR l one d (now ++ [(i : Int)]) v (met ||| 2 ^ v)) l.length
def RgPost (B : Nat) (S : Option (List Int)) (W : World) (e : Ending) (w' : World) : Prop :=
  ∃ v : Value, e = .returned v ∧ Kd.R (Kd.int .i64) 3 w' B (fun _ => True) v (S.getD []) ∧ (S = none → v = .slice none 0 0) ∧ (S ≠ none → ∃ b n c, v = .slice (some b) n c) ∧ Below W.heap.size W w'
def RgSaid (l : List S39) (one : Bool) (A : Option Addr) (c size B d : Nat) : Prop :=
  ∀ (now : List Int) (at_ met : Nat) (v : Value) (W : World), Kd.R (Kd.int .i64) 3 W B (fun _ => True) v now → B ≤ W.heap.size → now.length + d = size → now ≠ [] → at_ < 60 → met < 2 ^ 60 → Kd.C k39 W A l.length l →
    Calls Try.prog 77 #[.slice A l.length c, .int .i64 size, v, .int .i64 at_, .int .i64 met, .bool one] W (RgPost B (ringedR l one d now at_ met) W)
theorem row_some {w : World} {A : Option Addr} {n c1 B : Nat} {now : List Int} (h : Kd.R (Kd.int .i64) 3 w B (fun _ => True) (.slice A n c1) now) (hne : now ≠ []) : ∃ ad, A = some ad := by
  obtain ⟨A', c', e, _, hC⟩ := Kd.R_reads h
  have hl : 0 < now.length := List.length_pos_iff.mpr hne
  obtain ⟨ad, ha, _⟩ := Kd.at_int hC 0 (by omega) (by omega)
  injection e with e1
  exact ⟨ad, e1.trans ha⟩

set_option maxRecDepth 100000 in
set_option maxHeartbeats 1600000 in
theorem rg_zero (l : List S39) (hg : goodT l) (one : Bool) (A : Option Addr) (c size B : Nat) (hc : l.length ≤ c) (h9 : size ≤ 1000) : RgSaid l one A c size B 0 := by
  intro now at_ met v W hR hB hn hne hat hm hr
  obtain ⟨A2, c2, rfl, hc2, hC⟩ := Kd.R_reads hR
  rw [Nat.add_zero] at hn
  subst hn
  obtain ⟨k, hk⟩ := (isRing_ev hg h9).rounds
  have hsome := row_some hR hne
  have HR := Aside0.mk hR
  have HC := Aside0.mk hc
  have HCC := Aside0.mk hC
  have HC2 := Aside0.mk hc2
  have HA := Aside0.mk hr
  have HNE := Aside0.mk hsome
  obtain ⟨S, hS⟩ : ∃ S, ringedR l one 0 now at_ met = S := ⟨_, rfl⟩
  rw [hS]
  rw [ringedR] at hS
  generalize isRingR l now = Z at hk hS
  obtain ⟨fe, ok⟩ := Z
  dsimp only at hS
  have HK := Aside0.mk hk
  have HS := Aside0.mk hS
  clear hR hr hC hc2 hc hk hS hg hB hat hm hsome
  cases ok with
  | false =>
    go_enter Try.func77, Try.ntmps77
    go_wp2_with (go_at_call 64; refine (drovewayref09_isRing.calls k A c l A2 c2 now fe false _ HA.out HC.out HCC.out HC2.out HK.out).mono ?_; rintro e w2 ⟨rfl, hb2⟩; have HB2 := Aside0.mk hb2; clear hb2)
    go_ret
    have : S = none := by rw [← HS.out]; rfl
    subst this
    exact ⟨_, rfl, Kd.R_nil _ _ _ _ _, fun _ => rfl, fun h => absurd rfl h, HB2.out⟩
  | true =>
    cases one with
    | true =>
      cases hf : (fe == 1) with
      | false =>
        have HF := Aside0.mk hf
        go_enter Try.func77, Try.ntmps77
        go_wp2_with (go_at_call 64; refine (drovewayref09_isRing.calls k A c l A2 c2 now fe true _ HA.out HC.out HCC.out HC2.out HK.out).mono ?_; rintro e w2 ⟨rfl, hb2⟩; have HB2 := Aside0.mk hb2; clear hb2)
        go_ret
        have ha : askB true fe = false := by unfold askB; rw [if_pos rfl]; exact HF.out
        have : S = none := by rw [← HS.out, ha]; rfl
        subst this
        exact ⟨_, rfl, Kd.R_nil _ _ _ _ _, fun _ => rfl, fun h => absurd rfl h, HB2.out⟩
      | true =>
        have HF := Aside0.mk hf
        go_enter Try.func77, Try.ntmps77
        go_wp2_with (go_at_call 64; refine (drovewayref09_isRing.calls k A c l A2 c2 now fe true _ HA.out HC.out HCC.out HC2.out HK.out).mono ?_; rintro e w2 ⟨rfl, hb2⟩; have HB2 := Aside0.mk hb2; clear hb2)
        go_ret
        have ha : askB true fe = true := by unfold askB; rw [if_pos rfl]; exact HF.out
        have : S = some now := by rw [← HS.out, ha]; rfl
        subst this
        obtain ⟨ad, rfl⟩ := HNE.out
        exact ⟨_, rfl, Kd.R_below HR.out HB2.out, (fun h => by cases h), fun _ => ⟨ad, _, _, rfl⟩, HB2.out⟩
    | false =>
      cases hf : (Int.tmod fe 2 == 1) with
      | false =>
        have HF := Aside0.mk hf
        go_enter Try.func77, Try.ntmps77
        go_wp2_with (go_at_call 64; refine (drovewayref09_isRing.calls k A c l A2 c2 now fe true _ HA.out HC.out HCC.out HC2.out HK.out).mono ?_; rintro e w2 ⟨rfl, hb2⟩; have HB2 := Aside0.mk hb2; clear hb2)
        go_ret
        have ha : askB false fe = false := by unfold askB; rw [if_neg (by decide)]; exact HF.out
        have : S = none := by rw [← HS.out, ha]; rfl
        subst this
        exact ⟨_, rfl, Kd.R_nil _ _ _ _ _, fun _ => rfl, fun h => absurd rfl h, HB2.out⟩
      | true =>
        have HF := Aside0.mk hf
        go_enter Try.func77, Try.ntmps77
        go_wp2_with (go_at_call 64; refine (drovewayref09_isRing.calls k A c l A2 c2 now fe true _ HA.out HC.out HCC.out HC2.out HK.out).mono ?_; rintro e w2 ⟨rfl, hb2⟩; have HB2 := Aside0.mk hb2; clear hb2)
        go_ret
        have ha : askB false fe = true := by unfold askB; rw [if_neg (by decide)]; exact HF.out
        have : S = some now := by rw [← HS.out, ha]; rfl
        subst this
        obtain ⟨ad, rfl⟩ := HNE.out
        exact ⟨_, rfl, Kd.R_below HR.out HB2.out, (fun h => by cases h), fun _ => ⟨ad, _, _, rfl⟩, HB2.out⟩

set_option maxRecDepth 100000 in
set_option maxHeartbeats 3200000 in
theorem rg_step (l : List S39) (hg : goodT l) (hl : l.length ≤ 1000) (one : Bool) (A : Option Addr) (c size B d : Nat) (h9 : size ≤ 1000) (ih : RgSaid l one A c size B d) : RgSaid l one A c size B (d + 1) := by
  intro now at_ met v W hR hB hn hne hat hm hr
  obtain ⟨A2, c2, rfl, hc2, _⟩ := Kd.R_reads hR
  obtain ⟨ad2, rfl⟩ := row_some hR hne
  have hz : ((now.length : Int) == (size : Int)) = false := by rw [beq_eq_false_iff_ne]; omega
  have hz2 : ¬ (now.length : Int) = (size : Int) := by omega
  have HI := Aside0.mk ih
  have HB := Aside0.mk hB
  have HN := Aside0.mk hn
  have HM := Aside0.mk hm
  have HA := Aside0.mk hr
  have HG := Aside0.mk hg
  have HR := Aside0.mk hR
  obtain ⟨S, hS⟩ : ∃ S, ringedR l one (d + 1) now at_ met = S := ⟨_, rfl⟩
  rw [hS]
  rw [ringedR] at hS
  have HS := Aside0.mk hS
  have hq : now.length ≤ 1000 := by omega
  have hb1 : (0 : Int) ≤ (now.length : Int) := by omega
  have hb2 : (now.length : Int) ≤ (c2 : Int) := by omega
  obtain ⟨F, hF⟩ : ∃ F : Nat → Option (List Int), F = (fun i => match otherN (l.getD i z39) at_ with
    | none => none
    | some v => if met.testBit v = true then none else ringedR l one d (now ++ [(i : Int)]) v (met ||| 2 ^ v)) := ⟨_, rfl⟩
  have HFF : Aside0 (∀ i, F i = match otherN (l.getD i z39) at_ with
    | none => none
    | some v => if met.testBit v = true then none else ringedR l one d (now ++ [(i : Int)]) v (met ||| 2 ^ v)) := ⟨fun i => by rw [hF]⟩
  have HSF : Aside0 (firstN F l.length = S) := ⟨by rw [hF]; exact HS.out⟩
  clear hR hB hn hm hr hg hS HS hc2 hF ih
  go_enter Try.func77, Try.ntmps77
  go_wp2
  go_loopg [15, 16, 17] l.length (fun gg v15 _ _ wr => ∃ i : Nat, i ≤ l.length ∧ l.length - i ≤ gg ∧ v15 = .int .i64 i ∧ Aside0 (Below W.heap.size W wr) ∧ Aside0 (firstN F i = none))
  case atStart => exact ⟨0, Nat.zero_le _, by omega, rfl, ⟨Below.refl _ _⟩, ⟨rfl⟩⟩
  case round =>
    obtain ⟨i, hi, hgg, rfl, HBr, HF⟩ := hrel
    by_cases hlt : i < l.length
    · have hltz : (i : Int) < (l.length : Int) := by omega
      obtain ⟨ad, had, hx0, hx1, hx2⟩ := at_T39 (Kd.C_below HA.out HBr.out) (i : Int) (by omega) (by omega)
      subst had
      rw [Int.toNat_natCast] at hx0 hx1 hx2
      have hrd : rd_T39 l (i : Int) = l.getD i z39 := by simp [rd_T39]
      rw [hrd] at hx0 hx1 hx2
      have hts := HG.out _ (getD_mem z39 hlt)
      generalize hy : l.getD i z39 = y at hx0 hx1 hx2 hts
      obtain ⟨ya, yb, yf⟩ := y
      dsimp only at hx0 hx1 hx2 hts
      have HY := Aside0.mk hy
      have hts1 : 0 ≤ yb := by omega
      clear hy hrd
      cases ho : otherN ⟨ya, yb, yf⟩ at_ with
      | none =>
        have HO := Aside0.mk ho
        clear ho
        go_wp2_with (go_at_call 88; refine (rother_calls ⟨ya, yb, _⟩ at_ hts.1 hts1 _).mono ?_; rw [HO.out]; rintro e w3 ⟨rfl, hb3⟩; have HB3 := Aside0.mk (below_then HBr.out HBr.out.size hb3); clear hb3)
        go_roundg (l.length - (i + 1))
        case measure => omega
        case rel => exact ⟨i + 1, by omega, by omega, by go_num, HB3, ⟨by rw [firstN_succ_none HF.out, HFF.out, HY.out, HO.out]⟩⟩
      | some u =>
        have HO := Aside0.mk ho
        have hp := other_parts hts.1 hts.2.1 ho
        have hpu := hasB_iff.mp hp.2.1
        have hu : u < 60 := by dsimp only at hpu; omega
        have hu0 : ¬ (u : Int) < 0 := by omega
        have ku := bit_ask met u
        clear ho hp hpu
        cases ht : met.testBit u with
        | true =>
          have HT := Aside0.mk ht
          rw [ht] at ku
          clear ht
          go_wp2_with (go_at_call 88; refine (rother_calls ⟨ya, yb, _⟩ at_ hts.1 hts1 _).mono ?_; rw [HO.out]; rintro e w3 ⟨rfl, hb3⟩; have HB3 := Aside0.mk (below_then HBr.out HBr.out.size hb3); clear hb3)
          go_roundg (l.length - (i + 1))
          case measure => omega
          case rel => exact ⟨i + 1, by omega, by omega, by go_num, HB3, ⟨by rw [firstN_succ_none HF.out, HFF.out, HY.out, HO.out]; dsimp only; rw [if_pos HT.out]⟩⟩
        | false =>
          have HT := Aside0.mk ht
          rw [ht] at ku
          clear ht
          obtain ⟨R, hRR⟩ : ∃ R, ringedR l one d (now ++ [(i : Int)]) u (met ||| 2 ^ u) = R := ⟨_, rfl⟩
          have HFI : Aside0 (F i = R) := ⟨by rw [HFF.out, HY.out, HO.out]; dsimp only; rw [if_neg (by rw [HT.out]; exact Bool.false_ne_true)]; exact hRR⟩
          have HRR := Aside0.mk hRR
          clear hRR
          have hor := or_one HM.out hu
          have hwu := two_wrap hu
          go_must (go_wp2_with (go_at_call 88; refine (rother_calls ⟨ya, yb, _⟩ at_ hts.1 hts1 _).mono ?_; rw [HO.out]; rintro e w3 ⟨rfl, hb3⟩; have HB3 := Aside0.mk (below_then HBr.out HBr.out.size hb3); clear hb3))
          have HRW : Aside0 (Kd.R (Kd.int .i64) 3 w3.drew B (fun _ => True) (.slice (some ad2) now.length c2) now) := ⟨Kd.R_below HR.out (below_drew HB3.out)⟩
          have HBW : Aside0 (B ≤ w3.drew.heap.size) := ⟨Nat.le_trans HB.out HB3.out.size⟩
          have HREC : Aside0 (∀ (v4 : Value) (w4 : World), Kd.R (Kd.int .i64) 3 w4 B (fun _ => True) v4 (now ++ [(i : Int)]) → Below w3.drew.heap.size w3.drew w4 → Calls Try.prog 77 #[.slice (some ad) l.length c, .int .i64 size, v4, .int .i64 u, .int .i64 (met ||| 2 ^ u : Nat), .bool one] w4 (RgPost B R w4)) := ⟨fun v4 w4 h1 h2 => by
            rw [← HRR.out]
            exact HI.out (now ++ [(i : Int)]) u (met ||| 2 ^ u) v4 w4 h1 (Nat.le_trans HBW.out h2.size) (by rw [List.length_append, List.length_singleton]; have := HN.out; omega) (by simp) hu (or_lt HM.out (Nat.pow_lt_pow_right (by decide) hu)) (Kd.C_below HA.out ((below_drew HB3.out).trans (Below.mono h2 HB3.out.size)))⟩
          refine wp_region_noPanic ?_
          refine wp_region_held_drew (S := fun _ => True) (by kernel_rfl) trivial (fun hHeld => ?_)
          refine H_on 0 67 ?vn0 rfl rfl (by kernel_rfl) (by kernel_rfl) (by kernel_rfl) (by rfl) ?hn0 hHeld ?rn0
          case hn0 => (intro w hSw; (try dsimp only at hSw); go_simp <;> with_reducible rfl)
          simp only [Act.put, List.setIfInBounds_toArray, List.set_cons_zero, List.set_cons_succ]
          refine H_on 1 68 ?vn1 rfl rfl (by kernel_rfl) (by kernel_rfl) (by kernel_rfl) (by rfl) ?hn1 hHeld ?rn1
          case hn1 => (intro w hSw; (try dsimp only at hSw); go_simp <;> with_reducible rfl)
          simp only [Act.put, List.setIfInBounds_toArray, List.set_cons_zero, List.set_cons_succ]
          refine H_on 2 69 ?vn2 rfl rfl (by kernel_rfl) (by kernel_rfl) (by kernel_rfl) (by rfl) ?hn2 hHeld ?rn2
          case hn2 => (intro w hSw; (try dsimp only at hSw); go_simp <;> with_reducible rfl)
          simp only [Act.put, List.setIfInBounds_toArray, List.set_cons_zero, List.set_cons_succ]
          refine H_on 3 70 ?vn3 rfl rfl (by kernel_rfl) (by kernel_rfl) (by kernel_rfl) (by rfl) ?hn3 hHeld ?rn3
          case hn3 => (intro w hSw; (try dsimp only at hSw); go_simp <;> with_reducible rfl)
          simp only [Act.put, List.setIfInBounds_toArray, List.set_cons_zero, List.set_cons_succ]
          refine H_on 4 71 ?vn4 rfl rfl (by kernel_rfl) (by kernel_rfl) (by kernel_rfl) (by rfl) ?hn4 hHeld ?rn4
          case hn4 => (intro w hSw; (try dsimp only at hSw); go_simp <;> with_reducible rfl)
          simp only [Act.put, List.setIfInBounds_toArray, List.set_cons_zero, List.set_cons_succ]
          refine H_on 5 72 ?vn5 rfl rfl (by kernel_rfl) (by kernel_rfl) (by kernel_rfl) (by rfl) ?hn5 hHeld ?rn5
          case hn5 => (intro w hSw; (try dsimp only at hSw); go_simp <;> with_reducible rfl)
          simp only [Act.put, List.setIfInBounds_toArray, List.set_cons_zero, List.set_cons_succ]
          refine H_on 6 73 ?vn6 rfl rfl (by kernel_rfl) (by kernel_rfl) (by kernel_rfl) (by rfl) ?hn6 hHeld ?rn6
          case hn6 => (intro w hSw; (try dsimp only at hSw); go_simp <;> with_reducible rfl)
          simp only [Act.put, List.setIfInBounds_toArray, List.set_cons_zero, List.set_cons_succ]
          refine H_on 7 74 ?vn7 rfl rfl (by kernel_rfl) (by kernel_rfl) (by kernel_rfl) (by rfl) ?hn7 hHeld ?rn7
          case hn7 => (intro w hSw; (try dsimp only at hSw); go_simp <;> with_reducible rfl)
          simp only [Act.put, List.setIfInBounds_toArray, List.set_cons_zero, List.set_cons_succ]
          refine H_on 8 75 ?vn8 rfl rfl (by kernel_rfl) (by kernel_rfl) (by kernel_rfl) (by rfl) ?hn8 hHeld ?rn8
          case hn8 => (intro w hSw; (try dsimp only at hSw); go_simp <;> with_reducible rfl)
          simp only [Act.put, List.setIfInBounds_toArray, List.set_cons_zero, List.set_cons_succ]
          refine H_on 11 78 ?vn11 rfl rfl (by kernel_rfl) (by kernel_rfl) (by kernel_rfl) (by rfl) ?hn11 hHeld ?rn11
          case hn11 => (intro w hSw; (try dsimp only at hSw); go_simp <;> with_reducible rfl)
          simp only [Act.put, List.setIfInBounds_toArray, List.set_cons_zero, List.set_cons_succ]
          refine H_on 12 79 ?vn12 rfl rfl (by kernel_rfl) (by kernel_rfl) (by kernel_rfl) (by rfl) ?hn12 hHeld ?rn12
          case hn12 => (intro w hSw; (try dsimp only at hSw); go_simp <;> with_reducible rfl)
          simp only [Act.put, List.setIfInBounds_toArray, List.set_cons_zero, List.set_cons_succ]
          refine H_on 13 80 ?vn13 rfl rfl (by kernel_rfl) (by kernel_rfl) (by kernel_rfl) (by rfl) ?hn13 hHeld ?rn13
          case hn13 => (intro w hSw; (try dsimp only at hSw); go_simp <;> with_reducible rfl)
          simp only [Act.put, List.setIfInBounds_toArray, List.set_cons_zero, List.set_cons_succ]
          refine H_on 14 81 ?vn14 rfl rfl (by kernel_rfl) (by kernel_rfl) (by kernel_rfl) (by rfl) ?hn14 hHeld ?rn14
          case hn14 => (intro w hSw; (try dsimp only at hSw); go_simp <;> with_reducible rfl)
          simp only [Act.put, List.setIfInBounds_toArray, List.set_cons_zero, List.set_cons_succ]
          refine H_on 15 82 ?vn15 rfl rfl (by kernel_rfl) (by kernel_rfl) (by kernel_rfl) (by rfl) ?hn15 hHeld ?rn15
          case hn15 => (intro w hSw; (try dsimp only at hSw); go_simp <;> with_reducible rfl)
          simp only [Act.put, List.setIfInBounds_toArray, List.set_cons_zero, List.set_cons_succ]
          refine H_on 16 83 ?vn16 rfl rfl (by kernel_rfl) (by kernel_rfl) (by kernel_rfl) (by rfl) ?hn16 hHeld ?rn16
          case hn16 => (intro w hSw; (try dsimp only at hSw); go_simp <;> with_reducible rfl)
          simp only [Act.put, List.setIfInBounds_toArray, List.set_cons_zero, List.set_cons_succ]
          refine wpAnyH_ready (rs := [9]) (by kernel_rfl) (by simp) ?_
          refine AllReadyH.cons rfl (fun K hK => ?_) AllReadyH.nil
          go_simp
          refine hK.out _ _ trivial (fun hHeld => ?_)
          clear hK K
          try simp only [Act.put, List.setIfInBounds_toArray, List.set_cons_zero, List.set_cons_succ]
          refine wpAnyH_ready (rs := [10]) (by kernel_rfl) (by simp) ?_
          refine AllReadyH.cons rfl (fun K hK => ?_) AllReadyH.nil
          refine step_appendI (W := w3.drew) (B := B) (A1 := some ad2) (n := now.length) (c1 := c2) (now := now) (i : Int) (by rfl) _ _ rfl rfl rfl HRW.out HBW.out (by omega) ?_
          intro v4 w4 hR4 hb4
          have HR4 := Aside0.mk hR4
          have HB4 := Aside0.mk hb4
          clear hR4 hb4
          refine hK.out _ _ trivial (fun hHeld => ?_)
          clear hK K
          try simp only [Act.put, List.setIfInBounds_toArray, List.set_cons_zero, List.set_cons_succ]
          refine wpAnyH_ready (rs := [17]) (by kernel_rfl) (by simp) ?_
          refine AllReadyH.cons rfl (fun K hK => ?_) AllReadyH.nil
          go_simp
          refine (HREC.out v4 w4 HR4.out HB4.out).mono ?_
          rintro e w5 ⟨v5, rfl, hR5, hn5, hs5, hb5⟩
          have HR5 := Aside0.mk hR5
          have HN5 := Aside0.mk hn5
          have HS5 := Aside0.mk hs5
          have HB5 := Aside0.mk hb5
          clear hR5 hb5 hn5 hs5
          go_wp2_with fail
          refine hK.out _ _ trivial (fun hHeld => ?_)
          clear hK K
          try simp only [Act.put, List.setIfInBounds_toArray, List.set_cons_zero, List.set_cons_succ]
          refine H_on 18 17 ?vn18 rfl rfl (by kernel_rfl) (by kernel_rfl) (by kernel_rfl) (by rfl) ?hn18 hHeld ?rn18
          case hn18 => (intro w hSw; (try dsimp only at hSw); go_simp <;> with_reducible rfl)
          simp only [Act.put, List.setIfInBounds_toArray, List.set_cons_zero, List.set_cons_succ]
          refine wpAnyH_done (by kernel_rfl) ?_ _
          refine NoPanic.normal ?_
          have HBF : Aside0 (Below W.heap.size W w5) := ⟨((below_drew HB3.out).trans (Below.mono HB4.out HB3.out.size)).trans (Below.mono HB5.out (Nat.le_trans HB3.out.size HB4.out.size))⟩
          cases R with
          | some r =>
            obtain ⟨b5, n5, c5, hv5⟩ := HS5.out (by simp)
            subst hv5
            have hnil := fun (w : World) => run_neq_slice_nil_any w 28 3 (some b5) n5 c5 0 0 Try.underlying28
            go_wp2
            go_ret
            have hfin : S = some r := by rw [← HSF.out]; exact firstN_some hlt HF.out HFI.out
            subst hfin
            exact ⟨_, rfl, HR5.out, (fun h => by cases h), fun _ => ⟨_, _, _, rfl⟩, HBF.out⟩
          | none =>
            have hv5 := HN5.out rfl
            subst hv5
            have hnil := fun (w : World) => run_neq_slice_nil_any w 28 3 none 0 0 0 0 Try.underlying28
            go_wp2
            go_roundg (l.length - (i + 1))
            case measure => omega
            case rel => exact ⟨i + 1, by omega, by omega, by go_num, HBF, ⟨by rw [firstN_succ_none HF.out]; exact HFI.out⟩⟩
    · have hltz : ¬ (i : Int) < (l.length : Int) := by omega
      have him : i = l.length := by omega
      have HSN : Aside0 (S = none) := ⟨by rw [← HSF.out, ← him]; exact HF.out⟩
      go_wp2
      go_ret
      exact ⟨_, rfl, by rw [HSN.out]; exact Kd.R_nil _ _ _ _ _, fun _ => rfl, fun h => absurd HSN.out h, HBr.out⟩
theorem ringed_calls (l : List S39) (hg : goodT l) (hl : l.length ≤ 1000) (one : Bool) (A : Option Addr) (c size B : Nat) (hc : l.length ≤ c) (h9 : size ≤ 1000) : ∀ d, RgSaid l one A c size B d
  | 0 => rg_zero l hg one A c size B hc h9
  | d + 1 => rg_step l hg hl one A c size B d h9 (ringed_calls l hg hl one A c size B hc h9 d)
end Go.Proofs.Ytaegldcifhgnmaa.B

/- The specification's shortest ring: the walk. (Printed by gen_q5.py.) -/
namespace Go.Proofs.Ytaegldcifhgnmaa.B
open Go.Proofs.Ytaegldcifhgnmaa.A
open Go.RowKit Go.Proofs.YtaegldcifhgnmaaW.PrintWords Go.Proofs.YtaegldcifhgnmaaW.PrintMore
set_option linter.unusedSimpArgs false

/-! ### Less -/
def lessB (a b : List Int) : Bool := decide (cmpL a b < 0)
theorem less_l0 (a b : List Int) (ha : a.length ≤ 1000) : ∀ d i, a.length - i = d → i ≤ a.length → i ≤ b.length → Ev (fun k => drovewayref09_Less.l0 k a b (i : Int)) (decide (cmpL (a.drop i) (b.drop i) < 0)) := by
  intro d
  induction d with
  | zero =>
    intro i hd hi hb
    have e : a.length = i := by omega
    refine Ev.step (f := fun k => drovewayref09_Less.j1 k a b (i : Int) false) (fun k => by rw [drovewayref09_Less.l0, if_neg (by omega)]) ?_
    refine Ev.step (f := fun _ => some (decide ((a.length : Int) < (b.length : Int)))) (fun k => by rw [drovewayref09_Less.j1, if_neg (by decide)]) ?_
    rw [cmpL_end e hb]
    by_cases h : (a.length : Int) < (b.length : Int)
    · rw [if_pos h, decide_eq_true h]; exact Ev.now _
    · rw [if_neg h, decide_eq_false h]; exact Ev.now _
  | succ d ih =>
    intro i hd hi hb
    have hlt : i < a.length := by omega
    by_cases hlb : i < b.length
    · refine Ev.step (f := fun k => drovewayref09_Less.j1 k a b (i : Int) true) (fun k => by rw [drovewayref09_Less.l0, if_pos (by omega), decide_eq_true (by omega)]) ?_
      rw [cmpL_drop hlt hlb]
      by_cases e : a.getD i 0 = b.getD i 0
      · rw [if_pos (by unfold cmpI; rw [e, if_neg (by omega), if_neg (by omega)])]
        refine Ev.step (fun k => ?_) (ih (i + 1) (by omega) (by omega) (by omega))
        rw [drovewayref09_Less.j1, if_pos rfl, if_pos (by omega), if_pos (by omega), if_pos (by omega), rdJ, rdJ, if_pos e, wrapS hlt (by omega)]
      · have hz : ¬ cmpI (a.getD i 0) (b.getD i 0) = 0 := by
          unfold cmpI
          split
          · omega
          · split <;> omega
        rw [if_neg hz]
        refine Ev.step (f := fun _ => some (decide (cmpI (a.getD i 0) (b.getD i 0) < 0))) (fun k => ?_) (Ev.now _)
        rw [drovewayref09_Less.j1, if_pos rfl, if_pos (by omega), if_pos (by omega), if_pos (by omega), rdJ, rdJ, if_neg e]
        congr 1
        rw [decide_eq_decide]
        unfold cmpI
        split
        · omega
        · split <;> omega
    · refine Ev.step (f := fun k => drovewayref09_Less.j1 k a b (i : Int) false) (fun k => by rw [drovewayref09_Less.l0, if_pos (by omega), decide_eq_false (by omega)]) ?_
      refine Ev.step (f := fun _ => some (decide ((a.length : Int) < (b.length : Int)))) (fun k => by rw [drovewayref09_Less.j1, if_neg (by decide)]) ?_
      rw [cmpL_gt hlt (by omega), decide_eq_false (by omega : ¬ (1 : Int) < 0), decide_eq_false (by omega)]
      exact Ev.now _
theorem less_ev (a b : List Int) (ha : a.length ≤ 1000) : Ev (fun k => drovewayref09_Less.f k a b) (lessB a b) :=
  less_l0 a b ha a.length 0 rfl (Nat.zero_le _) (Nat.zero_le _)
theorem less_calls {W0 w : World} {B : Nat} {A1 A2 : Option Addr} {n1 c1 n2 c2 : Nat} {a b : List Int} (h1 : Kd.R (Kd.int .i64) 3 w B (fun _ => True) (.slice A1 n1 c1) a) (h2 : Kd.R (Kd.int .i64) 3 w B (fun _ => True) (.slice A2 n2 c2) b) (ha : a.length ≤ 1000) (X : Bool) (hX : lessB a b = X) (_hB : Below W0.heap.size W0 w) :
    Calls Try.prog 41 #[.slice A1 n1 c1, .slice A2 n2 c2] w fun e w' => e = .returned (.bool X) ∧ Below w.heap.size w w' := by
  obtain ⟨k, hk⟩ := (less_ev a b ha).rounds
  rw [hX] at hk
  obtain ⟨A1', c1', e1, hc1, hC1⟩ := Kd.R_reads h1
  obtain ⟨A2', c2', e2, hc2, hC2⟩ := Kd.R_reads h2
  injection e1 with e3 e4 e5
  injection e2 with e6 e7 e8
  subst e3 e4 e5 e6 e7 e8
  exact (drovewayref09_Less.calls k A1 c1 a A2 c2 b X w hC1 hc1 hC2 hc2 hk).mono fun _ _ ⟨p, q⟩ => ⟨p, q.below⟩

/-! ### shortest -/
theorem R_one (W : World) (i : Int) {B : Nat} (hB : B ≤ W.heap.size) : Kd.R (Kd.int .i64) 3 (W.alloc (.cells #[.int .i64 i] 3)) B (fun _ => True) (.slice (some ⟨W.heap.size, 0, none⟩) 1 1) [i] := by
  have h0 := Kd.R_nil (Kd.int .i64) 3 W B (fun _ => True)
  obtain ⟨h1, inner, hown, hr⟩ := h0
  have hin : inner = [] := by
    have := hown.1
    simpa using this
  subst hin
  have := Kd.R_appended (d := Kd.int .i64) (e := 3) (okp := fun _ => False) (w1 := W.alloc (.cells #[.int .i64 i] 3)) (v1 := .slice (some ⟨W.heap.size, 0, none⟩) 1 1) (p := i) (cs := [.int .i64 i]) h1 hr rfl (fun _ hk => hk.elim) (fun _ _ => trivial) (own_lit W B 3 .i64 [i] hB (by simp)) (grown_some (World.grownBy_alloc W _ _) _) (Or.inr ⟨W.heap.size, rfl, Nat.le_refl _⟩)
  exact this
def startR (l : List S39) (one : Bool) (size i fr : Nat) : Option (List Int) := ringedR l one (size - 1) [(i : Int)] fr (2 ^ fr)
def pickR (a b : Option (List Int)) : Option (List Int) := match a with
  | none => b
  | some x => match b with
    | none => some x
    | some y => if lessB x y = true then some x else some y
def pairR (l : List S39) (one : Bool) (size i : Nat) : Option (List Int) := pickR (startR l one size i (l.getD i z39).f0.toNat) (startR l one size i (l.getD i z39).f1.toNat)
def sizeR (l : List S39) (one : Bool) (size : Nat) : Option (List Int) := if 3 ≤ size then firstN (pairR l one size) l.length else none
def shortR (l : List S39) (one : Bool) (n : Nat) : Option (List Int) := firstN (sizeR l one) (n + 1)
theorem ringedR_len (l : List S39) (one : Bool) : ∀ d now at_ met x, ringedR l one d now at_ met = some x → x.length = now.length + d := by
  intro d
  induction d with
  | zero =>
    intro now at_ met x h
    rw [ringedR] at h
    split at h
    · cases h; rfl
    · cases h
  | succ d ih =>
    intro now at_ met x h
    rw [ringedR] at h
    have key : ∀ (F : Nat → Option (List Int)), (∀ i x, F i = some x → x.length = now.length + (d + 1)) → ∀ k x, firstN F k = some x → x.length = now.length + (d + 1) := by
      intro F hF k
      induction k with
      | zero => intro x h; cases h
      | succ k ihk =>
        intro x h
        rw [firstN] at h
        cases e : firstN F k with
        | some y =>
          rw [e] at h
          have := Option.some.inj h
          subst this
          exact ihk _ e
        | none => rw [e] at h; exact hF k x h
    refine key _ (fun i x hx => ?_) _ _ h
    cases e : otherN (l.getD i z39) at_ with
    | none => rw [e] at hx; cases hx
    | some v =>
      rw [e] at hx
      dsimp only at hx
      split at hx
      · cases hx
      · have := ih _ _ _ _ hx
        rw [List.length_append, List.length_singleton] at this
        omega
theorem start_calls (l : List S39) (hg : goodT l) (hl : l.length ≤ 1000) (one : Bool) (A : Option Addr) (c k i a B : Nat) (hc : l.length ≤ c) (hk : 3 ≤ k) (hk9 : k ≤ 1000) (ha : a < 60) (W : World) (hB : B ≤ W.heap.size) (hr : Kd.C k39 (W.alloc (.cells #[.int .i64 (i : Int)] 3)) A l.length l) (R : Option (List Int)) (hR : startR l one k i a = R) :
    Calls Try.prog 77 #[.slice A l.length c, .int .i64 k, .slice (some ⟨W.heap.size, 0, none⟩) 1 1, .int .i64 a, .int .i64 ((2 : Int) ^ a), .bool one] (W.alloc (.cells #[.int .i64 (i : Int)] 3)) (RgPost B R (W.alloc (.cells #[.int .i64 (i : Int)] 3))) := by
  rw [← hR, pow_cast]
  exact ringed_calls l hg hl one A c k B hc hk9 (k - 1) [(i : Int)] a (2 ^ a) _ _ (R_one W i hB) (Nat.le_trans hB (by simp)) (by simp; omega) (by simp) ha (Nat.pow_lt_pow_right (by decide) ha) hr

set_option maxRecDepth 100000 in
set_option maxHeartbeats 3200000 in
theorem shortest_calls (l : List S39) (hg : goodT l) (hl : l.length ≤ 1000) (one : Bool) (A : Option Addr) (c n : Nat) (hc : l.length ≤ c) (h9 : n ≤ 800) (W : World) (hr : Kd.C k39 W A l.length l) :
    Calls Try.prog 51 #[.int .i64 n, .slice A l.length c, .bool one] W (RgPost W.heap.size (shortR l one n) W) := by
  have HA := Aside0.mk hr
  have HC := Aside0.mk hc
  have HG := Aside0.mk hg
  obtain ⟨S, hS⟩ : ∃ S, shortR l one n = S := ⟨_, rfl⟩
  have HS := Aside0.mk hS
  rw [hS]
  clear hr hc hg hS
  go_enter Try.func51, Try.ntmps51
  go_wp2
  go_loopg [7, 8, 9, 10] (n + 1) (fun gg v7 _ _ _ wr => ∃ k : Nat, 3 ≤ k ∧ n + 1 - k ≤ gg ∧ v7 = .int .i64 k ∧ k ≤ n + 3 ∧ Aside0 (Below W.heap.size W wr) ∧ Aside0 (firstN (sizeR l one) (min k (n + 1)) = none))
  case atStart => exact ⟨3, Nat.le_refl _, by omega, rfl, by omega, ⟨Below.refl _ _⟩, ⟨firstN_none _ fun i hi => by unfold sizeR; rw [if_neg (by omega)]⟩⟩
  case round =>
    obtain ⟨k, hk, hgg, rfl, hkn, HBr, HF⟩ := hrel
    by_cases hlt : k ≤ n
    · have hltz : (k : Int) ≤ (n : Int) := by omega
      have hk9 : k ≤ 1000 := by omega
      have HSK : Aside0 (∀ r, firstN (pairR l one k) l.length = some r → S = some r) := ⟨fun r h => by
        have := HF.out
        rw [show min k (n + 1) = k by omega] at this
        rw [← HS.out, shortR]
        exact firstN_some (by omega) this (by rw [sizeR, if_pos hk]; exact h)⟩
      go_wp2
      go_loopg [8, 9, 10] l.length (fun gg2 v8 _ _ wr => ∃ i : Nat, i ≤ l.length ∧ l.length - i ≤ gg2 ∧ v8 = .int .i64 i ∧ Aside0 (Below W.heap.size W wr) ∧ Aside0 (firstN (pairR l one k) i = none))
      case atStart => exact ⟨0, Nat.zero_le _, by omega, rfl, HBr, ⟨rfl⟩⟩
      case round =>
        clear HBr
        obtain ⟨i, hi, hgg2, rfl, HBr, HP⟩ := hrel
        by_cases hilt : i < l.length
        · have hiltz : (i : Int) < (l.length : Int) := by omega
          obtain ⟨ad, had, _⟩ := at_T39 HA.out (i : Int) (by omega) (by omega)
          subst had
          have hts := HG.out _ (getD_mem z39 hilt)
          obtain ⟨a, ha⟩ := Int.eq_ofNat_of_zero_le hts.1
          obtain ⟨b, hb⟩ := Int.eq_ofNat_of_zero_le (show 0 ≤ (l.getD i z39).f1 by omega)
          rw [ha, hb] at hts
          have ha60 : a < 60 := by omega
          have hb60 : b < 60 := by omega
          have HSO0 : Aside0 (∀ w', Below W.heap.size W w' → w'.cell? (ad.add (i * 3)) = some (.int .i64 (a : Int)) ∧ w'.cell? ⟨(ad.add (i * 3)).block, (ad.add (i * 3)).off + 1, none⟩ = some (.int .i64 (b : Int))) := ⟨fun w' h => by
            obtain ⟨ad', had, hx0, hx1, hx2⟩ := at_T39 (Kd.C_below HA.out h) (i : Int) (by omega) (by omega)
            cases had
            rw [Int.toNat_natCast] at hx0 hx1
            have hrd : rd_T39 l (i : Int) = l.getD i z39 := by simp [rd_T39]
            rw [hrd, ha] at hx0
            rw [hrd, hb] at hx1
            exact ⟨hx0, hx1⟩⟩
          obtain ⟨SS, hSS⟩ : ∃ SS : World → Prop, SS = (fun w' => w'.cell? (ad.add (i * 3)) = some (.int .i64 (a : Int)) ∧ w'.cell? ⟨(ad.add (i * 3)).block, (ad.add (i * 3)).off + 1, none⟩ = some (.int .i64 (b : Int))) := ⟨_, rfl⟩
          have HSS : Aside0 (∀ w', Below W.heap.size W w' → SS w') := ⟨fun w' h => by rw [hSS]; exact HSO0.out w' h⟩
          have HSO : Aside0 (∀ w', SS w' → w'.cell? (ad.add (i * 3)) = some (.int .i64 (a : Int)) ∧ w'.cell? ⟨(ad.add (i * 3)).block, (ad.add (i * 3)).off + 1, none⟩ = some (.int .i64 (b : Int))) := ⟨fun w' h => by rw [hSS] at h; exact h⟩
          obtain ⟨R1, hR1⟩ : ∃ R1, startR l one k i a = R1 := ⟨_, rfl⟩
          obtain ⟨R2, hR2⟩ : ∃ R2, startR l one k i b = R2 := ⟨_, rfl⟩
          have HPI : Aside0 (pairR l one k i = pickR R1 R2) := ⟨by unfold pairR; rw [ha, hb, Int.toNat_natCast, Int.toNat_natCast, hR1, hR2]⟩
          have HL1 : Aside0 (∀ x, R1 = some x → x.length ≤ 1000) := ⟨fun x h => by rw [← hR1] at h; have := ringedR_len _ _ _ _ _ _ _ h; simp at this; omega⟩
          have HR1 := Aside0.mk hR1
          have HR2 := Aside0.mk hR2
          have hwa := two_wrap ha60
          have hwb := two_wrap hb60
          have hi0 : (0 : Int) ≤ (i : Int) := by omega
          clear hR1 hR2 HSO0 hSS ha hb hts
          go_wp2
          refine wp_region_noPanic ?_
          refine wp_region_held_drew (S := SS) (by kernel_rfl) (HSS.out _ (below_drew HBr.out)) (fun hHeld => ?_)
          refine H_on 0 22 ?vp0 rfl rfl (by kernel_rfl) (by kernel_rfl) (by kernel_rfl) (by rfl) ?hp0 hHeld ?rp0
          case hp0 => (intro w hSw; obtain ⟨s0, s1⟩ := HSO.out w hSw; go_simp <;> with_reducible rfl)
          simp only [Act.put, List.setIfInBounds_toArray, List.set_cons_zero, List.set_cons_succ]
          refine H_on 1 23 ?vp1 rfl rfl (by kernel_rfl) (by kernel_rfl) (by kernel_rfl) (by rfl) ?hp1 hHeld ?rp1
          case hp1 => (intro w hSw; obtain ⟨s0, s1⟩ := HSO.out w hSw; go_simp <;> with_reducible rfl)
          simp only [Act.put, List.setIfInBounds_toArray, List.set_cons_zero, List.set_cons_succ]
          refine H_on 2 24 ?vp2 rfl rfl (by kernel_rfl) (by kernel_rfl) (by kernel_rfl) (by rfl) ?hp2 hHeld ?rp2
          case hp2 => (intro w hSw; obtain ⟨s0, s1⟩ := HSO.out w hSw; go_simp <;> with_reducible rfl)
          simp only [Act.put, List.setIfInBounds_toArray, List.set_cons_zero, List.set_cons_succ]
          refine H_on 4 26 ?vp4 rfl rfl (by kernel_rfl) (by kernel_rfl) (by kernel_rfl) (by rfl) ?hp4 hHeld ?rp4
          case hp4 => (intro w hSw; obtain ⟨s0, s1⟩ := HSO.out w hSw; go_simp <;> with_reducible rfl)
          simp only [Act.put, List.setIfInBounds_toArray, List.set_cons_zero, List.set_cons_succ]
          refine H_on 5 27 ?vp5 rfl rfl (by kernel_rfl) (by kernel_rfl) (by kernel_rfl) (by rfl) ?hp5 hHeld ?rp5
          case hp5 => (intro w hSw; obtain ⟨s0, s1⟩ := HSO.out w hSw; go_simp <;> with_reducible rfl)
          simp only [Act.put, List.setIfInBounds_toArray, List.set_cons_zero, List.set_cons_succ]
          refine H_on 6 28 ?vp6 rfl rfl (by kernel_rfl) (by kernel_rfl) (by kernel_rfl) (by rfl) ?hp6 hHeld ?rp6
          case hp6 => (intro w hSw; obtain ⟨s0, s1⟩ := HSO.out w hSw; go_simp <;> with_reducible rfl)
          simp only [Act.put, List.setIfInBounds_toArray, List.set_cons_zero, List.set_cons_succ]
          refine H_on 7 29 ?vp7 rfl rfl (by kernel_rfl) (by kernel_rfl) (by kernel_rfl) (by rfl) ?hp7 hHeld ?rp7
          case hp7 => (intro w hSw; obtain ⟨s0, s1⟩ := HSO.out w hSw; go_simp <;> with_reducible rfl)
          simp only [Act.put, List.setIfInBounds_toArray, List.set_cons_zero, List.set_cons_succ]
          refine H_on 8 30 ?vp8 rfl rfl (by kernel_rfl) (by kernel_rfl) (by kernel_rfl) (by rfl) ?hp8 hHeld ?rp8
          case hp8 => (intro w hSw; obtain ⟨s0, s1⟩ := HSO.out w hSw; go_simp <;> with_reducible rfl)
          simp only [Act.put, List.setIfInBounds_toArray, List.set_cons_zero, List.set_cons_succ]
          refine H_on 9 31 ?vp9 rfl rfl (by kernel_rfl) (by kernel_rfl) (by kernel_rfl) (by rfl) ?hp9 hHeld ?rp9
          case hp9 => (intro w hSw; obtain ⟨s0, s1⟩ := HSO.out w hSw; go_simp <;> with_reducible rfl)
          simp only [Act.put, List.setIfInBounds_toArray, List.set_cons_zero, List.set_cons_succ]
          refine H_on 10 32 ?vp10 rfl rfl (by kernel_rfl) (by kernel_rfl) (by kernel_rfl) (by rfl) ?hp10 hHeld ?rp10
          case hp10 => (intro w hSw; obtain ⟨s0, s1⟩ := HSO.out w hSw; go_simp <;> with_reducible rfl)
          simp only [Act.put, List.setIfInBounds_toArray, List.set_cons_zero, List.set_cons_succ]
          refine H_on 11 33 ?vp11 rfl rfl (by kernel_rfl) (by kernel_rfl) (by kernel_rfl) (by rfl) ?hp11 hHeld ?rp11
          case hp11 => (intro w hSw; obtain ⟨s0, s1⟩ := HSO.out w hSw; go_simp <;> with_reducible rfl)
          simp only [Act.put, List.setIfInBounds_toArray, List.set_cons_zero, List.set_cons_succ]
          refine H_on 12 34 ?vp12 rfl rfl (by kernel_rfl) (by kernel_rfl) (by kernel_rfl) (by rfl) ?hp12 hHeld ?rp12
          case hp12 => (intro w hSw; obtain ⟨s0, s1⟩ := HSO.out w hSw; go_simp <;> with_reducible rfl)
          simp only [Act.put, List.setIfInBounds_toArray, List.set_cons_zero, List.set_cons_succ]
          refine H_on 13 35 ?vp13 rfl rfl (by kernel_rfl) (by kernel_rfl) (by kernel_rfl) (by rfl) ?hp13 hHeld ?rp13
          case hp13 => (intro w hSw; obtain ⟨s0, s1⟩ := HSO.out w hSw; go_simp <;> with_reducible rfl)
          simp only [Act.put, List.setIfInBounds_toArray, List.set_cons_zero, List.set_cons_succ]
          refine H_on 14 36 ?vp14 rfl rfl (by kernel_rfl) (by kernel_rfl) (by kernel_rfl) (by rfl) ?hp14 hHeld ?rp14
          case hp14 => (intro w hSw; obtain ⟨s0, s1⟩ := HSO.out w hSw; go_simp <;> with_reducible rfl)
          simp only [Act.put, List.setIfInBounds_toArray, List.set_cons_zero, List.set_cons_succ]
          refine H_on 15 37 ?vp15 rfl rfl (by kernel_rfl) (by kernel_rfl) (by kernel_rfl) (by rfl) ?hp15 hHeld ?rp15
          case hp15 => (intro w hSw; obtain ⟨s0, s1⟩ := HSO.out w hSw; go_simp <;> with_reducible rfl)
          simp only [Act.put, List.setIfInBounds_toArray, List.set_cons_zero, List.set_cons_succ]
          refine wpAnyH_ready (rs := [3]) (by kernel_rfl) (by simp) ?_
          refine AllReadyH.cons rfl (fun K hK => ?_) AllReadyH.nil
          go_simp
          refine hK.out _ _ (HSS.out _ (below_alloc (below_drew HBr.out) _)) (fun hHeld => ?_)
          clear hK K
          try simp only [Act.put, List.setIfInBounds_toArray, List.set_cons_zero, List.set_cons_succ]
          refine wpAnyH_ready (rs := [16]) (by kernel_rfl) (by simp) ?_
          refine AllReadyH.cons rfl (fun K hK => ?_) AllReadyH.nil
          go_simp
          refine (start_calls l HG.out hl one (some ad) c k i a W.heap.size HC.out hk hk9 ha60 wr.drew (below_drew HBr.out).size (Kd.C_below HA.out (below_alloc (below_drew HBr.out) _)) _ HR1.out).mono ?_
          rintro e w5 ⟨v5, rfl, hR5, hn5, hs5, hb5⟩
          have HRv5 := Aside0.mk hR5
          have HNv5 := Aside0.mk hn5
          have HSv5 := Aside0.mk hs5
          have HBv5 : Aside0 (Below W.heap.size W w5) := ⟨below_then (below_alloc (below_drew HBr.out) _) (below_alloc (below_drew HBr.out) _).size hb5⟩
          have HLv5 := Aside0.mk hb5
          clear hR5 hb5 hn5 hs5
          go_wp2_with fail
          refine hK.out _ _ (HSS.out _ HBv5.out) (fun hHeld => ?_)
          clear hK K
          try simp only [Act.put, List.setIfInBounds_toArray, List.set_cons_zero, List.set_cons_succ]
          refine H_on 17 9 ?vp17 rfl rfl (by kernel_rfl) (by kernel_rfl) (by kernel_rfl) (by rfl) ?hp17 hHeld ?rp17
          case hp17 => (intro w hSw; obtain ⟨s0, s1⟩ := HSO.out w hSw; go_simp <;> with_reducible rfl)
          simp only [Act.put, List.setIfInBounds_toArray, List.set_cons_zero, List.set_cons_succ]
          refine wpAnyH_done (by kernel_rfl) ?_ _
          refine NoPanic.normal ?_
          go_wp2
          refine wp_region_noPanic ?_
          refine wp_region_held_drew (S := SS) (by kernel_rfl) (HSS.out _ (below_drew HBv5.out)) (fun hHeld => ?_)
          refine H_on 0 39 ?vq0 rfl rfl (by kernel_rfl) (by kernel_rfl) (by kernel_rfl) (by rfl) ?hq0 hHeld ?rq0
          case hq0 => (intro w hSw; obtain ⟨s0, s1⟩ := HSO.out w hSw; go_simp <;> with_reducible rfl)
          simp only [Act.put, List.setIfInBounds_toArray, List.set_cons_zero, List.set_cons_succ]
          refine H_on 1 40 ?vq1 rfl rfl (by kernel_rfl) (by kernel_rfl) (by kernel_rfl) (by rfl) ?hq1 hHeld ?rq1
          case hq1 => (intro w hSw; obtain ⟨s0, s1⟩ := HSO.out w hSw; go_simp <;> with_reducible rfl)
          simp only [Act.put, List.setIfInBounds_toArray, List.set_cons_zero, List.set_cons_succ]
          refine H_on 2 41 ?vq2 rfl rfl (by kernel_rfl) (by kernel_rfl) (by kernel_rfl) (by rfl) ?hq2 hHeld ?rq2
          case hq2 => (intro w hSw; obtain ⟨s0, s1⟩ := HSO.out w hSw; go_simp <;> with_reducible rfl)
          simp only [Act.put, List.setIfInBounds_toArray, List.set_cons_zero, List.set_cons_succ]
          refine H_on 4 43 ?vq4 rfl rfl (by kernel_rfl) (by kernel_rfl) (by kernel_rfl) (by rfl) ?hq4 hHeld ?rq4
          case hq4 => (intro w hSw; obtain ⟨s0, s1⟩ := HSO.out w hSw; go_simp <;> with_reducible rfl)
          simp only [Act.put, List.setIfInBounds_toArray, List.set_cons_zero, List.set_cons_succ]
          refine H_on 5 44 ?vq5 rfl rfl (by kernel_rfl) (by kernel_rfl) (by kernel_rfl) (by rfl) ?hq5 hHeld ?rq5
          case hq5 => (intro w hSw; obtain ⟨s0, s1⟩ := HSO.out w hSw; go_simp <;> with_reducible rfl)
          simp only [Act.put, List.setIfInBounds_toArray, List.set_cons_zero, List.set_cons_succ]
          refine H_on 6 45 ?vq6 rfl rfl (by kernel_rfl) (by kernel_rfl) (by kernel_rfl) (by rfl) ?hq6 hHeld ?rq6
          case hq6 => (intro w hSw; obtain ⟨s0, s1⟩ := HSO.out w hSw; go_simp <;> with_reducible rfl)
          simp only [Act.put, List.setIfInBounds_toArray, List.set_cons_zero, List.set_cons_succ]
          refine H_on 7 46 ?vq7 rfl rfl (by kernel_rfl) (by kernel_rfl) (by kernel_rfl) (by rfl) ?hq7 hHeld ?rq7
          case hq7 => (intro w hSw; obtain ⟨s0, s1⟩ := HSO.out w hSw; go_simp <;> with_reducible rfl)
          simp only [Act.put, List.setIfInBounds_toArray, List.set_cons_zero, List.set_cons_succ]
          refine H_on 8 47 ?vq8 rfl rfl (by kernel_rfl) (by kernel_rfl) (by kernel_rfl) (by rfl) ?hq8 hHeld ?rq8
          case hq8 => (intro w hSw; obtain ⟨s0, s1⟩ := HSO.out w hSw; go_simp <;> with_reducible rfl)
          simp only [Act.put, List.setIfInBounds_toArray, List.set_cons_zero, List.set_cons_succ]
          refine H_on 9 48 ?vq9 rfl rfl (by kernel_rfl) (by kernel_rfl) (by kernel_rfl) (by rfl) ?hq9 hHeld ?rq9
          case hq9 => (intro w hSw; obtain ⟨s0, s1⟩ := HSO.out w hSw; go_simp <;> with_reducible rfl)
          simp only [Act.put, List.setIfInBounds_toArray, List.set_cons_zero, List.set_cons_succ]
          refine H_on 10 49 ?vq10 rfl rfl (by kernel_rfl) (by kernel_rfl) (by kernel_rfl) (by rfl) ?hq10 hHeld ?rq10
          case hq10 => (intro w hSw; obtain ⟨s0, s1⟩ := HSO.out w hSw; go_simp <;> with_reducible rfl)
          simp only [Act.put, List.setIfInBounds_toArray, List.set_cons_zero, List.set_cons_succ]
          refine H_on 11 50 ?vq11 rfl rfl (by kernel_rfl) (by kernel_rfl) (by kernel_rfl) (by rfl) ?hq11 hHeld ?rq11
          case hq11 => (intro w hSw; obtain ⟨s0, s1⟩ := HSO.out w hSw; go_simp <;> with_reducible rfl)
          simp only [Act.put, List.setIfInBounds_toArray, List.set_cons_zero, List.set_cons_succ]
          refine H_on 12 51 ?vq12 rfl rfl (by kernel_rfl) (by kernel_rfl) (by kernel_rfl) (by rfl) ?hq12 hHeld ?rq12
          case hq12 => (intro w hSw; obtain ⟨s0, s1⟩ := HSO.out w hSw; go_simp <;> with_reducible rfl)
          simp only [Act.put, List.setIfInBounds_toArray, List.set_cons_zero, List.set_cons_succ]
          refine H_on 13 52 ?vq13 rfl rfl (by kernel_rfl) (by kernel_rfl) (by kernel_rfl) (by rfl) ?hq13 hHeld ?rq13
          case hq13 => (intro w hSw; obtain ⟨s0, s1⟩ := HSO.out w hSw; go_simp <;> with_reducible rfl)
          simp only [Act.put, List.setIfInBounds_toArray, List.set_cons_zero, List.set_cons_succ]
          refine H_on 14 53 ?vq14 rfl rfl (by kernel_rfl) (by kernel_rfl) (by kernel_rfl) (by rfl) ?hq14 hHeld ?rq14
          case hq14 => (intro w hSw; obtain ⟨s0, s1⟩ := HSO.out w hSw; go_simp <;> with_reducible rfl)
          simp only [Act.put, List.setIfInBounds_toArray, List.set_cons_zero, List.set_cons_succ]
          refine H_on 15 54 ?vq15 rfl rfl (by kernel_rfl) (by kernel_rfl) (by kernel_rfl) (by rfl) ?hq15 hHeld ?rq15
          case hq15 => (intro w hSw; obtain ⟨s0, s1⟩ := HSO.out w hSw; go_simp <;> with_reducible rfl)
          simp only [Act.put, List.setIfInBounds_toArray, List.set_cons_zero, List.set_cons_succ]
          refine wpAnyH_ready (rs := [3]) (by kernel_rfl) (by simp) ?_
          refine AllReadyH.cons rfl (fun K hK => ?_) AllReadyH.nil
          go_simp
          refine hK.out _ _ (HSS.out _ (below_alloc (below_drew HBv5.out) _)) (fun hHeld => ?_)
          clear hK K
          try simp only [Act.put, List.setIfInBounds_toArray, List.set_cons_zero, List.set_cons_succ]
          refine wpAnyH_ready (rs := [16]) (by kernel_rfl) (by simp) ?_
          refine AllReadyH.cons rfl (fun K hK => ?_) AllReadyH.nil
          go_simp
          refine (start_calls l HG.out hl one (some ad) c k i b W.heap.size HC.out hk hk9 hb60 w5.drew (below_drew HBv5.out).size (Kd.C_below HA.out (below_alloc (below_drew HBv5.out) _)) _ HR2.out).mono ?_
          rintro e w7 ⟨v7, rfl, hR5, hn5, hs5, hb5⟩
          have HRv7 := Aside0.mk hR5
          have HNv7 := Aside0.mk hn5
          have HSv7 := Aside0.mk hs5
          have HBv7 : Aside0 (Below W.heap.size W w7) := ⟨below_then (below_alloc (below_drew HBv5.out) _) (below_alloc (below_drew HBv5.out) _).size hb5⟩
          have HLv7 := Aside0.mk hb5
          clear hR5 hb5 hn5 hs5
          go_wp2_with fail
          refine hK.out _ _ (HSS.out _ HBv7.out) (fun hHeld => ?_)
          clear hK K
          try simp only [Act.put, List.setIfInBounds_toArray, List.set_cons_zero, List.set_cons_succ]
          refine H_on 17 10 ?vq17 rfl rfl (by kernel_rfl) (by kernel_rfl) (by kernel_rfl) (by rfl) ?hq17 hHeld ?rq17
          case hq17 => (intro w hSw; obtain ⟨s0, s1⟩ := HSO.out w hSw; go_simp <;> with_reducible rfl)
          simp only [Act.put, List.setIfInBounds_toArray, List.set_cons_zero, List.set_cons_succ]
          refine wpAnyH_done (by kernel_rfl) ?_ _
          refine NoPanic.normal ?_

          have HR9 : Aside0 (Kd.R (Kd.int .i64) 3 w7 W.heap.size (fun _ => True) v5 (R1.getD [])) := ⟨Kd.R_below HRv5.out (((below_alloc (below_drew (Below.refl w5.heap.size w5)) _)).trans (HLv7.out.mono (below_alloc (below_drew (Below.refl w5.heap.size w5)) _).size))⟩
          clear HSS HSO HRv5
          cases R1 with
          | none =>
            have hv5 := HNv5.out rfl
            subst hv5
            have hnil := fun (w : World) => run_neq_slice_nil_any w 28 3 none 0 0 0 0 Try.underlying28
            cases R2 with
            | none =>
              have hv7 := HNv7.out rfl
              subst hv7
              go_wp2
              go_roundg (l.length - (i + 1))
              case measure => omega
              case rel => exact ⟨i + 1, by omega, by omega, by go_num, HBv7, ⟨by rw [firstN_succ_none HP.out, HPI.out]; rfl⟩⟩
            | some y =>
              obtain ⟨b7, n7, c7, hv7⟩ := HSv7.out (by simp)
              subst hv7
              have hnil7 := fun (w : World) => run_neq_slice_nil_any w 28 3 (some b7) n7 c7 0 0 Try.underlying28
              go_wp2
              go_ret
              have hfin : S = some y := HSK.out _ (firstN_some hilt HP.out HPI.out)
              subst hfin
              exact ⟨_, rfl, HRv7.out, (fun h => by cases h), fun _ => ⟨_, _, _, rfl⟩, HBv7.out⟩
          | some x =>
            obtain ⟨b5, n5, c5, hv5⟩ := HSv5.out (by simp)
            subst hv5
            have hnil := fun (w : World) => run_neq_slice_nil_any w 28 3 (some b5) n5 c5 0 0 Try.underlying28
            cases R2 with
            | none =>
              have hv7 := HNv7.out rfl
              subst hv7
              have hnil7 := fun (w : World) => run_neq_slice_nil_any w 28 3 none 0 0 0 0 Try.underlying28
              have hnil8 := fun (w : World) => run_eql_slice_nil w 28 3 none 0 0 Try.underlying28
              go_wp2
              go_ret
              have hfin : S = some x := HSK.out _ (firstN_some hilt HP.out HPI.out)
              subst hfin
              exact ⟨_, rfl, HR9.out, (fun h => by cases h), fun _ => ⟨_, _, _, rfl⟩, HBv7.out⟩
            | some y =>
              obtain ⟨b7, n7, c7, hv7⟩ := HSv7.out (by simp)
              subst hv7
              have hnil7 := fun (w : World) => run_neq_slice_nil_any w 28 3 (some b7) n7 c7 0 0 Try.underlying28
              have hnil8 := fun (w : World) => run_eql_slice_nil w 28 3 (some b7) n7 c7 Try.underlying28
              cases hX : lessB x y with
              | true =>
                have HX := Aside0.mk hX
                clear hX
                go_wp2_with (go_at_call 41; refine (less_calls (W0 := W) HR9.out HRv7.out (HL1.out x rfl) true HX.out HBv7.out).mono ?_; rintro e w8 ⟨rfl, hb8⟩; have HB8 := Aside0.mk hb8; clear hb8)
                go_ret
                have hfin : S = some x := HSK.out _ (firstN_some hilt HP.out (by rw [HPI.out]; exact if_pos HX.out))
                subst hfin
                exact ⟨_, rfl, Kd.R_below HR9.out HB8.out, (fun h => by cases h), fun _ => ⟨_, _, _, rfl⟩, below_then HBv7.out HBv7.out.size HB8.out⟩
              | false =>
                have HX := Aside0.mk hX
                clear hX
                go_wp2_with (go_at_call 41; refine (less_calls (W0 := W) HR9.out HRv7.out (HL1.out x rfl) false HX.out HBv7.out).mono ?_; rintro e w8 ⟨rfl, hb8⟩; have HB8 := Aside0.mk hb8; clear hb8)
                go_ret
                have hfin : S = some y := HSK.out _ (firstN_some hilt HP.out (by rw [HPI.out]; exact if_neg (by rw [HX.out]; exact Bool.false_ne_true)))
                subst hfin
                exact ⟨_, rfl, Kd.R_below HRv7.out HB8.out, (fun h => by cases h), fun _ => ⟨_, _, _, rfl⟩, below_then HBv7.out HBv7.out.size HB8.out⟩
        · have hiltz : ¬ (i : Int) < (l.length : Int) := by omega
          have him : i = l.length := by omega
          have HSN : Aside0 (sizeR l one k = none) := ⟨by rw [sizeR, if_pos hk, ← him]; exact HP.out⟩
          go_wp2
          go_roundg (n + 1 - (k + 1))
          case measure => omega
          case rel =>
            refine ⟨k + 1, by omega, by omega, by go_num, by omega, HBr, ⟨?_⟩⟩
            have := HF.out
            rw [show min k (n + 1) = k by omega] at this
            rw [show min (k + 1) (n + 1) = k + 1 by omega, firstN_succ_none this]
            exact HSN.out
    · have hltz : ¬ (k : Int) ≤ (n : Int) := by omega
      have HZ0 : Aside0 (S = none) := ⟨by rw [← HS.out, shortR, ← HF.out, show min k (n + 1) = n + 1 by omega]⟩
      go_wp2
      go_ret
      exact ⟨_, rfl, by rw [HZ0.out]; exact Kd.R_nil _ _ _ _ _, fun _ => rfl, fun h => absurd HZ0.out h, HBr.out⟩
end Go.Proofs.Ytaegldcifhgnmaa.B

/- The specification's Ring and Spoilt: what they return. (Printed by gen_q6.py.) -/
namespace Go.Proofs.Ytaegldcifhgnmaa.B
open Go.Proofs.Ytaegldcifhgnmaa.A
open Go.RowKit Go.Proofs.YtaegldcifhgnmaaW.PrintWords Go.Proofs.YtaegldcifhgnmaaW.PrintMore

def rRingF (one : Bool) (n : Int) (l : List S39) : List Int × Int := if tiesE n l = 0 then ringZ (shortR l one n.toNat) else ([], tiesE n l)
theorem ties_calls (n : Int) (A : Option Addr) (c : Nat) (l : List S39) (w : World) (hr : Kd.C k39 w A l.length l) (hc : l.length ≤ c) (hl : l.length ≤ 1000) (E : Int) (hE : tiesE n l = E) :
    Calls Try.prog 24 #[.int .i64 n, .slice A l.length c] w fun e w' => e = .returned (.int .i64 E) ∧ Below w.heap.size w w' := by
  obtain ⟨k, hk⟩ := (Ties_ev (n := n) hl).rounds
  rw [hE] at hk
  exact (drovewayref09_Ties.calls k n A c l E w hr hc hk).mono fun _ _ ⟨p, q⟩ => ⟨p, q.below⟩

set_option maxRecDepth 100000 in
set_option maxHeartbeats 800000 in
theorem rRing_err (n : Int) (A : Option Addr) (c : Nat) (l : List S39) (w : World) (hr : Kd.C k39 w A l.length l) (hc : l.length ≤ c) (hl : l.length ≤ 1000) (E : Int) (h : tiesE n l = E) (h0 : E ≠ 0) :
    Calls Try.prog 21 #[.int .i64 n, .slice A l.length c] w (FoundPost ([], E) w) := by
  have HR := Aside0.mk hr
  have HC := Aside0.mk hc
  have HE := Aside0.mk h
  have hg := errne h0
  clear hr h h0 hc
  go_enter Try.func21, Try.ntmps21
  go_wp2_with (go_at_call 24; refine (ties_calls n A c l _ HR.out HC.out hl E HE.out).mono ?_; rintro e w' ⟨rfl, hb'⟩; have HB := Aside0.mk hb'; clear hb')
  go_ret2
  exact ⟨_, rfl, Kd.R_nil _ _ _ _ _, HB.out⟩
set_option maxRecDepth 100000 in
set_option maxHeartbeats 800000 in
theorem rRing_good (m : Nat) (A : Option Addr) (c : Nat) (l : List S39) (w : World) (hr : Kd.C k39 w A l.length l) (hc : l.length ≤ c) (h : tiesE m l = 0) :
    Calls Try.prog 21 #[.int .i64 m, .slice A l.length c] w (FoundPost (ringZ (shortR l false m)) w) := by
  have hm : m ≤ 800 := by have := (tiesE_parts h).1; omega
  have hl : l.length ≤ 1000 := by have := (tiesE_parts h).2.1; omega
  have HR := Aside0.mk hr
  have HC := Aside0.mk hc
  have HS := Aside0.mk (tiesE_good h)
  have HE := Aside0.mk h
  obtain ⟨S, hS⟩ : ∃ S, shortR l false m = S := ⟨_, rfl⟩
  have HSS := Aside0.mk hS
  rw [hS]
  clear hr h hS hc
  cases S with
  | none =>
    have hnil := fun (w : World) => run_eql_slice_nil w 28 3 none 0 0 Try.underlying28
    go_enter Try.func21, Try.ntmps21
    go_wp2_with (first
      | (go_at_call 24; refine (ties_calls m A c l _ HR.out HC.out hl 0 HE.out).mono ?_; rintro e w1 ⟨rfl, hb1⟩; have HB1 := Aside0.mk hb1; clear hb1)
      | (go_at_call 51; go_must (refine (shortest_calls l HS.out hl false A c m HC.out hm _ (Kd.C_below HR.out HB1.out)).mono ?_; rw [HSS.out]; rintro e w2 ⟨v2, rfl, hr2, hv0, hv1, hb2⟩; have HR2 := Aside0.mk (Kd.R_lower hr2 HB1.out.size); have HB2 := Aside0.mk (below_then HB1.out HB1.out.size hb2); clear hr2 hb2; obtain rfl := hv0 rfl; clear hv0 hv1)))
    go_ret2
    exact ⟨_, rfl, Kd.R_nil _ _ _ _ _, HB2.out⟩
  | some b =>
    go_enter Try.func21, Try.ntmps21
    go_wp2_with (first
      | (go_at_call 24; refine (ties_calls m A c l _ HR.out HC.out hl 0 HE.out).mono ?_; rintro e w1 ⟨rfl, hb1⟩; have HB1 := Aside0.mk hb1; clear hb1)
      | (go_at_call 51; go_must (refine (shortest_calls l HS.out hl false A c m HC.out hm _ (Kd.C_below HR.out HB1.out)).mono ?_; rw [HSS.out]; rintro e w2 ⟨v2, rfl, hr2, hv0, hv1, hb2⟩; have HR2 := Aside0.mk (Kd.R_lower hr2 HB1.out.size); have HB2 := Aside0.mk (below_then HB1.out HB1.out.size hb2); clear hr2 hb2; obtain ⟨ad, n2, c2, rfl⟩ := hv1 (by simp); have hnil := fun (w : World) => run_eql_slice_nil w 28 3 (some ad) n2 c2 Try.underlying28; clear hv0)))
    go_ret2
    exact ⟨_, rfl, HR2.out, HB2.out⟩
def drovewayref09_Ring.f (a0 : Int) (l1 : List S39) : Option (List Int × Int) := if l1.length ≤ 1000 then some (rRingF false a0 l1) else none
theorem drovewayref09_Ring.calls (a0 : Int) (A1 : Option Addr) (c1 : Nat) (l1 : List S39) (r1 : List Int) (r2 : Int) (w : World) (hr1 : Kd.C k39 w A1 l1.length l1) (hc1 : l1.length ≤ c1) (h : drovewayref09_Ring.f a0 l1 = some (r1, r2)) :
    Calls Try.prog 21 #[.int .i64 a0, .slice A1 l1.length c1] w fun e w' => ∃ v0_ : Value, e = .returned (.tuple #[v0_, .int .i64 r2]) ∧ Kd.R (Kd.int .i64) 3 w' w.heap.size (fun _ => True) v0_ r1 ∧ Below w.heap.size w w' := by
  unfold drovewayref09_Ring.f at h
  by_cases hl : l1.length ≤ 1000
  · rw [if_pos hl] at h
    have h := Option.some.inj h
    unfold rRingF at h
    by_cases h0 : tiesE a0 l1 = 0
    · rw [if_pos h0] at h
      have h1 := tiesE_parts h0
      obtain ⟨m, rfl⟩ : ∃ m : Nat, a0 = m := ⟨a0.toNat, by omega⟩
      rw [Int.toNat_natCast] at h
      have := rRing_good m A1 c1 l1 w hr1 hc1 h0
      rw [h] at this
      exact this
    · rw [if_neg h0] at h
      have := rRing_err a0 A1 c1 l1 w hr1 hc1 hl _ rfl h0
      rw [h] at this
      exact this
  · rw [if_neg hl] at h; exact absurd h (by simp)

set_option maxRecDepth 100000 in
set_option maxHeartbeats 800000 in
theorem rSpoilt_err (n : Int) (A : Option Addr) (c : Nat) (l : List S39) (w : World) (hr : Kd.C k39 w A l.length l) (hc : l.length ≤ c) (hl : l.length ≤ 1000) (E : Int) (h : tiesE n l = E) (h0 : E ≠ 0) :
    Calls Try.prog 29 #[.int .i64 n, .slice A l.length c] w (FoundPost ([], E) w) := by
  have HR := Aside0.mk hr
  have HC := Aside0.mk hc
  have HE := Aside0.mk h
  have hg := errne h0
  clear hr h h0 hc
  go_enter Try.func29, Try.ntmps29
  go_wp2_with (go_at_call 24; refine (ties_calls n A c l _ HR.out HC.out hl E HE.out).mono ?_; rintro e w' ⟨rfl, hb'⟩; have HB := Aside0.mk hb'; clear hb')
  go_ret2
  exact ⟨_, rfl, Kd.R_nil _ _ _ _ _, HB.out⟩
set_option maxRecDepth 100000 in
set_option maxHeartbeats 800000 in
theorem rSpoilt_good (m : Nat) (A : Option Addr) (c : Nat) (l : List S39) (w : World) (hr : Kd.C k39 w A l.length l) (hc : l.length ≤ c) (h : tiesE m l = 0) :
    Calls Try.prog 29 #[.int .i64 m, .slice A l.length c] w (FoundPost (ringZ (shortR l true m)) w) := by
  have hm : m ≤ 800 := by have := (tiesE_parts h).1; omega
  have hl : l.length ≤ 1000 := by have := (tiesE_parts h).2.1; omega
  have HR := Aside0.mk hr
  have HC := Aside0.mk hc
  have HS := Aside0.mk (tiesE_good h)
  have HE := Aside0.mk h
  obtain ⟨S, hS⟩ : ∃ S, shortR l true m = S := ⟨_, rfl⟩
  have HSS := Aside0.mk hS
  rw [hS]
  clear hr h hS hc
  cases S with
  | none =>
    have hnil := fun (w : World) => run_eql_slice_nil w 28 3 none 0 0 Try.underlying28
    go_enter Try.func29, Try.ntmps29
    go_wp2_with (first
      | (go_at_call 24; refine (ties_calls m A c l _ HR.out HC.out hl 0 HE.out).mono ?_; rintro e w1 ⟨rfl, hb1⟩; have HB1 := Aside0.mk hb1; clear hb1)
      | (go_at_call 51; go_must (refine (shortest_calls l HS.out hl true A c m HC.out hm _ (Kd.C_below HR.out HB1.out)).mono ?_; rw [HSS.out]; rintro e w2 ⟨v2, rfl, hr2, hv0, hv1, hb2⟩; have HR2 := Aside0.mk (Kd.R_lower hr2 HB1.out.size); have HB2 := Aside0.mk (below_then HB1.out HB1.out.size hb2); clear hr2 hb2; obtain rfl := hv0 rfl; clear hv0 hv1)))
    go_ret2
    exact ⟨_, rfl, Kd.R_nil _ _ _ _ _, HB2.out⟩
  | some b =>
    go_enter Try.func29, Try.ntmps29
    go_wp2_with (first
      | (go_at_call 24; refine (ties_calls m A c l _ HR.out HC.out hl 0 HE.out).mono ?_; rintro e w1 ⟨rfl, hb1⟩; have HB1 := Aside0.mk hb1; clear hb1)
      | (go_at_call 51; go_must (refine (shortest_calls l HS.out hl true A c m HC.out hm _ (Kd.C_below HR.out HB1.out)).mono ?_; rw [HSS.out]; rintro e w2 ⟨v2, rfl, hr2, hv0, hv1, hb2⟩; have HR2 := Aside0.mk (Kd.R_lower hr2 HB1.out.size); have HB2 := Aside0.mk (below_then HB1.out HB1.out.size hb2); clear hr2 hb2; obtain ⟨ad, n2, c2, rfl⟩ := hv1 (by simp); have hnil := fun (w : World) => run_eql_slice_nil w 28 3 (some ad) n2 c2 Try.underlying28; clear hv0)))
    go_ret2
    exact ⟨_, rfl, HR2.out, HB2.out⟩
def drovewayref09_Spoilt.f (a0 : Int) (l1 : List S39) : Option (List Int × Int) := if l1.length ≤ 1000 then some (rRingF true a0 l1) else none
theorem drovewayref09_Spoilt.calls (a0 : Int) (A1 : Option Addr) (c1 : Nat) (l1 : List S39) (r1 : List Int) (r2 : Int) (w : World) (hr1 : Kd.C k39 w A1 l1.length l1) (hc1 : l1.length ≤ c1) (h : drovewayref09_Spoilt.f a0 l1 = some (r1, r2)) :
    Calls Try.prog 29 #[.int .i64 a0, .slice A1 l1.length c1] w fun e w' => ∃ v0_ : Value, e = .returned (.tuple #[v0_, .int .i64 r2]) ∧ Kd.R (Kd.int .i64) 3 w' w.heap.size (fun _ => True) v0_ r1 ∧ Below w.heap.size w w' := by
  unfold drovewayref09_Spoilt.f at h
  by_cases hl : l1.length ≤ 1000
  · rw [if_pos hl] at h
    have h := Option.some.inj h
    unfold rRingF at h
    by_cases h0 : tiesE a0 l1 = 0
    · rw [if_pos h0] at h
      have h1 := tiesE_parts h0
      obtain ⟨m, rfl⟩ : ∃ m : Nat, a0 = m := ⟨a0.toNat, by omega⟩
      rw [Int.toNat_natCast] at h
      have := rSpoilt_good m A1 c1 l1 w hr1 hc1 h0
      rw [h] at this
      exact this
    · rw [if_neg h0] at h
      have := rSpoilt_err a0 A1 c1 l1 w hr1 hc1 hl _ rfl h0
      rw [h] at this
      exact this
  · rw [if_neg hl] at h; exact absurd h (by simp)
end Go.Proofs.Ytaegldcifhgnmaa.B

/- The program's best list and the specification's shortest ring are one (plain). -/
namespace Go.Proofs.Ytaegldcifhgnmaa.B
open Go.Proofs.Ytaegldcifhgnmaa.A
open Go.RowKit Go.Proofs.YtaegldcifhgnmaaW.PrintWords Go.Proofs.YtaegldcifhgnmaaW.PrintMore

/-! ### the order of lists -/
theorem cmpI_self (a : Int) : cmpI a a = 0 := by unfold cmpI; rw [if_neg (by omega), if_neg (by omega)]
theorem cmpL_self : ∀ a : List Int, cmpL a a = 0
  | [] => rfl
  | a :: at_ => by rw [cmpL, cmpI_self, if_pos rfl, cmpL_self at_]
theorem cmpI_swap (a b : Int) : cmpI b a = - cmpI a b := by
  unfold cmpI
  by_cases h1 : a < b <;> by_cases h2 : b < a <;> simp [h1, h2] <;> omega
theorem cmpI_zero {a b : Int} (h : cmpI a b = 0) : a = b := by
  unfold cmpI at h
  split at h
  · omega
  · split at h <;> omega
theorem cmpL_swap : ∀ a b : List Int, cmpL b a = - cmpL a b
  | [], [] => rfl
  | [], _ :: _ => rfl
  | _ :: _, [] => rfl
  | a :: at_, b :: bs => by
    rw [cmpL, cmpL, cmpI_swap a b, cmpL_swap at_ bs]
    by_cases h : cmpI a b = 0
    · rw [if_pos h, if_pos (by omega)]
    · rw [if_neg h, if_neg (by omega)]
theorem cmpL_eq : ∀ a b : List Int, cmpL a b = 0 → a = b
  | [], [] => fun _ => rfl
  | [], _ :: _ => fun h => by simp [cmpL] at h
  | _ :: _, [] => fun h => by simp [cmpL] at h
  | a :: at_, b :: bs => fun h => by
    rw [cmpL] at h
    by_cases h0 : cmpI a b = 0
    · rw [if_pos h0] at h
      rw [cmpI_zero h0, cmpL_eq at_ bs h]
    · rw [if_neg h0] at h; exact absurd h h0
theorem cmpL_trans : ∀ a b c : List Int, cmpL a b ≤ 0 → cmpL b c ≤ 0 → cmpL a c ≤ 0
  | [], _, [] => fun _ _ => by simp [cmpL]
  | [], _, _ :: _ => fun _ _ => by simp [cmpL]
  | a :: at_, [], _ => fun h _ => by simp [cmpL] at h
  | a :: at_, b :: bs, [] => fun _ h => by simp [cmpL] at h
  | a :: at_, b :: bs, c :: cs => fun h1 h2 => by
    rw [cmpL] at h1 h2 ⊢
    have ih := cmpL_trans at_ bs cs
    unfold cmpI at h1 h2 ⊢
    by_cases x1 : a < b <;> by_cases x2 : b < a <;> by_cases y1 : b < c <;> by_cases y2 : c < b <;> by_cases z1 : a < c <;> by_cases z2 : c < a <;> simp [x1, x2, y1, y2, z1, z2] at h1 h2 ⊢ <;> first | omega | exact ih h1 h2
theorem cmpL_pre : ∀ (p a b : List Int), cmpL (p ++ a) (p ++ b) = cmpL a b
  | [], _, _ => rfl
  | p :: ps, a, b => by rw [List.cons_append, List.cons_append, cmpL, cmpI_self, if_pos rfl, cmpL_pre ps]
theorem cmpL_lt {i j : Int} (h : i < j) (a b : List Int) : cmpL (i :: a) (j :: b) ≤ 0 := by
  rw [cmpL]
  unfold cmpI
  rw [if_pos h, if_neg (by decide)]
  decide

/-! ### the least -/
def IsLeast (P : List Int → Prop) (S : Option (List Int)) : Prop := match S with
  | none => ∀ x, ¬ P x
  | some b => P b ∧ ∀ x, P x → cmpL b x ≤ 0
theorem least_one {P Q : List Int → Prop} {S T : Option (List Int)} (hs : IsLeast P S) (ht : IsLeast Q T) (h : ∀ x, P x ↔ Q x) : S = T := by
  cases S with
  | none =>
    cases T with
    | none => rfl
    | some b => exact absurd ((h b).mpr ht.1) (hs b)
  | some a =>
    cases T with
    | none => exact absurd ((h a).mp hs.1) (ht a)
    | some b =>
      have h1 := hs.2 b ((h b).mpr ht.1)
      have h2 := ht.2 a ((h a).mp hs.1)
      have := cmpL_swap a b
      rw [cmpL_eq a b (by omega)]
theorem least_iff {P Q : List Int → Prop} {S : Option (List Int)} (hs : IsLeast P S) (h : ∀ x, P x ↔ Q x) : IsLeast Q S := by
  cases S with
  | none => exact fun x hx => hs x ((h x).mpr hx)
  | some a => exact ⟨(h a).mp hs.1, fun x hx => hs.2 x ((h x).mpr hx)⟩
theorem least_pick {P Q : List Int → Prop} {S T : Option (List Int)} (hs : IsLeast P S) (ht : IsLeast Q T) : IsLeast (fun x => P x ∨ Q x) (pickR S T) := by
  cases S with
  | none =>
    exact least_iff ht fun x => ⟨Or.inr, fun h => h.elim (fun h => absurd h (hs x)) id⟩
  | some a =>
    cases T with
    | none => exact least_iff hs fun x => ⟨Or.inl, fun h => h.elim id (fun h => absurd h (ht x))⟩
    | some b =>
      unfold pickR
      dsimp only
      by_cases h : lessB a b = true
      · rw [if_pos h]
        have hl : cmpL a b < 0 := of_decide_eq_true h
        exact ⟨Or.inl hs.1, fun x hx => hx.elim (hs.2 x) fun hx => cmpL_trans a b x (by omega) (ht.2 x hx)⟩
      · rw [if_neg h]
        have hl : ¬ cmpL a b < 0 := fun e => h (decide_eq_true e)
        have := cmpL_swap a b
        exact ⟨Or.inr ht.1, fun x hx => hx.elim (fun hx => cmpL_trans b a x (by omega) (hs.2 x hx)) (ht.2 x)⟩
theorem least_first {P : Nat → List Int → Prop} {F : Nat → Option (List Int)} (hF : ∀ i, IsLeast (P i) (F i)) (ho : ∀ i j x y, i < j → P i x → P j y → cmpL x y ≤ 0) : ∀ m, IsLeast (fun x => ∃ i, i < m ∧ P i x) (firstN F m) := by
  intro m
  induction m with
  | zero => exact fun x ⟨i, hi, _⟩ => absurd hi (Nat.not_lt_zero i)
  | succ m ih =>
    rw [firstN]
    cases e : firstN F m with
    | some b =>
      rw [e] at ih
      obtain ⟨i, hi, hp⟩ := ih.1
      refine ⟨⟨i, by omega, hp⟩, fun x ⟨j, hj, hx⟩ => ?_⟩
      by_cases hjm : j < m
      · exact ih.2 x ⟨j, hjm, hx⟩
      · exact ho i j b x (by omega) hp hx
    | none =>
      rw [e] at ih
      refine least_iff (hF m) fun x => ⟨fun h => ⟨m, by omega, h⟩, fun ⟨j, hj, hx⟩ => ?_⟩
      by_cases hjm : j < m
      · exact absurd ⟨j, hjm, hx⟩ (ih x)
      · obtain rfl : j = m := by omega
        exact hx

/-! ### walks -/
def WT (l : List S39) (fr : Nat) : Nat → Nat → List Int → Prop
  | at_, _, [] => at_ = fr
  | at_, met, j :: js => inR l j ∧ ∃ v, otherN (tieA l j) at_ = some v ∧ met.testBit v = false ∧ WT l fr v (met ||| 2 ^ v) js
def PT (l : List S39) (fr : Nat) : Nat → Nat → List Int → Prop
  | at_, _, [] => at_ = fr
  | at_, met, j :: js => inR l j ∧ ∃ v, otherN (tieA l j) at_ = some v ∧ (if js = [] then v = fr else met.testBit v = false) ∧ PT l fr v (met ||| 2 ^ v) js
def DT (l : List S39) : Nat → Nat → List Int → Prop
  | _, _, [] => True
  | at_, met, j :: js => inR l j ∧ ∃ v, otherN (tieA l j) at_ = some v ∧ met.testBit v = false ∧ DT l v (met ||| 2 ^ v) js
def feL (l : List S39) : List Int → Nat
  | [] => 0
  | j :: js => feT (tieA l j) + feL l js
section
variable {l : List S39}
theorem WT_DT {fr : Nat} : ∀ (js : List Int) (at_ met : Nat), WT l fr at_ met js → DT l at_ met js
  | [], _, _, _ => trivial
  | _ :: js, _, _, ⟨h, v, h1, h2, h3⟩ => ⟨h, v, h1, h2, WT_DT js _ _ h3⟩
theorem WT_in {fr : Nat} : ∀ (js : List Int) (at_ met : Nat), WT l fr at_ met js → ∀ j ∈ js, inR l j
  | [], _, _, _ => fun _ hj => absurd hj (by simp)
  | j :: js, _, _, ⟨h, v, _, _, h3⟩ => fun i hi => by
    rcases List.mem_cons.mp hi with e | e
    · rw [e]; exact h
    · exact WT_in js _ _ h3 i e
theorem WT_met {fr : Nat} : ∀ (js : List Int) (at_ met : Nat), met.testBit fr = true → js ≠ [] → ¬ WT l fr at_ met js
  | [], _, _, _, h => fun _ => h rfl
  | j :: js, _, met, hm, _ => fun ⟨_, v, _, h2, h3⟩ => by
    by_cases e : js = []
    · subst e
      rw [WT] at h3
      subst h3
      rw [hm] at h2; cases h2
    · exact WT_met js v (met ||| 2 ^ v) (by rw [or_bit, hm, Bool.true_or]) e h3
theorem WT_PT {fr : Nat} : ∀ (js : List Int) (at_ met : Nat), met.testBit fr = false → (WT l fr at_ met js ↔ PT l fr at_ (met ||| 2 ^ fr) js)
  | [], _, _, _ => Iff.rfl
  | j :: js, at_, met, hm => by
    rw [WT, PT]
    refine and_congr Iff.rfl (exists_congr fun v => and_congr Iff.rfl ?_)
    by_cases e : js = []
    · subst e
      rw [if_pos rfl, WT, PT]
      exact ⟨fun h => ⟨h.2, h.2⟩, fun h => ⟨by rw [h.1]; exact hm, h.2⟩⟩
    · rw [if_neg e]
      have hc : (met ||| 2 ^ fr) ||| 2 ^ v = (met ||| 2 ^ v) ||| 2 ^ fr := by rw [Nat.or_assoc, Nat.or_comm (2 ^ fr), Nat.or_assoc]
      rw [hc, or_bit, Bool.or_eq_false_iff, decide_eq_false_iff_not]
      constructor
      · rintro ⟨h2, h3⟩
        have hv : v ≠ fr := fun ev => WT_met js v (met ||| 2 ^ v) (by rw [or_bit, ev]; simp) e h3
        refine ⟨⟨h2, hv⟩, (WT_PT js v (met ||| 2 ^ v) ?_).mp h3⟩
        rw [or_bit, hm, Bool.false_or, decide_eq_false_iff_not]
        exact fun e => hv e.symm
      · rintro ⟨⟨h2, hv⟩, h3⟩
        refine ⟨h2, (WT_PT js v (met ||| 2 ^ v) ?_).mpr h3⟩
        rw [or_bit, hm, Bool.false_or, decide_eq_false_iff_not]
        exact fun e => hv e.symm
end
end Go.Proofs.Ytaegldcifhgnmaa.B

/- The program's best list and the specification's shortest ring are one: the two searches (plain). -/
namespace Go.Proofs.Ytaegldcifhgnmaa.B
open Go.Proofs.Ytaegldcifhgnmaa.A
open Go.RowKit Go.Proofs.YtaegldcifhgnmaaW.PrintWords Go.Proofs.YtaegldcifhgnmaaW.PrintMore
section
variable {l : List S39}
theorem drop_cons {r : List Int} {k : Nat} (h : k < r.length) : r.drop k = r.getD k 0 :: r.drop (k + 1) := by
  rw [List.drop_eq_getElem_cons h]
  congr 1
  rw [List.getD_eq_getElem?_getD, List.getElem?_eq_getElem h]; rfl
theorem feSum_drop (r : List Int) : ∀ d k, r.length - k = d → k ≤ r.length → feSum l r d k = feL l (r.drop k)
  | 0, k, hd, hk => by
    rw [List.drop_eq_nil_of_le (by omega)]; rfl
  | d + 1, k, hd, hk => by
    rw [drop_cons (by omega), feSum, feL, feSum_drop r d (k + 1) (by omega) (by omega)]; rfl
theorem walkN_WT (r : List Int) (fr : Nat) (hin : ∀ k, k < r.length → inR l (r.getD k 0)) : ∀ d k at_ fe met, r.length - k = d → k ≤ r.length → ((walkN l r fr d k at_ fe met).2 = true ↔ WT l fr at_ met (r.drop k))
  | 0, k, at_, fe, met, hd, hk => by
    rw [List.drop_eq_nil_of_le (by omega), walkN, WT]
    exact decide_eq_true_iff
  | d + 1, k, at_, fe, met, hd, hk => by
    rw [drop_cons (by omega), walkN, WT]
    cases e : otherN (tieA l (r.getD k 0)) at_ with
    | none =>
      dsimp only
      exact ⟨fun h => absurd h Bool.false_ne_true, fun ⟨_, v, h, _⟩ => by cases h⟩
    | some v =>
      dsimp only
      by_cases hb : met.testBit v = true
      · rw [if_pos hb]
        refine ⟨fun h => absurd h Bool.false_ne_true, fun ⟨_, u, h, h2, _⟩ => ?_⟩
        cases h
        rw [hb] at h2; cases h2
      · rw [if_neg hb]
        have ih := walkN_WT r fr hin d (k + 1) v (fe + feA l r k) (met ||| 2 ^ v) (by omega) (by omega)
        rw [ih]
        refine ⟨fun h => ⟨hin k (by omega), v, rfl, by simpa using hb, h⟩, fun ⟨_, u, h, h2, h3⟩ => ?_⟩
        cases h
        exact h3
/-- A ring, one way or the other. -/
def Ringy (l : List S39) (x : List Int) : Prop := ∃ fr : Nat, (fr = (tieA l (x.getD 0 0)).f0.toNat ∨ fr = (tieA l (x.getD 0 0)).f1.toNat) ∧ WT l fr fr 0 x
theorem isRing_iff {x : List Int} (h3 : 3 ≤ x.length) : (isRingR l x).2 = true ↔ Ringy l x := by
  unfold isRingR
  rw [if_neg (by omega)]
  by_cases hin : ∀ k, k < x.length → inR l (x.getD k 0)
  · rw [if_pos hin]
    have w : ∀ fr, (walkF l x fr).2 = true ↔ WT l fr fr 0 x := fun fr => by
      have := walkN_WT x fr hin x.length 0 fr 0 0 (by omega) (Nat.zero_le _)
      rwa [List.drop_zero] at this
    by_cases ha : (walkF l x (tieA l (x.getD 0 0)).f0.toNat).2 = true
    · rw [if_pos ha]
      exact ⟨fun h => ⟨_, Or.inl rfl, (w _).mp h⟩, fun _ => ha⟩
    · rw [if_neg ha]
      by_cases hb : (walkF l x (tieA l (x.getD 0 0)).f1.toNat).2 = true
      · rw [if_pos hb]
        exact ⟨fun h => ⟨_, Or.inr rfl, (w _).mp h⟩, fun _ => hb⟩
      · rw [if_neg hb]
        refine ⟨fun h => absurd h Bool.false_ne_true, fun ⟨fr, hf, hw⟩ => ?_⟩
        rcases hf with e | e
        · rw [e, ← w] at hw; exact absurd hw ha
        · rw [e, ← w] at hw; exact absurd hw hb
  · rw [if_neg hin]
    refine ⟨fun h => absurd h Bool.false_ne_true, fun ⟨fr, _, hw⟩ => ?_⟩
    exact absurd (fun k hk => WT_in x _ _ hw _ (getD_mem 0 hk)) hin
theorem isRing_fe {x : List Int} (h3 : 3 ≤ x.length) (h : (isRingR l x).2 = true) : (isRingR l x).1 = (feL l x : Int) := by
  have w : ∀ fr, (walkF l x fr).2 = true → (walkF l x fr).1 = (feL l x : Int) := fun fr hf => by
    have := walkN_fst l x fr x.length 0 fr 0 0 hf
    rw [Nat.zero_add, feSum_drop x x.length 0 (by omega) (Nat.zero_le _), List.drop_zero] at this
    exact this
  unfold isRingR at h ⊢
  rw [if_neg (by omega)] at h ⊢
  by_cases hin : ∀ k, k < x.length → inR l (x.getD k 0)
  · rw [if_pos hin] at h ⊢
    by_cases ha : (walkF l x (tieA l (x.getD 0 0)).f0.toNat).2 = true
    · rw [if_pos ha]; exact w _ ha
    · rw [if_neg ha] at h ⊢
      by_cases hb : (walkF l x (tieA l (x.getD 0 0)).f1.toNat).2 = true
      · rw [if_pos hb]; exact w _ hb
      · rw [if_neg hb] at h; exact absurd h Bool.false_ne_true
  · rw [if_neg hin] at h; exact absurd h Bool.false_ne_true

/-! ### the specification -/
def okX (l : List S39) (one : Bool) (x : List Int) : Prop := ((isRingR l x).2 && askB one (isRingR l x).1) = true
theorem rg_least (one : Bool) : ∀ d now at_ met, IsLeast (fun x => ∃ js, x = now ++ js ∧ js.length = d ∧ DT l at_ met js ∧ okX l one x) (ringedR l one d now at_ met)
  | 0, now, at_, met => by
    rw [ringedR]
    by_cases h : ((isRingR l now).2 && askB one (isRingR l now).1) = true
    · rw [if_pos h]
      refine ⟨⟨[], by simp, rfl, trivial, h⟩, fun x ⟨js, e, hl, _, _⟩ => ?_⟩
      obtain rfl := List.eq_nil_of_length_eq_zero hl
      rw [e, List.append_nil, cmpL_self]; decide
    · rw [if_neg h]
      rintro x ⟨js, e, hl, _, hx⟩
      obtain rfl := List.eq_nil_of_length_eq_zero hl
      rw [e, List.append_nil] at hx
      exact h hx
  | d + 1, now, at_, met => by
    rw [ringedR]
    have key := least_first (P := fun i x => i < l.length ∧ ∃ v js, x = (now ++ [(i : Int)]) ++ js ∧ js.length = d ∧ otherN (l.getD i z39) at_ = some v ∧ met.testBit v = false ∧ DT l v (met ||| 2 ^ v) js ∧ okX l one x)
      (F := fun i => if i < l.length then (match otherN (l.getD i z39) at_ with
        | none => none
        | some v => if met.testBit v = true then none else ringedR l one d (now ++ [(i : Int)]) v (met ||| 2 ^ v)) else none) (fun i => by
        by_cases hi : i < l.length
        · rw [if_pos hi]
          cases e : otherN (l.getD i z39) at_ with
          | none => rintro x ⟨_, v, js, _, _, h, _⟩; cases h
          | some v =>
            dsimp only
            by_cases hb : met.testBit v = true
            · rw [if_pos hb]
              rintro x ⟨_, u, js, _, _, h, h2, _⟩
              cases h
              rw [hb] at h2; cases h2
            · rw [if_neg hb]
              refine least_iff (rg_least one d (now ++ [(i : Int)]) v (met ||| 2 ^ v)) fun x => ⟨fun ⟨js, h1, h2, h3, h4⟩ => ⟨hi, v, js, h1, h2, rfl, by simpa using hb, h3, h4⟩, fun ⟨_, u, js, h1, h2, h, h5, h3, h4⟩ => ?_⟩
              cases h
              exact ⟨js, h1, h2, h3, h4⟩
        · rw [if_neg hi]
          exact fun x h => hi h.1) (fun i j x y hij ⟨_, v, js, h1, _⟩ ⟨_, u, js', h2, _⟩ => by
        rw [h1, h2, List.append_assoc, List.append_assoc, cmpL_pre]
        exact cmpL_lt (by omega) _ _) l.length
    have hsame : firstN (fun i => if i < l.length then (match otherN (l.getD i z39) at_ with
        | none => none
        | some v => if met.testBit v = true then none else ringedR l one d (now ++ [(i : Int)]) v (met ||| 2 ^ v)) else none) l.length = firstN (fun i => match otherN (l.getD i z39) at_ with
        | none => none
        | some v => if met.testBit v = true then none else ringedR l one d (now ++ [(i : Int)]) v (met ||| 2 ^ v)) l.length := by
      have gen : ∀ (F : Nat → Option (List Int)) m, m ≤ l.length → firstN (fun i => if i < l.length then F i else none) m = firstN F m := by
        intro F m
        induction m with
        | zero => intro _; rfl
        | succ m ih => intro hm; rw [firstN, firstN, ih (by omega), if_pos (by omega)]
      exact gen _ _ (Nat.le_refl _)
    rw [hsame] at key
    refine least_iff key fun x => ⟨?_, ?_⟩
    · rintro ⟨i, hi, _, v, js, h1, h2, h3, h4, h5, h6⟩
      refine ⟨(i : Int) :: js, by rw [h1, List.append_assoc]; rfl, by simp [h2], ⟨⟨by omega, by omega⟩, v, ?_, h4, h5⟩, h6⟩
      unfold tieA
      rw [Int.toNat_natCast]; exact h3
    · rintro ⟨js, h1, h2, h3, h4⟩
      cases js with
      | nil => simp at h2
      | cons j js =>
        obtain ⟨hj, v, h5, h6, h7⟩ := h3
        obtain ⟨i, rfl⟩ := Int.eq_ofNat_of_zero_le hj.1
        have hi : i < l.length := by have := hj.2; omega
        unfold tieA at h5
        rw [Int.toNat_natCast] at h5
        exact ⟨i, hi, hi, v, js, by rw [h1, List.append_assoc]; rfl, by simpa using h2, h5, h6, h7, h4⟩
/-- The rings of a size that are asked for. -/
def RingP (l : List S39) (one : Bool) (k : Nat) (x : List Int) : Prop := x.length = k ∧ Ringy l x ∧ askB one (feL l x) = true
theorem okX_iff {one : Bool} {x : List Int} (h3 : 3 ≤ x.length) : okX l one x ↔ Ringy l x ∧ askB one (feL l x) = true := by
  unfold okX
  rw [Bool.and_eq_true, isRing_iff h3]
  refine and_congr_right fun h => ?_
  rw [isRing_fe h3 ((isRing_iff h3).mpr h)]
theorem sizeR_least (hg : goodT l) (one : Bool) {k : Nat} (h3 : 3 ≤ k) : IsLeast (RingP l one k) (sizeR l one k) := by
  unfold sizeR
  rw [if_pos h3]
  have hst : ∀ i fr : Nat, IsLeast (fun x => ∃ js, x = [(i : Int)] ++ js ∧ js.length = k - 1 ∧ DT l fr (2 ^ fr) js ∧ okX l one x) (startR l one k i fr) := fun i fr => rg_least one (k - 1) [(i : Int)] fr (2 ^ fr)
  have hpair : ∀ i : Nat, IsLeast (fun x => (∃ js, x = [(i : Int)] ++ js ∧ js.length = k - 1 ∧ DT l (l.getD i z39).f0.toNat (2 ^ (l.getD i z39).f0.toNat) js ∧ okX l one x) ∨ ∃ js, x = [(i : Int)] ++ js ∧ js.length = k - 1 ∧ DT l (l.getD i z39).f1.toNat (2 ^ (l.getD i z39).f1.toNat) js ∧ okX l one x) (pairR l one k i) := fun i => least_pick (hst i _) (hst i _)
  refine least_iff (least_first hpair (fun i j x y hij hx hy => ?_) l.length) fun x => ⟨?_, ?_⟩
  · obtain ⟨js, rfl⟩ : ∃ js, x = (i : Int) :: js := by rcases hx with ⟨js, h, _⟩ | ⟨js, h, _⟩ <;> exact ⟨js, h⟩
    obtain ⟨js', rfl⟩ : ∃ js, y = (j : Int) :: js := by rcases hy with ⟨js, h, _⟩ | ⟨js, h, _⟩ <;> exact ⟨js, h⟩
    exact cmpL_lt (by omega) _ _
  · rintro ⟨i, _, h⟩
    rcases h with ⟨js, h1, h2, _, h4⟩ | ⟨js, h1, h2, _, h4⟩
    all_goals
      have hl : x.length = k := by rw [h1, List.length_append, List.length_singleton]; omega
      exact ⟨hl, (okX_iff (by omega)).mp h4⟩
  · rintro ⟨hl, hr, ha⟩
    obtain ⟨fr, hfr, hw⟩ := id hr
    cases x with
    | nil => simp at hl; omega
    | cons j js =>
      obtain ⟨hj, v, h5, h6, h7⟩ := hw
      have gj := tieA_good hg hj
      have hp := other_parts gj.1 gj.2.1 h5
      have hv := hasB_iff.mp hp.2.1
      obtain ⟨i, rfl⟩ := Int.eq_ofNat_of_zero_le hj.1
      have hi : i < l.length := by have := hj.2; omega
      rw [Nat.zero_or] at h7
      have hd := WT_DT js _ _ h7
      have hta : tieA l (i : Int) = l.getD i z39 := by unfold tieA; rw [Int.toNat_natCast]
      rw [hta] at hv gj
      have hok := (okX_iff (one := one) (x := (i : Int) :: js) (by rw [hl]; exact h3)).mpr ⟨hr, ha⟩
      have hjl : js.length = k - 1 := by rw [List.length_cons] at hl; omega
      refine ⟨i, hi, ?_⟩
      rcases hv with e | e
      · left
        have : (l.getD i z39).f0.toNat = v := by omega
        rw [this]
        exact ⟨js, rfl, hjl, hd, hok⟩
      · right
        have : (l.getD i z39).f1.toNat = v := by omega
        rw [this]
        exact ⟨js, rfl, hjl, hd, hok⟩

/-! ### the program -/
theorem toT_other {t : S39} (h0 : 0 ≤ t.f0) (h1 : t.f0 < t.f1) (a v : Nat) : otherN t a = some v ↔ hasB t a = true ∧ v = toT t a := by
  constructor
  · intro h
    have hp := other_parts h0 h1 h
    have ha := hasB_iff.mp hp.1
    have hv := hasB_iff.mp hp.2.1
    refine ⟨hp.1, ?_⟩
    unfold toT
    have := hp.2.2
    omega
  · rintro ⟨ha, rfl⟩
    have ha' := hasB_iff.mp ha
    refine other_has h1 ha (hasB_iff.mpr ?_) ?_ <;> unfold toT <;> omega
theorem onF_iff (hg : goodT l) (fr : Nat) : ∀ d now at_ met fe x g, (x, g) ∈ onF l fr d now at_ met fe ↔ ∃ js, x = now ++ js ∧ js.length = d ∧ PT l fr at_ met js ∧ g = fe + feL l js
  | 0, now, at_, met, fe, x, g => by
    rw [onF]
    constructor
    · intro h
      by_cases e : at_ = fr
      · rw [if_pos e] at h
        have := List.mem_singleton.mp h
        cases this
        exact ⟨[], by simp, rfl, e, rfl⟩
      · rw [if_neg e] at h; exact absurd h (by simp)
    · rintro ⟨js, h1, h2, h3, h4⟩
      obtain rfl := List.eq_nil_of_length_eq_zero h2
      rw [PT] at h3
      rw [if_pos h3, List.mem_singleton, h1, h4, List.append_nil]; rfl
  | d + 1, now, at_, met, fe, x, g => by
    rw [onF, List.mem_flatMap]
    constructor
    · rintro ⟨i, hi, h⟩
      rw [List.mem_range] at hi
      by_cases hgo : goesB (l.getD i z39) fr d at_ met = true
      · rw [if_pos hgo] at h
        obtain ⟨js, h1, h2, h3, h4⟩ := (onF_iff hg fr d _ _ _ _ x g).mp h
        have hin : inR l (i : Int) := ⟨by omega, by omega⟩
        have hta : tieA l (i : Int) = l.getD i z39 := by unfold tieA; rw [Int.toNat_natCast]
        have gi := tieA_good hg hin
        rw [hta] at gi
        unfold goesB at hgo
        rw [Bool.and_eq_true] at hgo
        refine ⟨(i : Int) :: js, by rw [h1, List.append_assoc]; rfl, by simp [h2], ⟨hin, toT (l.getD i z39) at_, ?_, ?_, h3⟩, ?_⟩
        · rw [hta, toT_other gi.1 gi.2.1]; exact ⟨hgo.1, rfl⟩
        · by_cases e : js = []
          · rw [if_pos e]
            have hd : d = 0 := by rw [← h2, e]; rfl
            rw [if_pos hd] at hgo
            exact of_decide_eq_true hgo.2
          · rw [if_neg e]
            have hd : d ≠ 0 := fun hd => e (List.eq_nil_of_length_eq_zero (h2.trans hd))
            rw [if_neg hd] at hgo
            simpa using hgo.2
        · rw [h4, feL, hta, Nat.add_assoc]
      · rw [if_neg hgo] at h; exact absurd h (by simp)
    · rintro ⟨js, h1, h2, h3, h4⟩
      cases js with
      | nil => simp at h2
      | cons j js =>
        obtain ⟨hj, v, h5, h6, h7⟩ := h3
        have gj := tieA_good hg hj
        obtain ⟨i, rfl⟩ := Int.eq_ofNat_of_zero_le hj.1
        have hi : i < l.length := by have := hj.2; omega
        have hta : tieA l (i : Int) = l.getD i z39 := by unfold tieA; rw [Int.toNat_natCast]
        rw [hta] at gj h5
        have ht := (toT_other gj.1 gj.2.1 at_ v).mp h5
        have hjl : js.length = d := by simpa using h2
        refine ⟨i, List.mem_range.mpr hi, ?_⟩
        have hgo : goesB (l.getD i z39) fr d at_ met = true := by
          unfold goesB
          rw [ht.1, Bool.true_and, ← ht.2]
          by_cases e : js = []
          · rw [if_pos e] at h6
            rw [if_pos (by rw [← hjl, e]; rfl)]
            exact decide_eq_true h6
          · rw [if_neg e] at h6
            rw [if_neg (fun hd => e (List.eq_nil_of_length_eq_zero (hjl.trans hd))), h6]; rfl
        rw [if_pos hgo, onF_iff hg fr d, ← ht.2]
        refine ⟨js, by rw [h1, List.append_assoc]; rfl, hjl, h7, ?_⟩
        rw [h4, feL, hta, Nat.add_assoc]
theorem fromF_iff (hg : goodT l) {i d fr : Nat} (hi : i < l.length) (hf : fr = (l.getD i z39).f0.toNat ∨ fr = (l.getD i z39).f1.toNat) (x : List Int) (g : Nat) : (x, g) ∈ fromF l d i fr ↔ ∃ js, x = (i : Int) :: js ∧ js.length = d ∧ WT l fr fr 0 x ∧ g = feL l x := by
  have hin : inR l (i : Int) := ⟨by omega, by omega⟩
  have hta : tieA l (i : Int) = l.getD i z39 := by unfold tieA; rw [Int.toNat_natCast]
  have gi := tieA_good hg hin
  rw [hta] at gi
  have hh : hasB (l.getD i z39) fr = true := hasB_iff.mpr (by omega)
  have ho := (toT_other gi.1 gi.2.1 fr _).mpr ⟨hh, rfl⟩
  have hne := (other_parts gi.1 gi.2.1 ho).2.2
  have hm : 2 ^ (l.getD i z39).f0.toNat ||| 2 ^ (l.getD i z39).f1.toNat = 2 ^ toT (l.getD i z39) fr ||| 2 ^ fr := by
    rcases hf with e | e
    · have : (l.getD i z39).f1.toNat = toT (l.getD i z39) fr := by unfold toT; omega
      rw [this, ← e, Nat.or_comm]
    · have : (l.getD i z39).f0.toNat = toT (l.getD i z39) fr := by unfold toT; omega
      rw [this, ← e]
  unfold fromF
  rw [hm, onF_iff hg]
  have hz : (2 ^ toT (l.getD i z39) fr).testBit fr = false := by
    rw [tb_two, beq_eq_false_iff_ne]; exact hne
  refine exists_congr fun js => ?_
  constructor
  · rintro ⟨h1, h2, h3, h4⟩
    refine ⟨h1, h2, ?_, ?_⟩
    · rw [h1]
      show WT l fr fr 0 ((i : Int) :: js)
      refine ⟨hin, _, by rw [hta]; exact ho, Nat.zero_testBit _, ?_⟩
      rw [Nat.zero_or]
      exact (WT_PT js _ _ hz).mpr h3
    · rw [h1, h4]
      show _ = feL l ((i : Int) :: js)
      rw [feL, hta]
  · rintro ⟨h1, h2, h3, h4⟩
    rw [h1] at h3
    obtain ⟨_, v, h5, _, h7⟩ := h3
    rw [hta, ho] at h5
    cases h5
    rw [Nat.zero_or] at h7
    refine ⟨h1, h2, (WT_PT js _ _ hz).mp h7, ?_⟩
    rw [h4, h1, feL, hta]
theorem ringsF_iff (hg : goodT l) (d : Nat) (x : List Int) (g : Nat) : (x, g) ∈ ringsF l d ↔ x.length = d + 1 ∧ Ringy l x ∧ g = feL l x := by
  unfold ringsF ringsK
  rw [List.mem_flatMap]
  constructor
  · rintro ⟨i, hi, h⟩
    rw [List.mem_range] at hi
    have hta : tieA l (i : Int) = l.getD i z39 := by unfold tieA; rw [Int.toNat_natCast]
    rcases List.mem_append.mp h with h | h
    · obtain ⟨js, h1, h2, h3, h4⟩ := (fromF_iff hg hi (Or.inl rfl) x g).mp h
      refine ⟨by rw [h1, List.length_cons, h2], ⟨_, Or.inl ?_, h3⟩, h4⟩
      rw [h1]; show _ = (tieA l (i : Int)).f0.toNat; rw [hta]
    · obtain ⟨js, h1, h2, h3, h4⟩ := (fromF_iff hg hi (Or.inr rfl) x g).mp h
      refine ⟨by rw [h1, List.length_cons, h2], ⟨_, Or.inr ?_, h3⟩, h4⟩
      rw [h1]; show _ = (tieA l (i : Int)).f1.toNat; rw [hta]
  · rintro ⟨hl, ⟨fr, hf, hw⟩, h4⟩
    cases x with
    | nil => simp at hl
    | cons j js =>
      have hj := hw.1
      obtain ⟨i, rfl⟩ := Int.eq_ofNat_of_zero_le hj.1
      have hi : i < l.length := by have := hj.2; omega
      have hta : tieA l (i : Int) = l.getD i z39 := by unfold tieA; rw [Int.toNat_natCast]
      have hf' : fr = (l.getD i z39).f0.toNat ∨ fr = (l.getD i z39).f1.toNat := by rw [← hta]; exact hf
      have hjl : js.length = d := by simpa using hl
      refine ⟨i, List.mem_range.mpr hi, List.mem_append.mpr ?_⟩
      rcases hf' with e | e
      · left
        rw [← e]
        exact (fromF_iff hg hi (Or.inl e) _ g).mpr ⟨js, rfl, hjl, hw, h4⟩
      · right
        rw [← e]
        exact (fromF_iff hg hi (Or.inr e) _ g).mpr ⟨js, rfl, hjl, hw, h4⟩
theorem foldB_least (p : Nat → Bool) : ∀ (V : List (List Int × Nat)) (s : Option (List Int)) (P : List Int → Prop), IsLeast P s → IsLeast (fun x => P x ∨ ∃ g, (x, g) ∈ V ∧ p g = true) (foldV (stepB p) s V)
  | [], s, P, h => least_iff h fun x => ⟨Or.inl, fun h => h.elim id fun ⟨_, h, _⟩ => absurd h (by simp)⟩
  | (now, fe) :: V, s, P, h => by
    have h1 : IsLeast (fun x => P x ∨ (x = now ∧ p fe = true)) (stepB p s now fe) := by
      unfold stepB
      by_cases hp : p fe = true
      · rw [hp, Bool.true_and]
        cases s with
        | none =>
          rw [if_pos rfl]
          exact ⟨Or.inr ⟨rfl, rfl⟩, fun x hx => hx.elim (fun hx => absurd hx (h x)) fun hx => by rw [hx.1, cmpL_self]; decide⟩
        | some b =>
          dsimp only
          by_cases hb : cmpL now b < 0
          · rw [if_pos (decide_eq_true hb)]
            exact ⟨Or.inr ⟨rfl, rfl⟩, fun x hx => hx.elim (fun hx => cmpL_trans _ _ _ (by omega) (h.2 x hx)) fun hx => by rw [hx.1, cmpL_self]; decide⟩
          · rw [if_neg (by simpa using hb)]
            have := cmpL_swap now b
            exact ⟨Or.inl h.1, fun x hx => hx.elim (h.2 x) fun hx => by rw [hx.1]; omega⟩
      · have hp' : p fe = false := by simpa using hp
        rw [hp', Bool.false_and, if_neg Bool.false_ne_true]
        exact least_iff h fun x => ⟨Or.inl, fun hx => hx.elim id fun hx => absurd hx.2 Bool.false_ne_true⟩
    have h2 := foldB_least p V _ _ h1
    refine least_iff h2 fun x => ⟨?_, ?_⟩
    · rintro ((h | ⟨rfl, h⟩) | ⟨g, h, hg⟩)
      · exact Or.inl h
      · exact Or.inr ⟨fe, List.mem_cons_self, h⟩
      · exact Or.inr ⟨g, List.mem_cons_of_mem _ h, hg⟩
    · rintro (h | ⟨g, h, hg⟩)
      · exact Or.inl (Or.inl h)
      · rcases List.mem_cons.mp h with e | e
        · cases e; exact Or.inl (Or.inr ⟨rfl, hg⟩)
        · exact Or.inr ⟨g, e, hg⟩
theorem bestN_least (hg : goodT l) (p : Nat → Bool) (one : Bool) (hp : ∀ g : Nat, p g = askB one (g : Int)) {k : Nat} (h3 : 3 ≤ k) : IsLeast (RingP l one k) (bestN p l k) := by
  unfold bestN
  refine least_iff (foldB_least p (ringsF l (k - 1)) none (fun _ => False) (fun _ h => h)) fun x => ⟨?_, ?_⟩
  · rintro (h | ⟨g, h, hg'⟩)
    · exact h.elim
    · obtain ⟨h1, h2, h4⟩ := (ringsF_iff hg _ x g).mp h
      refine ⟨by omega, h2, ?_⟩
      rw [← hp, ← h4]; exact hg'
  · rintro ⟨h1, h2, h4⟩
    exact Or.inr ⟨feL l x, (ringsF_iff hg _ x _).mpr ⟨by omega, h2, rfl⟩, by rw [hp]; exact h4⟩
theorem firstN_congr {α : Type} {F G : Nat → Option α} (h : ∀ i, F i = G i) (m : Nat) : firstN F m = firstN G m := by
  rw [show F = G from funext h]
theorem find_short (hg : goodT l) (p : Nat → Bool) (one : Bool) (hp : ∀ g : Nat, p g = askB one (g : Int)) (n : Nat) : findF p l n = shortR l one n := by
  unfold findF shortR
  refine firstN_congr (fun k => ?_) _
  unfold bestA
  by_cases h : 3 ≤ k
  · rw [if_pos h]
    exact least_one (bestN_least hg p one hp h) (sizeR_least hg one h) (fun x => Iff.rfl)
  · rw [if_neg h]; unfold sizeR; rw [if_neg h]
theorem ask_odd (g : Nat) : oddB g = askB false (g : Int) := by
  unfold oddB askB
  rw [if_neg Bool.false_ne_true, Int.tmod_eq_emod_of_nonneg (Int.natCast_nonneg _)]
  by_cases h : g % 2 = 1
  · rw [beq_iff_eq.mpr h, beq_iff_eq.mpr (by omega)]
  · rw [beq_eq_false_iff_ne.mpr h, beq_eq_false_iff_ne.mpr (by omega)]
theorem ask_one (g : Nat) : oneB g = askB true (g : Int) := by
  unfold oneB askB
  rw [if_pos rfl]
  by_cases h : g = 1
  · rw [beq_iff_eq.mpr h, beq_iff_eq.mpr (by omega)]
  · rw [beq_eq_false_iff_ne.mpr h, beq_eq_false_iff_ne.mpr (by omega)]
theorem ring_same (n : Int) : ringF oddB n l = rRingF false n l := by
  unfold ringF rRingF
  by_cases h : tiesE n l = 0
  · rw [if_pos h, if_pos h, find_short (tiesE_good h) oddB false ask_odd]
  · rw [if_neg h, if_neg h]
theorem spoilt_same (n : Int) : ringF oneB n l = rRingF true n l := by
  unfold ringF rRingF
  by_cases h : tiesE n l = 0
  · rw [if_pos h, if_pos h, find_short (tiesE_good h) oneB true ask_one]
  · rw [if_neg h, if_neg h]
end
end Go.Proofs.Ytaegldcifhgnmaa.B

-- Printed by hprint.py (this claim's own program, over the kit's print.py) out of the translation and contracts by hand. Not trusted: Lean checks it.
namespace Go.Proofs.Ytaegldcifhgnmaa.PFeudsSides
open Go.Proofs.Ytaegldcifhgnmaa.A Go.Proofs.Ytaegldcifhgnmaa.B
open Go.RowKit Go.Proofs.YtaegldcifhgnmaaW.PrintWords Go.Proofs.YtaegldcifhgnmaaW.PrintLast Go.Proofs.YtaegldcifhgnmaaW.PrintMore
attribute [local go_sem] max2_int min2_int max_two min_two max_three min_three max_four min_four   -- for this text's walks alone
set_option linter.unusedVariables false
set_option linter.unusedSimpArgs false



def errW : Option Int → Value
  | none => .nilIface
  | some c => .iface 0 (.int .i64 c)
theorem errW_none : errW none = .nilIface := rfl
theorem errW_some (c : Int) : errW (some c) = .iface 0 (.int .i64 c) := rfl

theorem info39 : (Try.prog.info? 39).map (fun i => (i.zero, i.size, i.bytes)) = some (some (.agg #[(.int .i64 0), (.int .i64 0), (.bool false)]), 3, 24) := by kernel_rfl
-- the values' own types

end Go.Proofs.Ytaegldcifhgnmaa.PFeudsSides

-- Printed by hprint.py (this claim's own program, over the kit's print.py) out of the translation and contracts by hand. Not trusted: Lean checks it.
namespace Go.Proofs.Ytaegldcifhgnmaa.PFeudsSides
open Go.Proofs.Ytaegldcifhgnmaa.A Go.Proofs.Ytaegldcifhgnmaa.B
open Go.RowKit Go.Proofs.YtaegldcifhgnmaaW.PrintWords Go.Proofs.YtaegldcifhgnmaaW.PrintLast Go.Proofs.YtaegldcifhgnmaaW.PrintMore
attribute [local go_sem] max2_int min2_int max_two min_two max_three min_three max_four min_four   -- for this text's walks alone
set_option linter.unusedVariables false
set_option linter.unusedSimpArgs false

-- by hand: function 16 (drovewaylaw09_few)

-- by hand: function 17 (drovewaylaw09_alive)

-- by hand: function 18 (feuds_Sides)

-- by hand: function 19 (drovewayref09_Sides)

-- by hand: function 20 (feuds_Ring)

-- by hand: function 21 (drovewayref09_Ring)

-- by hand: function 22 (drovewaylaw09_same)

-- by hand: function 23 (drovewaylaw09_ties)

/-! ### drovewaylaw09_FeudsSides: function 3 -/
def drovewaylaw09_FeudsSides.j0 : Nat → Int → List (S39) → List (S39) → Bool → Option (Bool)
  | 0, _, _, _, _ => none
  | k + 1, x0, x1, x5, x38 => if x38 = true then (some false) else ((feuds_Ring.f x0 x5).bind fun bt113 => ((drovewayref09_Ring.f x0 x1).bind fun bt117 => ((drovewaylaw09_same.f k bt113.1 bt117.1).bind fun t121 => (if t121 = true then (if bt113.2 = bt117.2 then ((drovewaylaw09_ties.f k x5 x1).bind fun t122 => (if t122 = true then ((drovewaylaw09_alive.f).bind fun t123 => (some t123)) else (some false))) else (some false)) else (some false)))))
def drovewaylaw09_FeudsSides.f (k : Nat) (a0 : Int) (l1 : List (S39)) : Option (Bool) := (drovewaylaw09_few.f l1 ([] : List Int)).bind fun t101 => (if t101 = true then ((some (([] : List (S39)) : List (S39))).bind fun y103 => (if y103.length + l1.length < 5864062014805 then ((some (y103 ++ l1 : List (S39))).bind fun y106 => ((feuds_Sides.f a0 y106).bind fun bt109 => ((drovewayref09_Sides.f k a0 l1).bind fun bt111 => (if bt109.1 = bt111.1 then (drovewaylaw09_FeudsSides.j0 k a0 l1 y106 (bt109.2 != bt111.2)) else (drovewaylaw09_FeudsSides.j0 k a0 l1 y106 true))))) else (none))) else ((drovewaylaw09_alive.f).bind fun t102 => (some t102)))
theorem drovewaylaw09_FeudsSides.mono_l : ∀ k, (∀ y0 y1 y2 y3, LeO (drovewaylaw09_FeudsSides.j0 k y0 y1 y2 y3) (drovewaylaw09_FeudsSides.j0 (k + 1) y0 y1 y2 y3))
  | 0 => fun _ _ _ _ r h => by simp [drovewaylaw09_FeudsSides.j0] at h
  | k + 1 => by
    have ih0 := drovewaylaw09_FeudsSides.mono_l k
    · intro y0 y1 y2 y3
      unfold drovewaylaw09_FeudsSides.j0
      repeat' first
      | (with_reducible exact ih0 _ _ _ _)
      | (with_reducible exact drovewaylaw09_same.mono _ _ _)
      | (with_reducible exact drovewaylaw09_ties.mono _ _ _)
      | (with_reducible exact drovewayref09_Sides.mono _ _ _)
      | (with_reducible exact LeO.refl _)
      | (with_reducible exact LeO.none _)
      | (with_reducible refine LeO.ite ?_ ?_)
      | (with_reducible refine LeO.bind ?_ (fun _ => ?_))
      | exact ih0 _ _ _ _
      | exact drovewaylaw09_same.mono _ _ _
      | exact drovewaylaw09_ties.mono _ _ _
      | exact drovewayref09_Sides.mono _ _ _
      | exact LeO.none _
      | refine LeO.ite ?_ ?_
      | refine LeO.bind ?_ (fun _ => ?_)
theorem drovewaylaw09_FeudsSides.mono : ∀ a0 a1 k, LeO (drovewaylaw09_FeudsSides.f k a0 a1) (drovewaylaw09_FeudsSides.f (k + 1) a0 a1) := by
  intro a0 a1 k
  have ih0 := drovewaylaw09_FeudsSides.mono_l k
  unfold drovewaylaw09_FeudsSides.f
  repeat' first
      | (with_reducible exact ih0 _ _ _ _)
      | (with_reducible exact drovewaylaw09_same.mono _ _ _)
      | (with_reducible exact drovewaylaw09_ties.mono _ _ _)
      | (with_reducible exact drovewayref09_Sides.mono _ _ _)
      | (with_reducible exact LeO.refl _)
      | (with_reducible exact LeO.none _)
      | (with_reducible refine LeO.ite ?_ ?_)
      | (with_reducible refine LeO.bind ?_ (fun _ => ?_))
      | exact ih0 _ _ _ _
      | exact drovewaylaw09_same.mono _ _ _
      | exact drovewaylaw09_ties.mono _ _ _
      | exact drovewayref09_Sides.mono _ _ _
      | exact LeO.none _
      | refine LeO.ite ?_ ?_
      | refine LeO.bind ?_ (fun _ => ?_)
set_option maxHeartbeats 8000000 in
set_option maxRecDepth 100000 in
theorem drovewaylaw09_FeudsSides.calls (k : Nat) (a0 : Int) (A1 : Option Addr) (c1 : Nat) (l1 : List (S39)) (r : Bool) (w : World) (hr1 : Kd.C k39 w A1 l1.length l1) (hc1 : l1.length ≤ c1) (h : drovewaylaw09_FeudsSides.f k a0 l1 = some r) :
    Calls Try.prog 3 #[.int .i64 a0, .slice A1 l1.length c1] w fun e w' => e = .returned (.bool r) ∧ Below w.heap.size w w' := by
  have HR1 := Aside0.mk hr1
  have HC1 := Aside0.mk hc1
  clear hr1 hc1
  have HB := Aside0.mk (Below.refl w.heap.size w)
  have H : ((drovewaylaw09_few.f l1 ([] : List Int)).bind fun t101 => (if t101 = true then ((some (([] : List (S39)) : List (S39))).bind fun y103 => (if y103.length + l1.length < 5864062014805 then ((some (y103 ++ l1 : List (S39))).bind fun y106 => ((feuds_Sides.f a0 y106).bind fun bt109 => ((drovewayref09_Sides.f k a0 l1).bind fun bt111 => (if bt109.1 = bt111.1 then (drovewaylaw09_FeudsSides.j0 k a0 l1 y106 (bt109.2 != bt111.2)) else (drovewaylaw09_FeudsSides.j0 k a0 l1 y106 true))))) else (none))) else ((drovewaylaw09_alive.f).bind fun t102 => (some t102)))) = some r := h
  clear h
  replace H := Option.bind_eq_some_iff.mp H
  obtain ⟨t101, A30, H⟩ := H
  replace H : (if t101 = true then ((some (([] : List (S39)) : List (S39))).bind fun y103 => (if y103.length + l1.length < 5864062014805 then ((some (y103 ++ l1 : List (S39))).bind fun y106 => ((feuds_Sides.f a0 y106).bind fun bt109 => ((drovewayref09_Sides.f k a0 l1).bind fun bt111 => (if bt109.1 = bt111.1 then (drovewaylaw09_FeudsSides.j0 k a0 l1 y106 (bt109.2 != bt111.2)) else (drovewaylaw09_FeudsSides.j0 k a0 l1 y106 true))))) else (none))) else ((drovewaylaw09_alive.f).bind fun t102 => (some t102))) = some r := H
  have A3 := Aside0.mk A30
  clear A30
  by_cases c4 : t101 = true
  · subst c4
    have H1 : ((some (([] : List (S39)) : List (S39))).bind fun y103 => (if y103.length + l1.length < 5864062014805 then ((some (y103 ++ l1 : List (S39))).bind fun y106 => ((feuds_Sides.f a0 y106).bind fun bt109 => ((drovewayref09_Sides.f k a0 l1).bind fun bt111 => (if bt109.1 = bt111.1 then (drovewaylaw09_FeudsSides.j0 k a0 l1 y106 (bt109.2 != bt111.2)) else (drovewaylaw09_FeudsSides.j0 k a0 l1 y106 true))))) else (none))) = some r := by rw [if_pos rfl] at H; exact H
    clear H
    have H := H1
    clear H1
    obtain ⟨y103, hy103⟩ : ∃ y_ : List (S39), y_ = (([] : List (S39))) := ⟨_, rfl⟩
    replace H : (if y103.length + l1.length < 5864062014805 then ((some (y103 ++ l1 : List (S39))).bind fun y106 => ((feuds_Sides.f a0 y106).bind fun bt109 => ((drovewayref09_Sides.f k a0 l1).bind fun bt111 => (if bt109.1 = bt111.1 then (drovewaylaw09_FeudsSides.j0 k a0 l1 y106 (bt109.2 != bt111.2)) else (drovewaylaw09_FeudsSides.j0 k a0 l1 y106 true))))) else (none)) = some r := by first | (rw [hy103]; with_reducible exact H) | (have H2_ := (Option.bind_some _ _).symm.trans H; rw [hy103]; with_reducible exact H2_) | (have H2_ := (Option.bind_some _ _).symm.trans H; with_reducible exact H2_) | with_reducible exact H | (rw [hy103]; exact H) | exact H
    have Ny103 := Aside0.mk hy103
    clear hy103
    by_cases c5 : y103.length + l1.length < 5864062014805
    · rw [if_pos c5] at H
      have LMc5 := Aside0.mk c5
      clear c5
      obtain ⟨y106, hy106⟩ : ∃ y_ : List (S39), y_ = (y103 ++ l1) := ⟨_, rfl⟩
      replace H : ((feuds_Sides.f a0 y106).bind fun bt109 => ((drovewayref09_Sides.f k a0 l1).bind fun bt111 => (if bt109.1 = bt111.1 then (drovewaylaw09_FeudsSides.j0 k a0 l1 y106 (bt109.2 != bt111.2)) else (drovewaylaw09_FeudsSides.j0 k a0 l1 y106 true)))) = some r := by first | (rw [hy106]; with_reducible exact H) | (have H2_ := (Option.bind_some _ _).symm.trans H; rw [hy106]; with_reducible exact H2_) | (have H2_ := (Option.bind_some _ _).symm.trans H; with_reducible exact H2_) | with_reducible exact H | (rw [hy106]; exact H) | exact H
      have Ny106 := Aside0.mk hy106
      clear hy106
      replace H := Option.bind_eq_some_iff.mp H
      obtain ⟨⟨t109, t110⟩, A60, H⟩ := H
      replace H : ((drovewayref09_Sides.f k a0 l1).bind fun bt111 => (if t109 = bt111.1 then (drovewaylaw09_FeudsSides.j0 k a0 l1 y106 (t110 != bt111.2)) else (drovewaylaw09_FeudsSides.j0 k a0 l1 y106 true))) = some r := H
      have A6 := Aside0.mk A60
      clear A60
      replace H := Option.bind_eq_some_iff.mp H
      obtain ⟨⟨t111, t112⟩, A70, H⟩ := H
      replace H : (if t109 = t111 then (drovewaylaw09_FeudsSides.j0 k a0 l1 y106 (t110 != t112)) else (drovewaylaw09_FeudsSides.j0 k a0 l1 y106 true)) = some r := H
      have A7 := Aside0.mk A70
      clear A70
      have HC8 := Aside0.mk H
      clear H
      go_enter Try.func3, Try.ntmps3
      go_upto_region 6 with (first | ((with_reducible refine gate_callee (f := 16) rfl ?_); refine goesL_ (some 13) rfl rfl Try.func16 (by kernel_rfl) rfl #[.slice A1 l1.length c1, .slice none 0 0] rfl (by (try simp only [List.map_toArray, List.map_cons, List.map_nil]); first | done | rfl | (simp only [List.length_drop, List.length_take]; rfl)) ?_; (refine (drovewaylaw09_few.calls _ _ l1 _ _ ([] : List Int) true _ ?side1 ?side2 ?side3 ?side4 A3.out).mono ?_); (case side1 => repeat (first | exact HR1.out | (with_reducible refine Kd.C_alloc ?_ _) | (with_reducible refine Kd.C_drewN ?_ _) | (with_reducible refine Kd.C_drew ?_))); (case side2 => exact HC1.out); (case side3 => exact Kd.C_nil _ _); (case side4 => exact Nat.le_refl _); rintro e w' ⟨rfl, ⟨nd, rfl⟩⟩; refine ⟨_, rfl, ?_⟩) | ((with_reducible refine gate_dst (N := 16) rfl ?_); refine Kd.R_lit k39 _ 39 ?hg (N := 16) ?hd (xs := ([] : List (S39))) (inner := []) (ok := fun _ => True) (okp := fun _ => True) ?hr ?hp (fun _ hk => hk) trivial (Below.refl _ _) (Nat.le_refl _) (by simp) ?_; (case hd => rfl); (case hg => rfl); (case hr => first | (go_simp; done) | (go_simp; rfl)); (case hp => exact (Reps.none _ _)); intro v104 w9 ho10 hb hg_ hnew_; clear hg_ hnew_; (first | rw [← Ny103.out] at ho10 | (simp only [Int.reduceToNat] at ho10; rw [← Ny103.out] at ho10)); have n0_ := Aside0.mk (Kd.R_lower ho10 (below_size (by repeat (first | (with_reducible first | exact HB.out | apply below_alloc | apply pw_below_drewN | apply below_drew1) | exact HB.out)))); have n1_ := Aside0.mk (below_step (by repeat (first | (with_reducible first | exact HB.out | apply below_alloc | apply pw_below_drewN | apply below_drew1) | exact HB.out)) hb); clear HB; have HO105 := n0_; have HB := n1_; clear n0_ n1_; clear hb ho10) | ((with_reducible refine gate_builtin (b := .append) (xs := #[.tmp 16, .tmp 17]) rfl ?_); at_builtin; refine Kd.R_append_rows k39 (w0 := w) w.heap.size rfl (.tmp 16) (.tmp 17) 22 39 (.agg #[(.int .i64 0), (.int .i64 0), (.bool false)]) 24 rfl Try.underlying22 info39 rfl (by decide) (by omega) v104 y103 l1 _ _ _ (fun _ => True) (fun _ => False) rfl rfl ?aO ?aR (fun _ _ h => h) (fun _ h => h.elim) ?aF ?aB ?aS ?aL ?_; (case aR => repeat (first | exact (Kd.C_below HR1.out HB.out) | (with_reducible refine Kd.C_alloc ?_ _) | (with_reducible refine Kd.C_drewN ?_ _) | (with_reducible refine Kd.C_drew ?_))); (case aB => exact (by repeat (first | (with_reducible first | exact HB.out | apply below_alloc | apply pw_below_drewN | apply below_drew1) | exact HB.out))); (case aF => exact (fun _ _ => trivial)); (case aO => exact (by (with_reducible repeat (first | apply Kd.R_alloc | apply Kd.R_drewN | apply Kd.R_drew)); exact HO105.out)); (case aS => exact (below_size (by repeat (first | (with_reducible first | exact HB.out | apply below_alloc | apply pw_below_drewN | apply below_drew1) | exact HB.out)))); (case aL => have := LMc5.out; omega); intro v107 w11 ho hb hg hat; rw [← Ny106.out] at ho; have n0_ := Aside0.mk (hb); have n1_ := Aside0.mk (ho); clear HB; clear HO105; have HB := n0_; have HO108 := n1_; clear n0_ n1_; clear ho hb hg hat; obtain ⟨Ao12, co12, eo12⟩ := Kd.R_slice HO108.out; subst eo12) | ((with_reducible refine gate_callee (f := 18) rfl ?_); refine goesL_ (some 22) rfl rfl Try.func18 (by kernel_rfl) rfl #[.int .i64 a0, .slice Ao12 y106.length co12] rfl (by (try simp only [List.map_toArray, List.map_cons, List.map_nil]); first | done | rfl | (simp only [List.length_drop, List.length_take]; rfl)) ?_; (with_reducible refine (feuds_Sides.calls a0 _ _ y106 t109 t110 _ ?side1 ?side2 A6.out).mono ?_); (case side1 => repeat (first | exact (Kd.R_reads' HO108.out).2.2 | (with_reducible refine Kd.C_alloc ?_ _) | (with_reducible refine Kd.C_drewN ?_ _) | (with_reducible refine Kd.C_drew ?_))); (case side2 => exact (Kd.R_reads' HO108.out).2.1); rintro e w13 ⟨rfl, hb⟩; refine ⟨_, rfl, ?_⟩; have n0_ := Aside0.mk (Kd.R_below (by (with_reducible repeat (first | apply Kd.R_alloc | apply Kd.R_drewN | apply Kd.R_drew)); exact HO108.out) hb); have n1_ := Aside0.mk (below_step (by repeat (first | (with_reducible first | exact HB.out | apply below_alloc | apply pw_below_drewN | apply below_drew1) | exact HB.out)) hb); clear HO108; clear HB; have HO108 := n0_; have HB := n1_; clear n0_ n1_; (try clear hb); (try clear hb2); (try clear hk); (try clear hi)) | ((with_reducible refine gate_callee (f := 19) rfl ?_); refine goesL_ (some 28) rfl rfl Try.func19 (by kernel_rfl) rfl #[.int .i64 a0, .slice A1 l1.length c1] rfl (by (try simp only [List.map_toArray, List.map_cons, List.map_nil]); first | done | rfl | (simp only [List.length_drop, List.length_take]; rfl)) ?_; (with_reducible refine (drovewayref09_Sides.calls k a0 _ _ l1 t111 t112 _ ?side1 ?side2 A7.out).mono ?_); (case side1 => repeat (first | exact (Kd.C_below HR1.out HB.out) | (with_reducible refine Kd.C_alloc ?_ _) | (with_reducible refine Kd.C_drewN ?_ _) | (with_reducible refine Kd.C_drew ?_))); (case side2 => exact HC1.out); rintro e w14 ⟨rfl, hb⟩; refine ⟨_, rfl, ?_⟩; have n0_ := Aside0.mk (Kd.R_below (by (with_reducible repeat (first | apply Kd.R_alloc | apply Kd.R_drewN | apply Kd.R_drew)); exact HO108.out) hb); have n1_ := Aside0.mk (below_step (by repeat (first | (with_reducible first | exact HB.out | apply below_alloc | apply pw_below_drewN | apply below_drew1) | exact HB.out)) hb); clear HO108; clear HB; have HO108 := n0_; have HB := n1_; clear n0_ n1_; (try clear hb); (try clear hb2); (try clear hk); (try clear hi)))
      (try simp only [Act.put, List.setIfInBounds_toArray, List.set_cons_zero, List.set_cons_succ])
      go_cut [38] (fun v38 wc => ∃ (kq : Nat) (x38_7 : Bool), v38 = .bool x38_7 ∧ Aside0 (drovewaylaw09_FeudsSides.j0 kq a0 l1 y106 x38_7 = some r) ∧ Aside0 (kq ≤ k) ∧ Aside0 (Kd.R k39 39 wc w.heap.size (fun _ => True) (.slice Ao12 y106.length co12) y106) ∧ Aside0 (Below w.heap.size w wc))
      case first =>
        have H := HC8.out
        clear HC8
        by_cases c15 : t109 = t111
        · rw [if_pos c15] at H
          have c15b0 : (t109 == t111) = true := beq_iff_eq.mpr c15
          have c15b1 : (t109 != t111) = false := bne_eq_false_iff_eq.mpr c15
          clear c15
          (first | rw [c15b0] | (simp only [i64_w, i32_w]; rw [c15b0]) | skip)
          have H' := Aside0.mk H
          clear H
          go_wp2
          go_meet
          case rel => exact ⟨_, ((t110 != t112)), (by first | rfl | (simp; done) | (simp [*]; done)), H', ⟨by first | omega | exact Nat.le_refl _⟩, ⟨by (with_reducible repeat (first | apply Kd.R_alloc | apply Kd.R_drewN | apply Kd.R_drew)); exact HO108.out⟩, ⟨by repeat (first | (with_reducible first | exact HB.out | apply below_alloc | apply pw_below_drewN | apply below_drew1) | exact HB.out)⟩⟩
        · rw [if_neg c15] at H
          have c15b0 : (t109 == t111) = false := beq_eq_false_iff_ne.mpr c15
          have c15b1 : (t109 != t111) = true := bne_iff_ne.mpr c15
          (first | rw [c15b0] | (simp only [i64_w, i32_w]; rw [c15b0]) | skip)
          have H' := Aside0.mk H
          clear H
          go_wp2
          go_meet
          case rel => exact ⟨_, (true), (by first | rfl | (simp; done) | (simp [*]; done)), H', ⟨by first | omega | exact Nat.le_refl _⟩, ⟨by (with_reducible repeat (first | apply Kd.R_alloc | apply Kd.R_drewN | apply Kd.R_drew)); exact HO108.out⟩, ⟨by repeat (first | (with_reducible first | exact HB.out | apply below_alloc | apply pw_below_drewN | apply below_drew1) | exact HB.out)⟩⟩
      case rest =>
        clear HC8
        try clear c1
        try clear p2
        try clear c3
        try clear c4
        try clear c5
        try clear c15
        try clear c15b0
        try clear c15b1
        obtain ⟨kq, x38_7, rfl, HA, HJ7, HO_5, HB⟩ := hcut
        cases kq with
        | zero => exact absurd HA.out (by simp [drovewaylaw09_FeudsSides.j0])
        | succ kj7 =>
          have H := HA.out
          clear HA
          simp only [drovewaylaw09_FeudsSides.j0] at H
          by_cases c16 : x38_7 = true
          · subst c16
            have H1 : (some false) = some r := by rw [if_pos rfl] at H; exact H
            clear H
            have H := H1
            clear H1
            obtain rfl := Option.some.inj H
            go_wp2
            go_ret
            exact ⟨by first | rfl | (simp [errW_none, errW_some] <;> rfl) | (simp [*, errW_none, errW_some] <;> rfl), by repeat (first | (with_reducible first | exact HB.out | apply below_alloc | apply pw_below_drewN | apply below_drew1) | exact HB.out)⟩
          · replace c16 := Bool.eq_false_iff.mpr c16
            subst c16
            have H1 : ((feuds_Ring.f a0 y106).bind fun bt113 => ((drovewayref09_Ring.f a0 l1).bind fun bt117 => ((drovewaylaw09_same.f kj7 bt113.1 bt117.1).bind fun t121 => (if t121 = true then (if bt113.2 = bt117.2 then ((drovewaylaw09_ties.f kj7 y106 l1).bind fun t122 => (if t122 = true then ((drovewaylaw09_alive.f).bind fun t123 => (some t123)) else (some false))) else (some false)) else (some false))))) = some r := by rw [if_neg (show ¬ (false = true) by decide)] at H; exact H
            clear H
            have H := H1
            clear H1
            replace H := Option.bind_eq_some_iff.mp H
            obtain ⟨⟨t113, t114⟩, A170, H⟩ := H
            replace H : ((drovewayref09_Ring.f a0 l1).bind fun bt117 => ((drovewaylaw09_same.f kj7 t113 bt117.1).bind fun t121 => (if t121 = true then (if t114 = bt117.2 then ((drovewaylaw09_ties.f kj7 y106 l1).bind fun t122 => (if t122 = true then ((drovewaylaw09_alive.f).bind fun t123 => (some t123)) else (some false))) else (some false)) else (some false)))) = some r := H
            have A17 := Aside0.mk A170
            clear A170
            replace H := Option.bind_eq_some_iff.mp H
            obtain ⟨⟨t117, t118⟩, A180, H⟩ := H
            replace H : ((drovewaylaw09_same.f kj7 t113 t117).bind fun t121 => (if t121 = true then (if t114 = t118 then ((drovewaylaw09_ties.f kj7 y106 l1).bind fun t122 => (if t122 = true then ((drovewaylaw09_alive.f).bind fun t123 => (some t123)) else (some false))) else (some false)) else (some false))) = some r := H
            have A18 := Aside0.mk A180
            clear A180
            replace H := Option.bind_eq_some_iff.mp H
            obtain ⟨t121, A190, H⟩ := H
            replace H : (if t121 = true then (if t114 = t118 then ((drovewaylaw09_ties.f kj7 y106 l1).bind fun t122 => (if t122 = true then ((drovewaylaw09_alive.f).bind fun t123 => (some t123)) else (some false))) else (some false)) else (some false)) = some r := H
            have A19 := Aside0.mk A190
            clear A190
            by_cases c20 : t121 = true
            · subst c20
              have H1 : (if t114 = t118 then ((drovewaylaw09_ties.f kj7 y106 l1).bind fun t122 => (if t122 = true then ((drovewaylaw09_alive.f).bind fun t123 => (some t123)) else (some false))) else (some false)) = some r := by rw [if_pos rfl] at H; exact H
              clear H
              have H := H1
              clear H1
              by_cases c21 : t114 = t118
              · rw [if_pos c21] at H
                have c21b0 : (t114 == t118) = true := beq_iff_eq.mpr c21
                have c21b1 : (t114 != t118) = false := bne_eq_false_iff_eq.mpr c21
                clear c21
                replace H := Option.bind_eq_some_iff.mp H
                obtain ⟨t122, A220, H⟩ := H
                replace H : (if t122 = true then ((drovewaylaw09_alive.f).bind fun t123 => (some t123)) else (some false)) = some r := H
                have A22 := Aside0.mk A220
                clear A220
                by_cases c23 : t122 = true
                · subst c23
                  have H1 : ((drovewaylaw09_alive.f).bind fun t123 => (some t123)) = some r := by rw [if_pos rfl] at H; exact H
                  clear H
                  have H := H1
                  clear H1
                  replace H := Option.bind_eq_some_iff.mp H
                  obtain ⟨t123, A240, H⟩ := H
                  replace H : (some t123) = some r := H
                  have A24 := Aside0.mk A240
                  clear A240
                  obtain rfl := Option.some.inj H
                  go_wp2_with (first | ((with_reducible refine gate_callee (f := 20) rfl ?_); refine goesL_ (some 42) rfl rfl Try.func20 (by kernel_rfl) rfl #[.int .i64 a0, .slice Ao12 y106.length co12] rfl (by (try simp only [List.map_toArray, List.map_cons, List.map_nil]); first | done | rfl | (simp only [List.length_drop, List.length_take]; rfl)) ?_; (with_reducible refine (feuds_Ring.calls a0 _ _ y106 t113 t114 _ ?side1 ?side2 A17.out).mono ?_); (case side1 => repeat (first | exact (Kd.R_reads' HO_5.out).2.2 | (with_reducible refine Kd.C_alloc ?_ _) | (with_reducible refine Kd.C_drewN ?_ _) | (with_reducible refine Kd.C_drew ?_))); (case side2 => exact (Kd.R_reads' HO_5.out).2.1); rintro e w25 ⟨v115, rfl, ho0, hb⟩; refine ⟨_, rfl, ?_⟩; have n0_ := Aside0.mk (Kd.R_below (by (with_reducible repeat (first | apply Kd.R_alloc | apply Kd.R_drewN | apply Kd.R_drew)); exact HO_5.out) hb); have n1_ := Aside0.mk (Kd.R_lower ho0 (below_size (by repeat (first | (with_reducible first | exact HB.out | apply below_alloc | apply pw_below_drewN | apply below_drew1) | exact HB.out)))); have n2_ := Aside0.mk (below_step (by repeat (first | (with_reducible first | exact HB.out | apply below_alloc | apply pw_below_drewN | apply below_drew1) | exact HB.out)) hb); clear HO_5; clear HB; have HO_5 := n0_; have HO116 := n1_; have HB := n2_; clear n0_ n1_ n2_; (try clear hb); (try clear hb2); (try clear hk); (try clear hi); (try clear ho0)) | ((with_reducible refine gate_callee (f := 21) rfl ?_); refine goesL_ (some 48) rfl rfl Try.func21 (by kernel_rfl) rfl #[.int .i64 a0, .slice A1 l1.length c1] rfl (by (try simp only [List.map_toArray, List.map_cons, List.map_nil]); first | done | rfl | (simp only [List.length_drop, List.length_take]; rfl)) ?_; (with_reducible refine (drovewayref09_Ring.calls a0 _ _ l1 t117 t118 _ ?side1 ?side2 A18.out).mono ?_); (case side1 => repeat (first | exact (Kd.C_below HR1.out HB.out) | (with_reducible refine Kd.C_alloc ?_ _) | (with_reducible refine Kd.C_drewN ?_ _) | (with_reducible refine Kd.C_drew ?_))); (case side2 => exact HC1.out); rintro e w26 ⟨v119, rfl, ho0, hb⟩; refine ⟨_, rfl, ?_⟩; have n0_ := Aside0.mk (Kd.R_below (by (with_reducible repeat (first | apply Kd.R_alloc | apply Kd.R_drewN | apply Kd.R_drew)); exact HO_5.out) hb); have n1_ := Aside0.mk (Kd.R_elder' (by (with_reducible repeat (first | apply Kd.R_alloc | apply Kd.R_drewN | apply Kd.R_drew)); exact HO116.out) (Kd.R_base ho0) hb); have n2_ := Aside0.mk (Kd.R_lower (Kd.R_new' ho0 (Kd.R_lt (by (with_reducible repeat (first | apply Kd.R_alloc | apply Kd.R_drewN | apply Kd.R_drew)); exact HO116.out))) (below_size (by repeat (first | (with_reducible first | exact HB.out | apply below_alloc | apply pw_below_drewN | apply below_drew1) | exact HB.out)))); have n3_ := Aside0.mk (below_step (by repeat (first | (with_reducible first | exact HB.out | apply below_alloc | apply pw_below_drewN | apply below_drew1) | exact HB.out)) hb); clear HO_5; clear HO116; clear HB; have HO_5 := n0_; have HO116 := n1_; have HO120 := n2_; have HB := n3_; clear n0_ n1_ n2_ n3_; (try clear hb); (try clear hb2); (try clear hk); (try clear hi); (try clear ho0); obtain ⟨Ao27, co27, eo27⟩ := Kd.R_slice HO116.out; subst eo27; obtain ⟨Ao28, co28, eo28⟩ := Kd.R_slice HO120.out; subst eo28) | ((with_reducible refine gate_callee (f := 22) rfl ?_); refine goesL_ (some 53) rfl rfl Try.func22 (by kernel_rfl) rfl #[.slice Ao27 t113.length co27, .slice Ao28 t117.length co28] rfl (by (try simp only [List.map_toArray, List.map_cons, List.map_nil]); first | done | rfl | (simp only [List.length_drop, List.length_take]; rfl)) ?_; (with_reducible refine (drovewaylaw09_same.calls kj7 _ _ t113 _ _ t117 true _ ?side1 ?side2 ?side3 ?side4 A19.out).mono ?_); (case side1 => repeat (first | exact (Kd.R_reads' HO116.out).2.2 | (with_reducible refine Kd.C_alloc ?_ _) | (with_reducible refine Kd.C_drewN ?_ _) | (with_reducible refine Kd.C_drew ?_))); (case side2 => exact (Kd.R_reads' HO116.out).2.1); (case side3 => repeat (first | exact (Kd.R_reads' HO120.out).2.2 | (with_reducible refine Kd.C_alloc ?_ _) | (with_reducible refine Kd.C_drewN ?_ _) | (with_reducible refine Kd.C_drew ?_))); (case side4 => exact (Kd.R_reads' HO120.out).2.1); rintro e w' ⟨rfl, ⟨nd, rfl⟩⟩; refine ⟨_, rfl, ?_⟩) | (go_at_call 23; (with_reducible refine (drovewaylaw09_ties.calls kj7 _ _ y106 _ _ l1 true _ ?side1 ?side2 ?side3 ?side4 A22.out).mono ?_); (case side1 => repeat (first | exact (Kd.R_reads' HO_5.out).2.2 | (with_reducible refine Kd.C_alloc ?_ _) | (with_reducible refine Kd.C_drewN ?_ _) | (with_reducible refine Kd.C_drew ?_))); (case side2 => exact (Kd.R_reads' HO_5.out).2.1); (case side3 => repeat (first | exact (Kd.C_below HR1.out (by repeat (first | (with_reducible first | exact HB.out | apply below_alloc | apply pw_below_drewN | apply below_drew1) | exact HB.out))) | (with_reducible refine Kd.C_alloc ?_ _) | (with_reducible refine Kd.C_drewN ?_ _) | (with_reducible refine Kd.C_drew ?_))); (case side4 => exact HC1.out); rintro e w' ⟨rfl, ⟨nd, rfl⟩⟩) | (go_at_call 17; (with_reducible refine (drovewaylaw09_alive.calls  t123 _ A24.out).mono ?_); rintro e w29 ⟨rfl, hb⟩; have n0_ := Aside0.mk (Kd.R_below (by (with_reducible repeat (first | apply Kd.R_alloc | apply Kd.R_drewN | apply Kd.R_drew)); exact HO_5.out) hb); have n1_ := Aside0.mk (Kd.R_below (by (with_reducible repeat (first | apply Kd.R_alloc | apply Kd.R_drewN | apply Kd.R_drew)); exact HO116.out) hb); have n2_ := Aside0.mk (Kd.R_below (by (with_reducible repeat (first | apply Kd.R_alloc | apply Kd.R_drewN | apply Kd.R_drew)); exact HO120.out) hb); have n3_ := Aside0.mk (below_step (by repeat (first | (with_reducible first | exact HB.out | apply below_alloc | apply pw_below_drewN | apply below_drew1) | exact HB.out)) hb); clear HO_5; clear HO116; clear HO120; clear HB; have HO_5 := n0_; have HO116 := n1_; have HO120 := n2_; have HB := n3_; clear n0_ n1_ n2_ n3_; (try clear hb); (try clear hb2); (try clear hk); (try clear hi)))
                  go_ret
                  exact ⟨by first | rfl | (simp [errW_none, errW_some] <;> rfl) | (simp [*, errW_none, errW_some] <;> rfl), by repeat (first | (with_reducible first | exact HB.out | apply below_alloc | apply pw_below_drewN | apply below_drew1) | exact HB.out)⟩
                · replace c23 := Bool.eq_false_iff.mpr c23
                  subst c23
                  have H1 : (some false) = some r := by rw [if_neg (show ¬ (false = true) by decide)] at H; exact H
                  clear H
                  have H := H1
                  clear H1
                  obtain rfl := Option.some.inj H
                  go_wp2_with (first | ((with_reducible refine gate_callee (f := 20) rfl ?_); refine goesL_ (some 42) rfl rfl Try.func20 (by kernel_rfl) rfl #[.int .i64 a0, .slice Ao12 y106.length co12] rfl (by (try simp only [List.map_toArray, List.map_cons, List.map_nil]); first | done | rfl | (simp only [List.length_drop, List.length_take]; rfl)) ?_; (with_reducible refine (feuds_Ring.calls a0 _ _ y106 t113 t114 _ ?side1 ?side2 A17.out).mono ?_); (case side1 => repeat (first | exact (Kd.R_reads' HO_5.out).2.2 | (with_reducible refine Kd.C_alloc ?_ _) | (with_reducible refine Kd.C_drewN ?_ _) | (with_reducible refine Kd.C_drew ?_))); (case side2 => exact (Kd.R_reads' HO_5.out).2.1); rintro e w30 ⟨v115, rfl, ho0, hb⟩; refine ⟨_, rfl, ?_⟩; have n0_ := Aside0.mk (Kd.R_below (by (with_reducible repeat (first | apply Kd.R_alloc | apply Kd.R_drewN | apply Kd.R_drew)); exact HO_5.out) hb); have n1_ := Aside0.mk (Kd.R_lower ho0 (below_size (by repeat (first | (with_reducible first | exact HB.out | apply below_alloc | apply pw_below_drewN | apply below_drew1) | exact HB.out)))); have n2_ := Aside0.mk (below_step (by repeat (first | (with_reducible first | exact HB.out | apply below_alloc | apply pw_below_drewN | apply below_drew1) | exact HB.out)) hb); clear HO_5; clear HB; have HO_5 := n0_; have HO116 := n1_; have HB := n2_; clear n0_ n1_ n2_; (try clear hb); (try clear hb2); (try clear hk); (try clear hi); (try clear ho0)) | ((with_reducible refine gate_callee (f := 21) rfl ?_); refine goesL_ (some 48) rfl rfl Try.func21 (by kernel_rfl) rfl #[.int .i64 a0, .slice A1 l1.length c1] rfl (by (try simp only [List.map_toArray, List.map_cons, List.map_nil]); first | done | rfl | (simp only [List.length_drop, List.length_take]; rfl)) ?_; (with_reducible refine (drovewayref09_Ring.calls a0 _ _ l1 t117 t118 _ ?side1 ?side2 A18.out).mono ?_); (case side1 => repeat (first | exact (Kd.C_below HR1.out HB.out) | (with_reducible refine Kd.C_alloc ?_ _) | (with_reducible refine Kd.C_drewN ?_ _) | (with_reducible refine Kd.C_drew ?_))); (case side2 => exact HC1.out); rintro e w31 ⟨v119, rfl, ho0, hb⟩; refine ⟨_, rfl, ?_⟩; have n0_ := Aside0.mk (Kd.R_below (by (with_reducible repeat (first | apply Kd.R_alloc | apply Kd.R_drewN | apply Kd.R_drew)); exact HO_5.out) hb); have n1_ := Aside0.mk (Kd.R_elder' (by (with_reducible repeat (first | apply Kd.R_alloc | apply Kd.R_drewN | apply Kd.R_drew)); exact HO116.out) (Kd.R_base ho0) hb); have n2_ := Aside0.mk (Kd.R_lower (Kd.R_new' ho0 (Kd.R_lt (by (with_reducible repeat (first | apply Kd.R_alloc | apply Kd.R_drewN | apply Kd.R_drew)); exact HO116.out))) (below_size (by repeat (first | (with_reducible first | exact HB.out | apply below_alloc | apply pw_below_drewN | apply below_drew1) | exact HB.out)))); have n3_ := Aside0.mk (below_step (by repeat (first | (with_reducible first | exact HB.out | apply below_alloc | apply pw_below_drewN | apply below_drew1) | exact HB.out)) hb); clear HO_5; clear HO116; clear HB; have HO_5 := n0_; have HO116 := n1_; have HO120 := n2_; have HB := n3_; clear n0_ n1_ n2_ n3_; (try clear hb); (try clear hb2); (try clear hk); (try clear hi); (try clear ho0); obtain ⟨Ao32, co32, eo32⟩ := Kd.R_slice HO116.out; subst eo32; obtain ⟨Ao33, co33, eo33⟩ := Kd.R_slice HO120.out; subst eo33) | ((with_reducible refine gate_callee (f := 22) rfl ?_); refine goesL_ (some 53) rfl rfl Try.func22 (by kernel_rfl) rfl #[.slice Ao32 t113.length co32, .slice Ao33 t117.length co33] rfl (by (try simp only [List.map_toArray, List.map_cons, List.map_nil]); first | done | rfl | (simp only [List.length_drop, List.length_take]; rfl)) ?_; (with_reducible refine (drovewaylaw09_same.calls kj7 _ _ t113 _ _ t117 true _ ?side1 ?side2 ?side3 ?side4 A19.out).mono ?_); (case side1 => repeat (first | exact (Kd.R_reads' HO116.out).2.2 | (with_reducible refine Kd.C_alloc ?_ _) | (with_reducible refine Kd.C_drewN ?_ _) | (with_reducible refine Kd.C_drew ?_))); (case side2 => exact (Kd.R_reads' HO116.out).2.1); (case side3 => repeat (first | exact (Kd.R_reads' HO120.out).2.2 | (with_reducible refine Kd.C_alloc ?_ _) | (with_reducible refine Kd.C_drewN ?_ _) | (with_reducible refine Kd.C_drew ?_))); (case side4 => exact (Kd.R_reads' HO120.out).2.1); rintro e w' ⟨rfl, ⟨nd, rfl⟩⟩; refine ⟨_, rfl, ?_⟩) | (go_at_call 23; (with_reducible refine (drovewaylaw09_ties.calls kj7 _ _ y106 _ _ l1 false _ ?side1 ?side2 ?side3 ?side4 A22.out).mono ?_); (case side1 => repeat (first | exact (Kd.R_reads' HO_5.out).2.2 | (with_reducible refine Kd.C_alloc ?_ _) | (with_reducible refine Kd.C_drewN ?_ _) | (with_reducible refine Kd.C_drew ?_))); (case side2 => exact (Kd.R_reads' HO_5.out).2.1); (case side3 => repeat (first | exact (Kd.C_below HR1.out (by repeat (first | (with_reducible first | exact HB.out | apply below_alloc | apply pw_below_drewN | apply below_drew1) | exact HB.out))) | (with_reducible refine Kd.C_alloc ?_ _) | (with_reducible refine Kd.C_drewN ?_ _) | (with_reducible refine Kd.C_drew ?_))); (case side4 => exact HC1.out); rintro e w' ⟨rfl, ⟨nd, rfl⟩⟩))
                  go_ret
                  exact ⟨by first | rfl | (simp [errW_none, errW_some] <;> rfl) | (simp [*, errW_none, errW_some] <;> rfl), by repeat (first | (with_reducible first | exact HB.out | apply below_alloc | apply pw_below_drewN | apply below_drew1) | exact HB.out)⟩
              · rw [if_neg c21] at H
                have c21b0 : (t114 == t118) = false := beq_eq_false_iff_ne.mpr c21
                have c21b1 : (t114 != t118) = true := bne_iff_ne.mpr c21
                obtain rfl := Option.some.inj H
                go_wp2_with (first | ((with_reducible refine gate_callee (f := 20) rfl ?_); refine goesL_ (some 42) rfl rfl Try.func20 (by kernel_rfl) rfl #[.int .i64 a0, .slice Ao12 y106.length co12] rfl (by (try simp only [List.map_toArray, List.map_cons, List.map_nil]); first | done | rfl | (simp only [List.length_drop, List.length_take]; rfl)) ?_; (with_reducible refine (feuds_Ring.calls a0 _ _ y106 t113 t114 _ ?side1 ?side2 A17.out).mono ?_); (case side1 => repeat (first | exact (Kd.R_reads' HO_5.out).2.2 | (with_reducible refine Kd.C_alloc ?_ _) | (with_reducible refine Kd.C_drewN ?_ _) | (with_reducible refine Kd.C_drew ?_))); (case side2 => exact (Kd.R_reads' HO_5.out).2.1); rintro e w34 ⟨v115, rfl, ho0, hb⟩; refine ⟨_, rfl, ?_⟩; have n0_ := Aside0.mk (Kd.R_below (by (with_reducible repeat (first | apply Kd.R_alloc | apply Kd.R_drewN | apply Kd.R_drew)); exact HO_5.out) hb); have n1_ := Aside0.mk (Kd.R_lower ho0 (below_size (by repeat (first | (with_reducible first | exact HB.out | apply below_alloc | apply pw_below_drewN | apply below_drew1) | exact HB.out)))); have n2_ := Aside0.mk (below_step (by repeat (first | (with_reducible first | exact HB.out | apply below_alloc | apply pw_below_drewN | apply below_drew1) | exact HB.out)) hb); clear HO_5; clear HB; have HO_5 := n0_; have HO116 := n1_; have HB := n2_; clear n0_ n1_ n2_; (try clear hb); (try clear hb2); (try clear hk); (try clear hi); (try clear ho0)) | ((with_reducible refine gate_callee (f := 21) rfl ?_); refine goesL_ (some 48) rfl rfl Try.func21 (by kernel_rfl) rfl #[.int .i64 a0, .slice A1 l1.length c1] rfl (by (try simp only [List.map_toArray, List.map_cons, List.map_nil]); first | done | rfl | (simp only [List.length_drop, List.length_take]; rfl)) ?_; (with_reducible refine (drovewayref09_Ring.calls a0 _ _ l1 t117 t118 _ ?side1 ?side2 A18.out).mono ?_); (case side1 => repeat (first | exact (Kd.C_below HR1.out HB.out) | (with_reducible refine Kd.C_alloc ?_ _) | (with_reducible refine Kd.C_drewN ?_ _) | (with_reducible refine Kd.C_drew ?_))); (case side2 => exact HC1.out); rintro e w35 ⟨v119, rfl, ho0, hb⟩; refine ⟨_, rfl, ?_⟩; have n0_ := Aside0.mk (Kd.R_below (by (with_reducible repeat (first | apply Kd.R_alloc | apply Kd.R_drewN | apply Kd.R_drew)); exact HO_5.out) hb); have n1_ := Aside0.mk (Kd.R_elder' (by (with_reducible repeat (first | apply Kd.R_alloc | apply Kd.R_drewN | apply Kd.R_drew)); exact HO116.out) (Kd.R_base ho0) hb); have n2_ := Aside0.mk (Kd.R_lower (Kd.R_new' ho0 (Kd.R_lt (by (with_reducible repeat (first | apply Kd.R_alloc | apply Kd.R_drewN | apply Kd.R_drew)); exact HO116.out))) (below_size (by repeat (first | (with_reducible first | exact HB.out | apply below_alloc | apply pw_below_drewN | apply below_drew1) | exact HB.out)))); have n3_ := Aside0.mk (below_step (by repeat (first | (with_reducible first | exact HB.out | apply below_alloc | apply pw_below_drewN | apply below_drew1) | exact HB.out)) hb); clear HO_5; clear HO116; clear HB; have HO_5 := n0_; have HO116 := n1_; have HO120 := n2_; have HB := n3_; clear n0_ n1_ n2_ n3_; (try clear hb); (try clear hb2); (try clear hk); (try clear hi); (try clear ho0); obtain ⟨Ao36, co36, eo36⟩ := Kd.R_slice HO116.out; subst eo36; obtain ⟨Ao37, co37, eo37⟩ := Kd.R_slice HO120.out; subst eo37) | ((with_reducible refine gate_callee (f := 22) rfl ?_); refine goesL_ (some 53) rfl rfl Try.func22 (by kernel_rfl) rfl #[.slice Ao36 t113.length co36, .slice Ao37 t117.length co37] rfl (by (try simp only [List.map_toArray, List.map_cons, List.map_nil]); first | done | rfl | (simp only [List.length_drop, List.length_take]; rfl)) ?_; (with_reducible refine (drovewaylaw09_same.calls kj7 _ _ t113 _ _ t117 true _ ?side1 ?side2 ?side3 ?side4 A19.out).mono ?_); (case side1 => repeat (first | exact (Kd.R_reads' HO116.out).2.2 | (with_reducible refine Kd.C_alloc ?_ _) | (with_reducible refine Kd.C_drewN ?_ _) | (with_reducible refine Kd.C_drew ?_))); (case side2 => exact (Kd.R_reads' HO116.out).2.1); (case side3 => repeat (first | exact (Kd.R_reads' HO120.out).2.2 | (with_reducible refine Kd.C_alloc ?_ _) | (with_reducible refine Kd.C_drewN ?_ _) | (with_reducible refine Kd.C_drew ?_))); (case side4 => exact (Kd.R_reads' HO120.out).2.1); rintro e w' ⟨rfl, ⟨nd, rfl⟩⟩; refine ⟨_, rfl, ?_⟩))
                go_ret
                exact ⟨by first | rfl | (simp [errW_none, errW_some] <;> rfl) | (simp [*, errW_none, errW_some] <;> rfl), by repeat (first | (with_reducible first | exact HB.out | apply below_alloc | apply pw_below_drewN | apply below_drew1) | exact HB.out)⟩
            · replace c20 := Bool.eq_false_iff.mpr c20
              subst c20
              have H1 : (some false) = some r := by rw [if_neg (show ¬ (false = true) by decide)] at H; exact H
              clear H
              have H := H1
              clear H1
              obtain rfl := Option.some.inj H
              go_wp2_with (first | ((with_reducible refine gate_callee (f := 20) rfl ?_); refine goesL_ (some 42) rfl rfl Try.func20 (by kernel_rfl) rfl #[.int .i64 a0, .slice Ao12 y106.length co12] rfl (by (try simp only [List.map_toArray, List.map_cons, List.map_nil]); first | done | rfl | (simp only [List.length_drop, List.length_take]; rfl)) ?_; (with_reducible refine (feuds_Ring.calls a0 _ _ y106 t113 t114 _ ?side1 ?side2 A17.out).mono ?_); (case side1 => repeat (first | exact (Kd.R_reads' HO_5.out).2.2 | (with_reducible refine Kd.C_alloc ?_ _) | (with_reducible refine Kd.C_drewN ?_ _) | (with_reducible refine Kd.C_drew ?_))); (case side2 => exact (Kd.R_reads' HO_5.out).2.1); rintro e w38 ⟨v115, rfl, ho0, hb⟩; refine ⟨_, rfl, ?_⟩; have n0_ := Aside0.mk (Kd.R_below (by (with_reducible repeat (first | apply Kd.R_alloc | apply Kd.R_drewN | apply Kd.R_drew)); exact HO_5.out) hb); have n1_ := Aside0.mk (Kd.R_lower ho0 (below_size (by repeat (first | (with_reducible first | exact HB.out | apply below_alloc | apply pw_below_drewN | apply below_drew1) | exact HB.out)))); have n2_ := Aside0.mk (below_step (by repeat (first | (with_reducible first | exact HB.out | apply below_alloc | apply pw_below_drewN | apply below_drew1) | exact HB.out)) hb); clear HO_5; clear HB; have HO_5 := n0_; have HO116 := n1_; have HB := n2_; clear n0_ n1_ n2_; (try clear hb); (try clear hb2); (try clear hk); (try clear hi); (try clear ho0)) | ((with_reducible refine gate_callee (f := 21) rfl ?_); refine goesL_ (some 48) rfl rfl Try.func21 (by kernel_rfl) rfl #[.int .i64 a0, .slice A1 l1.length c1] rfl (by (try simp only [List.map_toArray, List.map_cons, List.map_nil]); first | done | rfl | (simp only [List.length_drop, List.length_take]; rfl)) ?_; (with_reducible refine (drovewayref09_Ring.calls a0 _ _ l1 t117 t118 _ ?side1 ?side2 A18.out).mono ?_); (case side1 => repeat (first | exact (Kd.C_below HR1.out HB.out) | (with_reducible refine Kd.C_alloc ?_ _) | (with_reducible refine Kd.C_drewN ?_ _) | (with_reducible refine Kd.C_drew ?_))); (case side2 => exact HC1.out); rintro e w39 ⟨v119, rfl, ho0, hb⟩; refine ⟨_, rfl, ?_⟩; have n0_ := Aside0.mk (Kd.R_below (by (with_reducible repeat (first | apply Kd.R_alloc | apply Kd.R_drewN | apply Kd.R_drew)); exact HO_5.out) hb); have n1_ := Aside0.mk (Kd.R_elder' (by (with_reducible repeat (first | apply Kd.R_alloc | apply Kd.R_drewN | apply Kd.R_drew)); exact HO116.out) (Kd.R_base ho0) hb); have n2_ := Aside0.mk (Kd.R_lower (Kd.R_new' ho0 (Kd.R_lt (by (with_reducible repeat (first | apply Kd.R_alloc | apply Kd.R_drewN | apply Kd.R_drew)); exact HO116.out))) (below_size (by repeat (first | (with_reducible first | exact HB.out | apply below_alloc | apply pw_below_drewN | apply below_drew1) | exact HB.out)))); have n3_ := Aside0.mk (below_step (by repeat (first | (with_reducible first | exact HB.out | apply below_alloc | apply pw_below_drewN | apply below_drew1) | exact HB.out)) hb); clear HO_5; clear HO116; clear HB; have HO_5 := n0_; have HO116 := n1_; have HO120 := n2_; have HB := n3_; clear n0_ n1_ n2_ n3_; (try clear hb); (try clear hb2); (try clear hk); (try clear hi); (try clear ho0); obtain ⟨Ao40, co40, eo40⟩ := Kd.R_slice HO116.out; subst eo40; obtain ⟨Ao41, co41, eo41⟩ := Kd.R_slice HO120.out; subst eo41) | ((with_reducible refine gate_callee (f := 22) rfl ?_); refine goesL_ (some 53) rfl rfl Try.func22 (by kernel_rfl) rfl #[.slice Ao40 t113.length co40, .slice Ao41 t117.length co41] rfl (by (try simp only [List.map_toArray, List.map_cons, List.map_nil]); first | done | rfl | (simp only [List.length_drop, List.length_take]; rfl)) ?_; (with_reducible refine (drovewaylaw09_same.calls kj7 _ _ t113 _ _ t117 false _ ?side1 ?side2 ?side3 ?side4 A19.out).mono ?_); (case side1 => repeat (first | exact (Kd.R_reads' HO116.out).2.2 | (with_reducible refine Kd.C_alloc ?_ _) | (with_reducible refine Kd.C_drewN ?_ _) | (with_reducible refine Kd.C_drew ?_))); (case side2 => exact (Kd.R_reads' HO116.out).2.1); (case side3 => repeat (first | exact (Kd.R_reads' HO120.out).2.2 | (with_reducible refine Kd.C_alloc ?_ _) | (with_reducible refine Kd.C_drewN ?_ _) | (with_reducible refine Kd.C_drew ?_))); (case side4 => exact (Kd.R_reads' HO120.out).2.1); rintro e w' ⟨rfl, ⟨nd, rfl⟩⟩; refine ⟨_, rfl, ?_⟩))
              go_ret
              exact ⟨by first | rfl | (simp [errW_none, errW_some] <;> rfl) | (simp [*, errW_none, errW_some] <;> rfl), by repeat (first | (with_reducible first | exact HB.out | apply below_alloc | apply pw_below_drewN | apply below_drew1) | exact HB.out)⟩
    · rw [if_neg c5] at H
      exact absurd H (by simp)
  · replace c4 := Bool.eq_false_iff.mpr c4
    subst c4
    have H1 : ((drovewaylaw09_alive.f).bind fun t102 => (some t102)) = some r := by rw [if_neg (show ¬ (false = true) by decide)] at H; exact H
    clear H
    have H := H1
    clear H1
    replace H := Option.bind_eq_some_iff.mp H
    obtain ⟨t102, A420, H⟩ := H
    replace H : (some t102) = some r := H
    have A42 := Aside0.mk A420
    clear A420
    obtain rfl := Option.some.inj H
    go_enter Try.func3, Try.ntmps3
    go_wp2_with (first | ((with_reducible refine gate_callee (f := 16) rfl ?_); refine goesL_ (some 13) rfl rfl Try.func16 (by kernel_rfl) rfl #[.slice A1 l1.length c1, .slice none 0 0] rfl (by (try simp only [List.map_toArray, List.map_cons, List.map_nil]); first | done | rfl | (simp only [List.length_drop, List.length_take]; rfl)) ?_; (refine (drovewaylaw09_few.calls _ _ l1 _ _ ([] : List Int) false _ ?side1 ?side2 ?side3 ?side4 A3.out).mono ?_); (case side1 => repeat (first | exact HR1.out | (with_reducible refine Kd.C_alloc ?_ _) | (with_reducible refine Kd.C_drewN ?_ _) | (with_reducible refine Kd.C_drew ?_))); (case side2 => exact HC1.out); (case side3 => exact Kd.C_nil _ _); (case side4 => exact Nat.le_refl _); rintro e w' ⟨rfl, ⟨nd, rfl⟩⟩; refine ⟨_, rfl, ?_⟩) | ((with_reducible refine gate_callee (f := 17) rfl ?_); refine goesL_ (some 15) rfl rfl Try.func17 (by kernel_rfl) rfl #[] rfl (by (try simp only [List.map_toArray, List.map_cons, List.map_nil]); first | done | rfl | (simp only [List.length_drop, List.length_take]; rfl)) ?_; (with_reducible refine (drovewaylaw09_alive.calls  t102 _ A42.out).mono ?_); rintro e w43 ⟨rfl, hb⟩; refine ⟨_, rfl, ?_⟩; have n0_ := Aside0.mk (below_step (by repeat (first | (with_reducible first | exact HB.out | apply below_alloc | apply pw_below_drewN | apply below_drew1) | exact HB.out)) hb); clear HB; have HB := n0_; clear n0_; (try clear hb); (try clear hb2); (try clear hk); (try clear hi)))
    go_ret
    exact ⟨by first | rfl | (simp [errW_none, errW_some] <;> rfl) | (simp [*, errW_none, errW_some] <;> rfl), by repeat (first | (with_reducible first | exact HB.out | apply below_alloc | apply pw_below_drewN | apply below_drew1) | exact HB.out)⟩

end Go.Proofs.Ytaegldcifhgnmaa.PFeudsSides

-- Printed by hprint.py (this claim's own program, over the kit's print.py) out of the translation and contracts by hand. Not trusted: Lean checks it.
namespace Go.Proofs.Ytaegldcifhgnmaa.PFeudsSides
open Go.Proofs.Ytaegldcifhgnmaa.A Go.Proofs.Ytaegldcifhgnmaa.B
open Go.RowKit Go.Proofs.YtaegldcifhgnmaaW.PrintWords Go.Proofs.YtaegldcifhgnmaaW.PrintLast Go.Proofs.YtaegldcifhgnmaaW.PrintMore
attribute [local go_sem] max2_int min2_int max_two min_two max_three min_three max_four min_four   -- for this text's walks alone
set_option linter.unusedVariables false
set_option linter.unusedSimpArgs false

end Go.Proofs.Ytaegldcifhgnmaa.PFeudsSides

/- FeudsSides, plain. -/
namespace Go.Proofs.Ytaegldcifhgnmaa.Pure
open Go.Proofs.Ytaegldcifhgnmaa.A Go.Proofs.Ytaegldcifhgnmaa.B Go.Proofs.Ytaegldcifhgnmaa.PFeudsSides
open Go.RowKit Go.Proofs.YtaegldcifhgnmaaW.PrintWords Go.Proofs.YtaegldcifhgnmaaW.PrintMore

theorem alive_is : ((drovewaylaw09_alive.f).bind fun t => (some t : Option Bool)) = some true := rfl
theorem short_len {l : List S39} {one : Bool} {n : Nat} {x : List Int} (h : shortR l one n = some x) : x.length ≤ n := by
  have key : ∀ (F : Nat → Option (List Int)) k x, firstN F k = some x → ∃ i, i < k ∧ F i = some x := by
    intro F k
    induction k with
    | zero => intro x h; cases h
    | succ k ih =>
      intro x h
      rw [firstN] at h
      cases e : firstN F k with
      | some y =>
        rw [e] at h
        obtain ⟨i, hi, h2⟩ := ih y e
        exact ⟨i, by omega, by rw [h2]; exact h⟩
      | none => rw [e] at h; exact ⟨k, by omega, h⟩
  obtain ⟨k, hk, h2⟩ := key _ _ _ h
  unfold sizeR at h2
  by_cases h3 : 3 ≤ k
  · rw [if_pos h3] at h2
    obtain ⟨i, _, h4⟩ := key _ _ _ h2
    have hs : ∀ fr y, startR l one k i fr = some y → y.length = k := fun fr y hy => by
      have := ringedR_len _ _ _ _ _ _ _ hy
      rw [List.length_singleton] at this
      omega
    unfold pairR pickR at h4
    cases e : startR l one k i (l.getD i z39).f0.toNat with
    | none => rw [e] at h4; have := hs _ _ h4; omega
    | some u =>
      rw [e] at h4
      dsimp only at h4
      cases e2 : startR l one k i (l.getD i z39).f1.toNat with
      | none => rw [e2] at h4; cases h4; have := hs _ _ e; omega
      | some v =>
        rw [e2] at h4
        dsimp only at h4
        have h5 := hs _ _ e
        have h6 := hs _ _ e2
        split at h4 <;> (cases h4; omega)
  · rw [if_neg h3] at h2; cases h2
theorem rRing_len (one : Bool) (n : Int) (l : List S39) : (rRingF one n l).1.length ≤ 1000 := by
  unfold rRingF
  by_cases h : tiesE n l = 0
  · rw [if_pos h]
    have h1 := tiesE_parts h
    cases e : shortR l one n.toNat with
    | none => simp [ringZ]
    | some x => have := short_len e; show x.length ≤ 1000; omega
  · rw [if_neg h]; simp
theorem FeudsSides (a0 : Int) (l1 : List S39) : ∃ k, drovewaylaw09_FeudsSides.f k a0 l1 = some true := by
  refine Ev.rounds ?_
  unfold drovewaylaw09_FeudsSides.f
  rw [few_eq]
  simp only [Option.bind_some]
  by_cases h60 : l1.length ≤ 60
  · rw [show decide (l1.length ≤ 60 ∧ ([] : List Int).length ≤ 60) = true from decide_eq_true ⟨h60, by decide⟩]
    simp only [if_true, List.nil_append, List.length_nil]
    refine Ev.congr (fun k => by rw [if_pos (by omega)]) ?_
    have hS := rSides_ev (l := l1) a0 (by omega)
    unfold feuds_Sides.f
    simp only [Option.bind_some]
    generalize sidesF a0 l1 = Z at hS
    refine Ev.bind (f := fun k bt111 => (if Z.1 = bt111.1 then (drovewaylaw09_FeudsSides.j0 k a0 l1 l1 (Z.2 != bt111.2)) else (drovewaylaw09_FeudsSides.j0 k a0 l1 l1 true))) hS ?_
    refine Ev.congr (fun k => by rw [if_pos rfl, bne_self_eq_false]) ?_
    have hr : feuds_Ring.f a0 l1 = some (rRingF false a0 l1) := by unfold feuds_Ring.f; rw [ring_same]
    have hr2 : drovewayref09_Ring.f a0 l1 = some (rRingF false a0 l1) := by unfold drovewayref09_Ring.f; rw [if_pos (by omega)]
    have hlen := rRing_len false a0 l1
    generalize rRingF false a0 l1 = Y at hr hr2 hlen
    refine Ev.step (f := fun k => (drovewaylaw09_same.f k Y.1 Y.1).bind fun t121 => (if t121 = true then (if Y.2 = Y.2 then ((drovewaylaw09_ties.f k l1 l1).bind fun t122 => (if t122 = true then ((drovewaylaw09_alive.f).bind fun t123 => (some t123)) else (some false))) else (some false)) else (some false))) (fun k => ?_) ?_
    · rw [drovewaylaw09_FeudsSides.j0, if_neg (by decide), hr, hr2]
      rfl
    refine Ev.bind (f := fun k t121 => (if t121 = true then (if Y.2 = Y.2 then ((drovewaylaw09_ties.f k l1 l1).bind fun t122 => (if t122 = true then ((drovewaylaw09_alive.f).bind fun t123 => (some t123)) else (some false))) else (some false)) else (some false))) (same_ev (by omega) rfl) ?_
    refine Ev.congr (fun k => by rw [if_pos rfl, if_pos rfl]) ?_
    refine Ev.bind (f := fun _ t122 => (if t122 = true then ((drovewaylaw09_alive.f).bind fun t123 => (some t123)) else (some false))) (tiesL_ev (by omega) rfl) ?_
    exact Ev.congr (fun k => by rw [if_pos rfl]; exact alive_is) (Ev.now _)
  · rw [show decide (l1.length ≤ 60 ∧ ([] : List Int).length ≤ 60) = false from decide_eq_false (fun h => h60 h.1)]
    exact Ev.congr (fun k => by rw [if_neg (by decide)]; exact alive_is) (Ev.now _)
end Go.Proofs.Ytaegldcifhgnmaa.Pure

/- FeudsSides, as it is called. -/
namespace Go.Proofs.Ytaegldcifhgnmaa.B
open Go.Proofs.Ytaegldcifhgnmaa.A
open Go.RowKit Go.Proofs.YtaegldcifhgnmaaW.PrintWords Go.Proofs.YtaegldcifhgnmaaW.PrintMore
theorem sides_any (a0 : Int) (A1 : Option Addr) (c1 : Nat) (l1 : List S39) (w : World) (hr1 : Kd.C k39 w A1 l1.length l1) (hc1 : l1.length ≤ c1) :
    Calls Try.prog 3 #[.int .i64 a0, .slice A1 l1.length c1] w fun e w' => e = .returned (.bool true) ∧ Below w.heap.size w w' := by
  obtain ⟨k, h⟩ := Pure.FeudsSides a0 l1
  exact PFeudsSides.drovewaylaw09_FeudsSides.calls k a0 A1 c1 l1 true w hr1 hc1 h
end Go.Proofs.Ytaegldcifhgnmaa.B

/- An argument that is a slice of ties, opened to a row of cells. -/
namespace Go.Proofs.Ytaegldcifhgnmaa.A
open Go.ChangeShapes Go.WideShapes Go.Deep
open Go.RowKit Go.Proofs.YtaegldcifhgnmaaW.PrintWords

theorem list_of {α : Type} {P : Nat → α → Prop} : ∀ n, (∀ i, i < n → ∃ x, P i x) → ∃ l : List α, l.length = n ∧ ∀ (i : Nat) (x : α), l[i]? = some x → P i x := by
  intro n
  induction n with
  | zero => exact fun _ => ⟨[], rfl, fun i x h => by simp at h⟩
  | succ n ih =>
    intro h
    obtain ⟨l, hl, hp⟩ := ih (fun i hi => h i (by omega))
    obtain ⟨x, hx⟩ := h n (by omega)
    refine ⟨l ++ [x], by simp [hl], fun i y hy => ?_⟩
    by_cases hi : i < l.length
    · rw [List.getElem?_append_left hi] at hy
      exact hp i y hy
    · have e : i = n := by
        have := (List.getElem?_eq_some_iff.1 hy).1
        rw [List.length_append, List.length_singleton] at this
        omega
      subst e
      have : x = y := by simpa [← hl] using hy
      subst this
      exact hx

set_option maxRecDepth 100000 in
theorem open_ties {H : Type} {enc : TypeId × Value → H} {W : World} {a : Option Addr} {len cap : Nat} {d : DataW H} {p : List MemPlace} (h : DataW.Trod enc Try.prog W 0 (fun _ => true) true 22 (.slice a len cap) d p) :
    ∃ ps : List S39, ps.length = len ∧ len ≤ cap ∧ cap ≤ maxLen ∧ Kd.C k39 W a len ps := by
  obtain ⟨fuel, hf⟩ := h
  rcases open_slice Try.underlying22 hf with ⟨hcs, _⟩ | ⟨x, l, c, m, n, D, Pl, hcs, _, hl, hm, hmm, _, hi⟩
  · simp [Value.cells] at hcs
    obtain ⟨rfl, rfl, rfl⟩ := hcs
    exact ⟨[], rfl, Nat.le_refl _, Nat.zero_le _, rfl, by omega, fun h => absurd h (by omega)⟩
  · simp [Value.cells] at hcs
    obtain ⟨rfl, rfl, rfl⟩ := hcs
    have hC : Try.prog.cellsOf 39 = 3 := by kernel_rfl
    have he : ∀ i, i < len → ∃ q : S39, W.cell? (x.add (i * 3)) = some (.int .i64 q.f0) ∧ W.cell? (x.add (i * 3 + 1)) = some (.int .i64 q.f1) ∧ W.cell? (x.add (i * 3 + 2)) = some (.bool q.f2) := by
      intro i hil
      obtain ⟨cs', hc, ht'⟩ := hi i (by rw [hmm, if_pos rfl]; omega)
      rw [hC] at hc
      obtain ⟨ys, n', _, _, hlen, hyl, hfd⟩ := DataW.trod_struct Try.underlying39 ht'
      obtain ⟨_, hcl, hat⟩ := World.cells?_some hc
      have h0 := hfd 0 _ rfl
      have h1 := hfd 1 _ rfl
      have h2 := hfd 2 _ rfl
      match cs', hcl, ys, hyl with
      | [c0, c1, c2], _, [y0, y1, y2], _ =>
        have e0 : Try.prog.cellsOf 3 = 1 := by kernel_rfl
        have e4 : Try.prog.cellsOf 4 = 1 := by kernel_rfl
        simp [e0, e4] at h0 h1 h2
        obtain ⟨n0, hn0, _, _⟩ := DataW.trod_int Try.underlying3 h0
        obtain ⟨n1, hn1, _, _⟩ := DataW.trod_int Try.underlying3 h1
        obtain ⟨n2, hn2, _⟩ := DataW.trod_bool Try.underlying4 h2
        simp at hn0 hn1 hn2
        subst hn0 hn1 hn2
        refine ⟨⟨n0, n1, n2⟩, ?_, ?_, ?_⟩
        · have := hat 0 (by omega)
          rw [Go.Deep.add_add] at this
          exact this
        · have := hat 1 (by omega)
          rw [Go.Deep.add_add] at this
          exact this
        · have := hat 2 (by omega)
          rw [Go.Deep.add_add] at this
          exact this
    obtain ⟨ps, hps, hall⟩ := list_of len he
    refine ⟨ps, hps, hl, hm, hps, by unfold maxLen at hm; omega, fun _ => ⟨x, rfl, fun j q hj => ⟨[.int .i64 q.f0, .int .i64 q.f1, .bool q.f2], rfl, k39_mk W q, fun i u hu => ?_⟩⟩⟩
    obtain ⟨g0, g1, g2⟩ := hall j q hj
    match i, hu with
    | 0, hu => cases hu; exact g0
    | 1, hu => cases hu; exact g1
    | 2, hu => cases hu; exact g2
end Go.Proofs.Ytaegldcifhgnmaa.A

/- FeudsSides holds: its code returns true and leaves what it was given as it was. Conditions: those of the given statement, none besides. -/
namespace Go.Proofs.Ytaegldcifhgnmaa.feudsSides
open Go.ChangeShapes Go.WideShapes Go.ChangeAt Go.RowKit
open Go.ChangeMaps (open_string shut_string)
open Go.Proofs.YtaegldcifhgnmaaW.PrintWords
open Go.Proofs.Ytaegldcifhgnmaa.A Go.Proofs.Ytaegldcifhgnmaa.B
set_option linter.unusedVariables false
theorem own : ownKnob Try.prog.godebug = none := by kernel_rfl
theorem laidOut : laidOutB Try.prog = true := by kernel_rfl
def IsRow (k : IntKind) (w : World) (a : Option Addr) (len cap : Nat) (zs : List Int) : Prop :=
  (a = none ∧ len = 0 ∧ cap = 0 ∧ zs = []) ∨
  ∃ x, a = some x ∧ len ≤ cap ∧ cap ≤ maxLen ∧ zs.length = cap ∧ (∀ i, i < zs.length → w.cell? (x.add i) = some (.int k (zs.getD i 0))) ∧ ∀ n ∈ zs, (Lit.int k n).wf = true
set_option maxRecDepth 100000 in
theorem lifted (os : Os) (started : os.Started) (H : Type) (enc : TypeId × Value → H) :
    ReturnsInHanded {} Try.checked os 3 .any (Rows.feudsSidesSpec.pre6 enc Try.prog Try.f3 Rows.feudsSidesRow.domain false) (Rows.feudsSidesSpec.post enc Try.prog Try.f3 false true false false) := by
  refine returnsInHanded_of_change_sized (C := Try.checked) own started (by kernel_rfl) Try.func3
    (ChangeSpec.witness6 (enc := enc) (C := Try.checked) false ⟨#[], #[.int .i64 0, .slice none 0 0], []⟩ 8 (by kernel_rfl) (by kernel_rfl) (by kernel_rfl) (by kernel_rfl)) ?_
  intro W base args ds gs before hval0 hW hcnd hsz0 _
  have hsz : (DataW.weightsEach Try.prog (Try.f3.params.toList ++ Rows.feudsSidesSpec.plain.varTypes Try.prog) (ds ++ gs)).all (· ≤ reachBytes) = true := hsz0
  have hval : ∀ (j : Nat) t v, Try.f3.params[j]? = some t → args[j]? = some v → Value.okWide Try.prog W .any base t v := hval0
  have hW' := hW
  obtain ⟨p, q, hA0, hV, rfl, hfz, hnd⟩ := hW
  have hA : DataW.TrodAll enc Try.prog W 0 (fun _ => true) true Try.f3.params.toList args.toList ds p := hA0
  rw [Try.params3] at hA hval hsz
  obtain ⟨v0, vs0, d0, ds0, p0, q0, hargs, rfl, rfl, h0, r0⟩ := trodAll_cons hA
  obtain ⟨v1, vs1, d1, ds1, p1, q1, rfl, rfl, rfl, h1, r1⟩ := trodAll_cons r0
  obtain ⟨rfl, rfl, rfl⟩ := trodAll_nil r1
  obtain rfl : args = #[v0, v1] := by cases args; simp_all
  obtain ⟨rfl, rfl⟩ := trodVars_none hV
  obtain ⟨a0, rfl, rfl, rfl, w0⟩ := open_int Try.underlying3 (hval 0 3 v0 rfl rfl) h0
  obtain ⟨a1, len1, cap1, rfl⟩ := okWide_slice Try.underlying22 (hval 1 22 v1 rfl rfl)
  have k1 := h1
  have lt1 : ∀ x ∈ p1, x.block < W.heap.size := by obtain ⟨m, hm⟩ := k1; exact DataW.trod_lt m _ _ _ hm
  obtain ⟨l1, rfl, hc1, hm1, hr1⟩ := open_ties h1
  clear hA0 hval0 hsz0 hsz
  refine (sides_any a0 a1 cap1 l1 W hr1 hc1).mono fun e W' ⟨he, bel⟩ => ?_
  subst he
  exact ⟨_, rfl, _, _, _, [], _, [], hW', trodAll_mk1 (shut_bool Try.underlying4 _), (trodAll_cons_mk (shut_int Try.underlying3 w0) (trodAll_cons_mk (Below.trod laidOut (by kernel_rfl) (of_decide_eq_true (by kernel_rfl)) k1 bel lt1) trodAll_mk0)), rfl, bel.frame _, fun h => by cases h⟩
theorem over : Rows.feudsSidesRow.holds Try.pinned (OpenSpec.ofChange Rows.feudsSidesSpec) :=
  OpenClaim.holds_of_wide 3 Try.f3 rfl rfl rfl rfl rfl rfl rfl ⟨rfl, rfl, rfl, rfl, rfl⟩ rfl rfl rfl rfl rfl (by kernel_rfl) Try.func3 (by kernel_rfl)
    (of_decide_eq_true (by kernel_rfl)) (by unfold Func.isWrapper; first | (rw [if_pos (by decide +kernel)]; kernel_rfl) | (rw [if_neg (by decide +kernel)]; exact ⟨rfl, rfl⟩))
    (fun os started H enc _ => lifted os started H enc)
theorem proved : Rows.FeudsSidesSaid := over
#print axioms proved
end Go.Proofs.Ytaegldcifhgnmaa.feudsSides
namespace Go.Proofs.Ytaegldcifhgnmaa
/-- The row, under a short name, for the claim. -/
theorem feudsSides_holds : Rows.FeudsSidesSaid := feudsSides.proved
end Go.Proofs.Ytaegldcifhgnmaa
