/- few, Field, Written, free, chosen, as they are called (printed). -/
import Derived.Test.YtbjpjjokamaliaaZAmbushPaired0
import Derived.Test.YtbjpjjokamaliaaProg
import Derived.Below
import Derived.Deep.Draws
import Derived.Deep.AppendLies
import Derived.Maps.AppendAt
import Derived.OwnWalk
import Derived.Laws.BytesArg
import Derived.Laws.MakeOwn
import Derived.Laws.OwnMore
import Derived.Deep.OwnRows
import Derived.Tactics
import Derived.Lib.ConvBytes
import Derived.Laws.Slices
import Derived.WalkKit
import Derived.KernelRfl
import Derived.RowKit3
import Derived.Deep.LoopGhost
import Derived.Deep.QuietTactic
import Derived.BigQuiet
import Derived.WideLaws
import Derived.Deep.DeepCutAuto
import Derived.Deep.CutBlock
import Derived.Deep.RegionHeld3
import Derived.Laws.Rows
import Derived.Lib.AppendStr
import Derived.ArgAppend
import Derived.Laws.IdiomCopy
import Derived.OrdersHeld
import Derived.Laws.BitsLemmas
import Derived.RowKit
import Derived.Test.YtbjpjjokamaliaaWWords
import Derived.Test.YtbjpjjokamaliaaWLast
import Derived.Test.YtbjpjjokamaliaaWTab
import Derived.Test.YtbjpjjokamaliaaWFour
import Derived.Test.YtbjpjjokamaliaaWQPut
import Derived.Test.YtbjpjjokamaliaaWApart
import Derived.Test.YtbjpjjokamaliaaWArr
import Derived.Test.YtbjpjjokamaliaaWZeros
import Derived.Test.YtbjpjjokamaliaaWFoot
import Derived.Test.YtbjpjjokamaliaaWKept
import Derived.Test.YtbjpjjokamaliaaWShare
import Derived.Test.YtbjpjjokamaliaaWN
import Derived.Test.YtbjpjjokamaliaaWFootNe
import Derived.Test.YtbjpjjokamaliaaWAt
import Derived.Test.YtbjpjjokamaliaaWEqStruct
import Derived.Test.YtbjpjjokamaliaaWRepsOne
import Derived.Test.YtbjpjjokamaliaaWInv
import Derived.Test.YtbjpjjokamaliaaWInvWords
import Derived.Test.YtbjpjjokamaliaaWGuard
import Derived.Test.YtbjpjjokamaliaaWNEv
import Derived.Test.YtbjpjjokamaliaaWMore
/- few, Field, Written, free, chosen, as they are called (printed). -/
namespace Go.Proofs.Ytbjpjjokamaliaa.B
open Go.Proofs.Ytbjpjjokamaliaa.A
open Go.RowKit Go.Proofs.YtbjpjjokamaliaaW.PrintWords Go.Proofs.YtbjpjjokamaliaaW.PrintLast Go.Proofs.YtbjpjjokamaliaaW.PrintMore
section
attribute [local go_sem] max2_int min2_int max_two min_two max_three min_three max_four min_four   -- for this text's walks alone
set_option linter.unusedVariables false
set_option linter.unusedSimpArgs false
attribute [local go_sem high] eqA59
theorem info3 : (Try.prog.info? 3).map (fun i => (i.zero, i.size, i.bytes)) = some (some (.int .i64 0), 1, 8) := by kernel_rfl
theorem info5 : (Try.prog.info? 5).map (fun i => (i.zero, i.size, i.bytes)) = some (some (.int .u8 0), 1, 1) := by kernel_rfl
/-! ### drovewaylaw04_few: function 11 -/
def drovewaylaw04_few.f (l0 : List Int) (a1 : ByteArray) (a2 : ByteArray) : Option (Bool) := if (l0.length : Int) ≤ 40 then (if (a1.size : Int) ≤ 40 then (some (decide ((a2.size : Int) ≤ 40))) else (some false)) else (some false)
set_option maxHeartbeats 8000000 in
set_option maxRecDepth 100000 in
theorem drovewaylaw04_few.calls (A0 : Option Addr) (c0 : Nat) (l0 : List Int) (a1 : ByteArray) (a2 : ByteArray) (r : Bool) (w : World) (hr0 : Kd.C (Kd.int .i64) w A0 l0.length l0) (hc0 : l0.length ≤ c0) (h : drovewaylaw04_few.f l0 a1 a2 = some r) :
    Calls Try.prog 11 #[.slice A0 l0.length c0, .string a1, .string a2] w fun e w' => e = .returned (.bool r) ∧ Drawn0 w w' := by
  have HR0 := Aside0.mk hr0
  have HC0 := Aside0.mk hc0
  clear hr0 hc0
  have H : (if (l0.length : Int) ≤ 40 then (if (a1.size : Int) ≤ 40 then (some (decide ((a2.size : Int) ≤ 40))) else (some false)) else (some false)) = some r := h
  clear h
  by_cases c4 : (l0.length : Int) ≤ 40
  · rw [if_pos c4] at H
    have c4b0 : decide ((l0.length : Int) ≤ 40) = true := decide_eq_true c4
    have c4b1 : decide (l0.length ≤ 40) = true := decide_eq_true (by omega)
    clear c4
    by_cases c5 : (a1.size : Int) ≤ 40
    · rw [if_pos c5] at H
      have c5b0 : decide ((a1.size : Int) ≤ 40) = true := decide_eq_true c5
      have c5b1 : decide (a1.size ≤ 40) = true := decide_eq_true (by omega)
      clear c5
      obtain rfl := Option.some.inj H
      go_enter Try.func11, Try.ntmps11
      go_wp2
      go_ret
      exact ⟨by first | rfl | (simp; done) | (simp [*]; done), by repeat (first | exact Drawn0.refl _ | apply Drawn0.step)⟩
    · rw [if_neg c5] at H
      have c5b0 : decide ((a1.size : Int) ≤ 40) = false := decide_eq_false c5
      have c5b1 : decide (a1.size ≤ 40) = false := decide_eq_false (by omega)
      clear c5
      obtain rfl := Option.some.inj H
      go_enter Try.func11, Try.ntmps11
      go_wp2
      go_ret
      exact ⟨by first | rfl | (simp; done) | (simp [*]; done), by repeat (first | exact Drawn0.refl _ | apply Drawn0.step)⟩
  · rw [if_neg c4] at H
    have c4b0 : decide ((l0.length : Int) ≤ 40) = false := decide_eq_false c4
    have c4b1 : decide (l0.length ≤ 40) = false := decide_eq_false (by omega)
    clear c4
    obtain rfl := Option.some.inj H
    go_enter Try.func11, Try.ntmps11
    go_wp2
    go_ret
    exact ⟨by first | rfl | (simp; done) | (simp [*]; done), by repeat (first | exact Drawn0.refl _ | apply Drawn0.step)⟩

-- by hand: function 14 (ambush_Winner)

-- by hand: function 20 (ambush_Needs)

-- by hand: function 21 (ambush_Danger)

-- by hand: function 26 (ambush_Pairing)

/-! ### drovewayref04_Field: function 17 -/
mutual
def drovewayref04_Field.j0 : Nat → Int → List Int → Bool → Option (Int)
  | 0, _, _, _ => none
  | k + 1, x0, x1, x11 => if x11 = true then (some 2) else (if (x1.length : Int) > 12 then (some 3) else (drovewayref04_Field.l0 k x0 x1 0))
def drovewayref04_Field.l0 : Nat → Int → List Int → Int → Option (Int)
  | 0, _, _, _ => none
  | k + 1, x0, x1, x5 => if x5 < (x1.length : Int) then (if 0 ≤ x5 then (if (rd x1 x5) < 1 then (some 2) else (if 0 ≤ x0 then (if (rd x1 x5) ≥ (shl .i64 1 x0) then (some 2) else (drovewayref04_Field.l0 k x0 x1 (wrap64 (x5 + 1)))) else (none))) else (none)) else (some 0)
end
def drovewayref04_Field.f (k : Nat) (a0 : Int) (l1 : List Int) : Option (Int) := if a0 < 1 then (drovewayref04_Field.j0 k a0 l1 true) else (drovewayref04_Field.j0 k a0 l1 (decide (a0 > 9)))
theorem drovewayref04_Field.mono_l : ∀ k, (∀ y0 y1 y2, LeO (drovewayref04_Field.j0 k y0 y1 y2) (drovewayref04_Field.j0 (k + 1) y0 y1 y2)) ∧ (∀ y0 y1 y2, LeO (drovewayref04_Field.l0 k y0 y1 y2) (drovewayref04_Field.l0 (k + 1) y0 y1 y2))
  | 0 => ⟨fun _ _ _ r h => by simp [drovewayref04_Field.j0] at h, fun _ _ _ r h => by simp [drovewayref04_Field.l0] at h⟩
  | k + 1 => by
    obtain ⟨ih0, ih1⟩ := drovewayref04_Field.mono_l k
    refine ⟨?_, ?_⟩
    · intro y0 y1 y2
      unfold drovewayref04_Field.j0
      repeat' first
      | (with_reducible exact ih0 _ _ _)
      | (with_reducible exact ih1 _ _ _)
      | (with_reducible exact LeO.refl _)
      | (with_reducible exact LeO.none _)
      | (with_reducible refine LeO.ite ?_ ?_)
      | (with_reducible refine LeO.bind ?_ (fun _ => ?_))
      | exact ih0 _ _ _
      | exact ih1 _ _ _
      | exact LeO.none _
      | refine LeO.ite ?_ ?_
      | refine LeO.bind ?_ (fun _ => ?_)
    · intro y0 y1 y2
      unfold drovewayref04_Field.l0
      repeat' first
      | (with_reducible exact ih0 _ _ _)
      | (with_reducible exact ih1 _ _ _)
      | (with_reducible exact LeO.refl _)
      | (with_reducible exact LeO.none _)
      | (with_reducible refine LeO.ite ?_ ?_)
      | (with_reducible refine LeO.bind ?_ (fun _ => ?_))
      | exact ih0 _ _ _
      | exact ih1 _ _ _
      | exact LeO.none _
      | refine LeO.ite ?_ ?_
      | refine LeO.bind ?_ (fun _ => ?_)
theorem drovewayref04_Field.mono : ∀ a0 a1 k, LeO (drovewayref04_Field.f k a0 a1) (drovewayref04_Field.f (k + 1) a0 a1) := by
  intro a0 a1 k
  obtain ⟨ih0, ih1⟩ := drovewayref04_Field.mono_l k
  unfold drovewayref04_Field.f
  repeat' first
      | (with_reducible exact ih0 _ _ _)
      | (with_reducible exact ih1 _ _ _)
      | (with_reducible exact LeO.refl _)
      | (with_reducible exact LeO.none _)
      | (with_reducible refine LeO.ite ?_ ?_)
      | (with_reducible refine LeO.bind ?_ (fun _ => ?_))
      | exact ih0 _ _ _
      | exact ih1 _ _ _
      | exact LeO.none _
      | refine LeO.ite ?_ ?_
      | refine LeO.bind ?_ (fun _ => ?_)
set_option maxHeartbeats 8000000 in
set_option maxRecDepth 100000 in
theorem drovewayref04_Field.calls (k : Nat) (a0 : Int) (A1 : Option Addr) (c1 : Nat) (l1 : List Int) (r : Int) (w : World) (hr1 : Kd.C (Kd.int .i64) w A1 l1.length l1) (hc1 : l1.length ≤ c1) (h : drovewayref04_Field.f k a0 l1 = some r) :
    Calls Try.prog 17 #[.int .i64 a0, .slice A1 l1.length c1] w fun e w' => e = .returned (.int .i64 r) ∧ Drawn0 w w' := by
  have HR1 := Aside0.mk hr1
  have HC1 := Aside0.mk hc1
  clear hr1 hc1
  have H : (if a0 < 1 then (drovewayref04_Field.j0 k a0 l1 true) else (drovewayref04_Field.j0 k a0 l1 (decide (a0 > 9)))) = some r := h
  clear h
  have HC3 := Aside0.mk H
  clear H
  go_enter Try.func17, Try.ntmps17
  go_upto_region 1 with (fail)
  repeat (go_quiet (fail); go_upto_region 1 with (fail))
  go_cut [11] (fun v11 wc => ∃ (kq : Nat) (x11_2 : Bool), v11 = .bool x11_2 ∧ Aside0 (drovewayref04_Field.j0 kq a0 l1 x11_2 = some r) ∧ Aside0 (kq ≤ k) ∧ Drawn0 w wc)
  case first =>
    have H := HC3.out
    clear HC3
    by_cases c4 : a0 < 1
    · rw [if_pos c4] at H
      have c4b0 : decide (a0 < 1) = true := decide_eq_true c4
      clear c4
      (first | rw [c4b0] | (simp only [i64_w, i32_w]; rw [c4b0]) | skip)
      have H' := Aside0.mk H
      clear H
      go_wp2
      repeat (go_quiet (fail); try go_wp2)
      go_meet
      case rel => exact ⟨_, (true), (by first | rfl | (simp; done) | (simp [*]; done)), H', ⟨by first | omega | exact Nat.le_refl _⟩, by repeat (first | exact Drawn0.refl _ | apply Drawn0.step)⟩
    · rw [if_neg c4] at H
      have c4b0 : decide (a0 < 1) = false := decide_eq_false c4
      clear c4
      (first | rw [c4b0] | (simp only [i64_w, i32_w]; rw [c4b0]) | skip)
      have H' := Aside0.mk H
      clear H
      go_wp2
      repeat (go_quiet (fail); try go_wp2)
      go_meet
      case rel => exact ⟨_, (decide (a0 > 9)), (by first | rfl | (simp; done) | (simp [*]; done)), H', ⟨by first | omega | exact Nat.le_refl _⟩, by repeat (first | exact Drawn0.refl _ | apply Drawn0.step)⟩
  case rest =>
    clear HC3
    try clear c1
    try clear p2
    try clear c4
    try clear c4b0
    obtain ⟨kq, x11_2, rfl, HA, HJ2, ⟨mc2, rfl⟩⟩ := hcut
    cases kq with
    | zero => exact absurd HA.out (by simp [drovewayref04_Field.j0])
    | succ kj2 =>
      have H := HA.out
      clear HA
      simp only [drovewayref04_Field.j0] at H
      by_cases c5 : x11_2 = true
      · subst c5
        have H1 : (some 2) = some r := by rw [if_pos rfl] at H; exact H
        clear H
        have H := H1
        clear H1
        obtain rfl := Option.some.inj H
        go_wp2
        repeat (go_quiet (fail); try go_wp2)
        go_ret
        exact ⟨by first | rfl | (simp; done) | (simp [*]; done), by repeat (first | exact Drawn0.refl _ | apply Drawn0.step)⟩
      · replace c5 := Bool.eq_false_iff.mpr c5
        subst c5
        have H1 : (if (l1.length : Int) > 12 then (some 3) else (drovewayref04_Field.l0 kj2 a0 l1 0)) = some r := by rw [if_neg (show ¬ (false = true) by decide)] at H; exact H
        clear H
        have H := H1
        clear H1
        by_cases c6 : (l1.length : Int) > 12
        · rw [if_pos c6] at H
          have c6b0 : decide (12 < (l1.length : Int)) = true := decide_eq_true c6
          have c6b1 : decide (12 < l1.length) = true := decide_eq_true (by omega)
          clear c6
          obtain rfl := Option.some.inj H
          go_wp2
          repeat (go_quiet (fail); try go_wp2)
          go_ret
          exact ⟨by first | rfl | (simp; done) | (simp [*]; done), by repeat (first | exact Drawn0.refl _ | apply Drawn0.step)⟩
        · rw [if_neg c6] at H
          have c6b0 : decide (12 < (l1.length : Int)) = false := decide_eq_false c6
          have c6b1 : decide (12 < l1.length) = false := decide_eq_false (by omega)
          clear c6
          have H' := Aside0.mk H
          clear H
          go_wp2
          repeat (go_quiet (fail); try go_wp2)
          go_loopg [5] kj2 (fun kq v5 w' => ∃ (x5_2 : Int), v5 = .int .i64 x5_2 ∧ Aside0 (drovewayref04_Field.l0 kq a0 l1 x5_2 = some r) ∧ Aside0 (kq ≤ kj2) ∧ Drawn0 w w')
          case atStart => exact ⟨(0), (by first | rfl | (simp; done) | (simp [*]; done)), H', ⟨Nat.le_refl _⟩, by repeat (first | exact Drawn0.refl _ | apply Drawn0.step)⟩
          case round =>
            clear H'
            try clear c1
            try clear c2
            try clear p2
            try clear c4
            try clear c4b0
            try clear c5
            try clear c6
            try clear c6b0
            try clear c6b1
            try clear p2
            obtain ⟨x5_2, rfl, HA, HK2, ⟨m2, rfl⟩⟩ := hrel
            cases gk with
            | zero => exact absurd HA.out (by simp [drovewayref04_Field.l0])
            | succ k2 =>
              have H := HA.out
              clear HA
              simp only [drovewayref04_Field.l0] at H
              by_cases c7 : x5_2 < (l1.length : Int)
              · rw [if_pos c7] at H
                have c7b0 : decide (x5_2 < (l1.length : Int)) = true := decide_eq_true c7
                clear c7
                by_cases c8 : 0 ≤ x5_2
                · rw [if_pos c8] at H
                  have c8b0 : decide (0 ≤ x5_2) = true := decide_eq_true c8
                  clear c8
                  by_cases c9 : (rd l1 x5_2) < 1
                  · rw [if_pos c9] at H
                    have c9b0 : decide ((rd l1 x5_2) < 1) = true := decide_eq_true c9
                    clear c9
                    obtain rfl := Option.some.inj H
                    have p134 : 0 ≤ (x5_2 : Int) := of_decide_eq_true (by first | (with_reducible assumption) | assumption)
                    have q134 : x5_2 < (l1.length : Int) := of_decide_eq_true (by first | (with_reducible assumption) | assumption)
                    obtain ⟨ad134, e134, hx134_0⟩ := Kd.at_int HR1.out x5_2 p134 q134
                    cases e134
                    replace p134 := eq_true p134
                    replace q134 := eq_true q134
                    go_wp2
                    repeat (go_quiet (fail); try go_wp2)
                    go_ret
                    exact ⟨by first | rfl | (simp; done) | (simp [*]; done), by repeat (first | exact Drawn0.refl _ | apply Drawn0.step)⟩
                  · rw [if_neg c9] at H
                    have c9b0 : decide ((rd l1 x5_2) < 1) = false := decide_eq_false c9
                    clear c9
                    by_cases c10 : 0 ≤ a0
                    · rw [if_pos c10] at H
                      have c10b0 := eq_true c10
                      have c10b1 : decide (0 ≤ a0) = true := decide_eq_true c10
                      clear c10
                      obtain ⟨ji11, hji11⟩ : ∃ j_ : Int, (shl .i64 1 a0) = j_ := ⟨_, rfl⟩
                      replace H : (if (rd l1 x5_2) ≥ (ji11) then (some 2) else (drovewayref04_Field.l0 k2 a0 l1 (wrap64 (x5_2 + 1)))) = some r := by first | (rw [hji11] at H; exact H) | (simp only [hji11] at H ⊢; exact H)
                      have hji11_ : (IntKind.i64.wrap (1 * 2 ^ min a0.toNat 64)) = ji11 := hji11
                      have hji11z : a0 ≤ 64 → (IntKind.i64.wrap (1 * 2 ^ a0.toNat)) = ji11 := shl_small hji11
                      have hji11u : (IntKind.i64.wrap (2 ^ min a0.toNat 64)) = ji11 := by have h_ := hji11_; rw [Int.one_mul] at h_; exact h_
                      have hji11v : a0 ≤ 64 → (IntKind.i64.wrap (2 ^ a0.toNat)) = ji11 := fun hle_ => by have h_ := hji11z hle_; rw [Int.one_mul] at h_; exact h_
                      have hji11y : (wrap64 (1 * 2 ^ min a0.toNat 64)) = ji11 := (i64_w _).symm.trans hji11_
                      have hji11x : a0 ≤ 64 → (wrap64 (1 * 2 ^ a0.toNat)) = ji11 := fun h_ => (i64_w _).symm.trans (hji11z h_)
                      by_cases c12 : (rd l1 x5_2) ≥ (ji11)
                      · rw [if_pos c12] at H
                        have c12b0 : decide ((ji11) ≤ (rd l1 x5_2)) = true := decide_eq_true c12
                        clear c12
                        obtain rfl := Option.some.inj H
                        have p134 : 0 ≤ (x5_2 : Int) := of_decide_eq_true (by first | (with_reducible assumption) | assumption)
                        have q134 : x5_2 < (l1.length : Int) := of_decide_eq_true (by first | (with_reducible assumption) | assumption)
                        obtain ⟨ad134, e134, hx134_0⟩ := Kd.at_int HR1.out x5_2 p134 q134
                        cases e134
                        replace p134 := eq_true p134
                        replace q134 := eq_true q134
                        have p135 : 0 ≤ (x5_2 : Int) := of_decide_eq_true (by first | (with_reducible assumption) | assumption)
                        have q135 : x5_2 < (l1.length : Int) := of_decide_eq_true (by first | (with_reducible assumption) | assumption)
                        obtain ⟨ad135, e135, hx135_0⟩ := Kd.at_int HR1.out x5_2 p135 q135
                        obtain rfl : ad134 = ad135 := (by injection e135)
                        replace p135 := eq_true p135
                        replace q135 := eq_true q135
                        go_wp2
                        repeat (go_quiet (fail); try go_wp2)
                        go_ret
                        exact ⟨by first | rfl | (simp; done) | (simp only [← hji11] <;> (first | rfl | simp)) | (simp [*]; done), by repeat (first | exact Drawn0.refl _ | apply Drawn0.step)⟩
                      · rw [if_neg c12] at H
                        have c12b0 : decide ((ji11) ≤ (rd l1 x5_2)) = false := decide_eq_false c12
                        clear c12
                        have H' := Aside0.mk H
                        clear H
                        have p134 : 0 ≤ (x5_2 : Int) := of_decide_eq_true (by first | (with_reducible assumption) | assumption)
                        have q134 : x5_2 < (l1.length : Int) := of_decide_eq_true (by first | (with_reducible assumption) | assumption)
                        obtain ⟨ad134, e134, hx134_0⟩ := Kd.at_int HR1.out x5_2 p134 q134
                        cases e134
                        replace p134 := eq_true p134
                        replace q134 := eq_true q134
                        have p135 : 0 ≤ (x5_2 : Int) := of_decide_eq_true (by first | (with_reducible assumption) | assumption)
                        have q135 : x5_2 < (l1.length : Int) := of_decide_eq_true (by first | (with_reducible assumption) | assumption)
                        obtain ⟨ad135, e135, hx135_0⟩ := Kd.at_int HR1.out x5_2 p135 q135
                        obtain rfl : ad134 = ad135 := (by injection e135)
                        replace p135 := eq_true p135
                        replace q135 := eq_true q135
                        go_wp2
                        repeat (go_quiet (fail); try go_wp2)
                        go_roundg k2
                        case measure => have := HJ2.out; have := HK2.out; omega
                        case rel => exact ⟨(wrap64 (x5_2 + 1)), (by first | rfl | (simp; done) | (simp [*]; done)), H', ⟨by have := HJ2.out; have := HK2.out; omega⟩, by repeat (first | exact Drawn0.refl _ | apply Drawn0.step)⟩
                    · rw [if_neg c10] at H
                      exact absurd H (by simp)
                · rw [if_neg c8] at H
                  exact absurd H (by simp)
              · rw [if_neg c7] at H
                have c7b0 : decide (x5_2 < (l1.length : Int)) = false := decide_eq_false c7
                clear c7
                obtain rfl := Option.some.inj H
                go_wp2
                repeat (go_quiet (fail); try go_wp2)
                go_ret
                exact ⟨by first | rfl | (simp; done) | (simp [*]; done), by repeat (first | exact Drawn0.refl _ | apply Drawn0.step)⟩

/-! ### drovewayref04_Written: function 18 -/
def drovewayref04_Written.l0 : Nat → Int → Int → Int → List Int → Int → Option (ByteArray)
  | 0, _, _, _, _, _ => none
  | k + 1, x0, x1, x2, x7, x8 => if x8 < x0 then (if 0 ≤ x8 then (if x8 < (x7.length : Int) then ((some (x7.set (x8 : Int).toNat 46 : List Int)).bind fun y139 => (if (Int.tmod (shr .i64 x1 x8) 2) = 1 then (drovewayref04_Written.l0 k x0 x1 x2 (y139.set (x8 : Int).toNat 119) (wrap64 (x8 + 1))) else (if (Int.tmod (shr .i64 x2 x8) 2) = 1 then (drovewayref04_Written.l0 k x0 x1 x2 (y139.set (x8 : Int).toNat 100) (wrap64 (x8 + 1))) else (drovewayref04_Written.l0 k x0 x1 x2 y139 (wrap64 (x8 + 1)))))) else (none)) else (none)) else (some (strOfNums x7))
def drovewayref04_Written.f (k : Nat) (a0 : Int) (a1 : Int) (a2 : Int) : Option (ByteArray) := if 0 ≤ a0 then (if (a0 : Int).toNat ≤ 281474976710656 then (drovewayref04_Written.l0 k a0 a1 a2 (List.replicate (a0 : Int).toNat 0) 0) else (none)) else (none)
theorem drovewayref04_Written.mono_l : ∀ k, (∀ y0 y1 y2 y3 y4, LeO (drovewayref04_Written.l0 k y0 y1 y2 y3 y4) (drovewayref04_Written.l0 (k + 1) y0 y1 y2 y3 y4))
  | 0 => fun _ _ _ _ _ r h => by simp [drovewayref04_Written.l0] at h
  | k + 1 => by
    have ih0 := drovewayref04_Written.mono_l k
    · intro y0 y1 y2 y3 y4
      unfold drovewayref04_Written.l0
      repeat' first
      | (with_reducible exact ih0 _ _ _ _ _)
      | (with_reducible exact LeO.refl _)
      | (with_reducible exact LeO.none _)
      | (with_reducible refine LeO.ite ?_ ?_)
      | (with_reducible refine LeO.bind ?_ (fun _ => ?_))
      | exact ih0 _ _ _ _ _
      | exact LeO.none _
      | refine LeO.ite ?_ ?_
      | refine LeO.bind ?_ (fun _ => ?_)
theorem drovewayref04_Written.mono : ∀ a0 a1 a2 k, LeO (drovewayref04_Written.f k a0 a1 a2) (drovewayref04_Written.f (k + 1) a0 a1 a2) := by
  intro a0 a1 a2 k
  have ih0 := drovewayref04_Written.mono_l k
  unfold drovewayref04_Written.f
  repeat' first
      | (with_reducible exact ih0 _ _ _ _ _)
      | (with_reducible exact LeO.refl _)
      | (with_reducible exact LeO.none _)
      | (with_reducible refine LeO.ite ?_ ?_)
      | (with_reducible refine LeO.bind ?_ (fun _ => ?_))
      | exact ih0 _ _ _ _ _
      | exact LeO.none _
      | refine LeO.ite ?_ ?_
      | refine LeO.bind ?_ (fun _ => ?_)
set_option maxHeartbeats 8000000 in
set_option maxRecDepth 100000 in
theorem drovewayref04_Written.calls (k : Nat) (a0 : Int) (a1 : Int) (a2 : Int) (r : ByteArray) (w : World) (h : drovewayref04_Written.f k a0 a1 a2 = some r) :
    Calls Try.prog 18 #[.int .i64 a0, .int .i64 a1, .int .i64 a2] w fun e w' => e = .returned (.string r) ∧ Below w.heap.size w w' := by
  have HB := Aside0.mk (Below.refl w.heap.size w)
  have H : (if 0 ≤ a0 then (if (a0 : Int).toNat ≤ 281474976710656 then (drovewayref04_Written.l0 k a0 a1 a2 (List.replicate (a0 : Int).toNat 0) 0) else (none)) else (none)) = some r := h
  clear h
  by_cases c4 : 0 ≤ a0
  · rw [if_pos c4] at H
    have c4b0 := eq_true c4
    have c4b1 : decide (0 ≤ a0) = true := decide_eq_true c4
    clear c4
    by_cases c5 : (a0 : Int).toNat ≤ 281474976710656
    · rw [if_pos c5] at H
      have c5b0 := eq_true c5
      have c5b1 : decide ((a0 : Int).toNat ≤ 281474976710656) = true := decide_eq_true c5
      clear c5
      obtain ⟨y136, hy136⟩ : ∃ y_ : List Int, y_ = (List.replicate (a0 : Int).toNat 0) := ⟨_, rfl⟩
      replace H : (drovewayref04_Written.l0 k a0 a1 a2 y136 0) = some r := by first | (rw [hy136]; with_reducible exact H) | (have H2_ := (Option.bind_some _ _).symm.trans H; rw [hy136]; with_reducible exact H2_) | (have H2_ := (Option.bind_some _ _).symm.trans H; with_reducible exact H2_) | with_reducible exact H | (rw [hy136]; exact H) | exact H
      have Ny136 := Aside0.mk hy136
      clear hy136
      have H' := Aside0.mk H
      clear H
      go_enter Try.func18, Try.ntmps18
      go_wp2_with (first | ((with_reducible refine gate_dst (N := 10) rfl ?_); refine Kd.R_make (Kd.int .u8) _ 5 rfl (N := 10) rfl 43 _ _ rfl a0 rfl rfl Try.underlying43 (.int .u8 0) 1 info5 rfl (by decide) (by omega) 0 (ok := fun _ => True) (okp := fun _ => True) rfl (fun _ hk => hk) trivial (of_decide_eq_true (by first | (with_reducible assumption) | assumption)) (Nat.le_trans (Nat.mul_le_mul_right _ (of_decide_eq_true (by first | (with_reducible assumption) | assumption) : a0.toNat ≤ 281474976710656)) (by omega)) (Below.refl _ _) (Nat.le_refl _) ?_; intro v137 w6 ho7 hb hg_ hnew_; clear hg_ hnew_; (first | rw [← Ny136.out] at ho7 | (simp only [Int.reduceToNat] at ho7; rw [← Ny136.out] at ho7)); have n0_ := Aside0.mk (Kd.R_lower ho7 (below_size (by repeat (first | (with_reducible first | exact HB.out | apply below_alloc | apply pw_below_drewN | apply below_drew1) | exact HB.out)))); have n1_ := Aside0.mk (below_step (by repeat (first | (with_reducible first | exact HB.out | apply below_alloc | apply pw_below_drewN | apply below_drew1) | exact HB.out)) hb); clear HB; have HO138 := n0_; have HB := n1_; clear n0_ n1_; clear hb ho7))
      go_loopg [8] k (fun kq v8 w' => ∃ (x7_1 : List Int) (x8_1 : Int), v8 = .int .i64 x8_1 ∧ Aside0 (drovewayref04_Written.l0 kq a0 a1 a2 x7_1 x8_1 = some r) ∧ Aside0 (kq ≤ k) ∧ Aside0 (Kd.R (Kd.int .u8) 5 w' w.heap.size (fun _ => True) v137 x7_1) ∧ Aside0 (Below w.heap.size w w'))
      case atStart => exact ⟨(y136), (0), (by first | rfl | (simp; done) | (simp [*]; done)), H', ⟨Nat.le_refl _⟩, ⟨by (with_reducible repeat (first | apply Kd.R_alloc | apply Kd.R_drewN | apply Kd.R_drew)); exact HO138.out⟩, ⟨by repeat (first | (with_reducible first | exact HB.out | apply below_alloc | apply pw_below_drewN | apply below_drew1) | exact HB.out)⟩⟩
      case round =>
        clear H'
        try clear c1
        try clear p2
        try clear c4
        try clear c4b0
        try clear c4b1
        try clear c5
        try clear c5b0
        try clear c5b1
        obtain ⟨x7_1, x8_1, rfl, HA, HK1, HO_7, HB⟩ := hrel
        cases gk with
        | zero => exact absurd HA.out (by simp [drovewayref04_Written.l0])
        | succ k1 =>
          have H := HA.out
          clear HA
          simp only [drovewayref04_Written.l0] at H
          by_cases c8 : x8_1 < a0
          · rw [if_pos c8] at H
            have c8b0 : decide (x8_1 < a0) = true := decide_eq_true c8
            clear c8
            by_cases c9 : 0 ≤ x8_1
            · rw [if_pos c9] at H
              have c9b0 : decide (0 ≤ x8_1) = true := decide_eq_true c9
              clear c9
              by_cases c10 : x8_1 < (x7_1.length : Int)
              · rw [if_pos c10] at H
                have c10b0 : decide (x8_1 < (x7_1.length : Int)) = true := decide_eq_true c10
                clear c10
                obtain ⟨y139, hy139⟩ : ∃ y_ : List Int, y_ = (x7_1.set (x8_1 : Int).toNat 46) := ⟨_, rfl⟩
                replace H : (if (Int.tmod (shr .i64 a1 x8_1) 2) = 1 then (drovewayref04_Written.l0 k1 a0 a1 a2 (y139.set (x8_1 : Int).toNat 119) (wrap64 (x8_1 + 1))) else (if (Int.tmod (shr .i64 a2 x8_1) 2) = 1 then (drovewayref04_Written.l0 k1 a0 a1 a2 (y139.set (x8_1 : Int).toNat 100) (wrap64 (x8_1 + 1))) else (drovewayref04_Written.l0 k1 a0 a1 a2 y139 (wrap64 (x8_1 + 1))))) = some r := by first | (rw [hy139]; with_reducible exact H) | (have H2_ := (Option.bind_some _ _).symm.trans H; rw [hy139]; with_reducible exact H2_) | (have H2_ := (Option.bind_some _ _).symm.trans H; with_reducible exact H2_) | with_reducible exact H | (rw [hy139]; exact H) | exact H
                have Ny139 := Aside0.mk hy139
                clear hy139
                have c12b0 := eq_true (of_decide_eq_true (by first | (with_reducible assumption) | assumption) : 0 ≤ x8_1)
                obtain ⟨ji13, hji13⟩ : ∃ j_ : Int, (shr .i64 a1 x8_1) = j_ := ⟨_, rfl⟩
                replace H : (if (Int.tmod (ji13) 2) = 1 then (drovewayref04_Written.l0 k1 a0 a1 a2 (y139.set (x8_1 : Int).toNat 119) (wrap64 (x8_1 + 1))) else (if (Int.tmod (shr .i64 a2 x8_1) 2) = 1 then (drovewayref04_Written.l0 k1 a0 a1 a2 (y139.set (x8_1 : Int).toNat 100) (wrap64 (x8_1 + 1))) else (drovewayref04_Written.l0 k1 a0 a1 a2 y139 (wrap64 (x8_1 + 1))))) = some r := by first | (rw [hji13] at H; exact H) | (simp only [hji13] at H ⊢; exact H)
                have hji13_ : (a1 / 2 ^ min x8_1.toNat 64) = ji13 := hji13
                have hji13z : x8_1 ≤ 64 → (a1 / 2 ^ x8_1.toNat) = ji13 := shr_small hji13
                by_cases c14 : (Int.tmod (ji13) 2) = 1
                · rw [if_pos c14] at H
                  have c14b0 : ((Int.tmod (ji13) 2) == 1) = true := beq_iff_eq.mpr c14
                  have c14b1 : ((Int.tmod (ji13) 2) != 1) = false := bne_eq_false_iff_eq.mpr c14
                  clear c14
                  obtain ⟨y140, hy140⟩ : ∃ y_ : List Int, y_ = (y139.set (x8_1 : Int).toNat 119) := ⟨_, rfl⟩
                  replace H : (drovewayref04_Written.l0 k1 a0 a1 a2 y140 (wrap64 (x8_1 + 1))) = some r := by first | (rw [hy140]; with_reducible exact H) | (have H2_ := (Option.bind_some _ _).symm.trans H; rw [hy140]; with_reducible exact H2_) | (have H2_ := (Option.bind_some _ _).symm.trans H; with_reducible exact H2_) | with_reducible exact H | (rw [hy140]; exact H) | exact H
                  have Ny140 := Aside0.mk hy140
                  clear hy140
                  have H' := Aside0.mk H
                  clear H
                  have p11 : 0 ≤ (x8_1 : Int) := of_decide_eq_true (by first | (with_reducible assumption) | assumption)
                  have q11 : (x8_1 : Int) < ((x7_1.length : Int) : Int) := of_decide_eq_true (by first | (with_reducible assumption) | assumption)
                  obtain ⟨go11, co11, eo11, gb11, gl11, cl11, HG11⟩ := Kd.R_form HO_7.out (by omega)
                  (first | cases eo11 | (injection eo11 with ea_ en_ ec_; (first | subst ea_ | (injection ea_ with ea_; subst ea_)); subst ec_; clear en_))
                  have GB11 := Aside0.mk gb11
                  have GG11 := Aside0.mk HG11
                  clear gb11 gl11 HG11
                  obtain ⟨hx11_0, hf11_0⟩ := Kd.R_celln 0 HO_7.out (x8_1 : Int) p11 q11
                  replace p11 := eq_true p11
                  replace q11 := eq_true q11
                  have HP16 := Kd.R_putg HO_7.out (x8_1 : Int) 46
                  go_wp2_with (first | ((with_reducible refine gate_store (t := 5) (p := 18) rfl ?_); refine store_event (t := 5) (p := 18) (v := ?vo_w17) (w1 := (wr.setCell ⟨go11, (x8_1 : Int).toNat, none⟩ (.int .u8 46))) ?hg ?ho ?hn ?hr ?_; (case ho => rfl); (case hg => rfl); (case hn => rfl); (case hr => first | (go_simp; done) | (go_simp; rfl)); intro w17 hw; have hg : wr.grownBy w17 (some go11) := (by rw [hw]; exact HP16.2); have hp_ : Kd.R (Kd.int .u8) 5 w17 w.heap.size (fun _ => True) (.slice (some ⟨go11, 0, none⟩) x7_1.length co11) y139 := (by rw [hw, Ny139.out]; exact HP16.1); clear HP16; have n0_ := Aside0.mk (hp_); have n1_ := Aside0.mk ((by rw [hw]; exact below_set (HB.out) GB11.out : Below w.heap.size w w17)); clear HO_7; clear HB; have HO_7 := n0_; have HB := n1_; clear n0_ n1_; clear hg hw hp_; have p15 : 0 ≤ (x8_1 : Int) := of_decide_eq_true (by first | (with_reducible assumption) | assumption); have q15 : (x8_1 : Int) < ((x7_1.length : Int) : Int) := of_decide_eq_true (by first | (with_reducible assumption) | assumption); obtain ⟨hx15_0, hf15_0⟩ := Kd.R_celln 0 HO_7.out (x8_1 : Int) p15 q15; replace p15 := eq_true p15; replace q15 := eq_true q15; obtain ⟨hy18_, hz18_⟩ := Kd.R_celln 0 HO_7.out (x8_1 : Int) (of_decide_eq_true (by first | (with_reducible assumption) | assumption)) (of_decide_eq_true (by first | (with_reducible assumption) | assumption)); have HP18 := Kd.R_putg HO_7.out (x8_1 : Int) 119) | ((with_reducible refine gate_store (t := 5) (p := 26) rfl ?_); refine store_event (t := 5) (p := 26) (v := ?vo_w19) (w1 := (w17.setCell ⟨go11, (x8_1 : Int).toNat, none⟩ (.int .u8 119))) ?hg ?ho ?hn ?hr ?_; (case ho => rfl); (case hg => rfl); (case hn => rfl); (case hr => first | (go_simp; done) | (go_simp; rfl)); intro w19 hw; have hg : w17.grownBy w19 (some go11) := (by rw [hw]; exact HP18.2); have hp_ : Kd.R (Kd.int .u8) 5 w19 w.heap.size (fun _ => True) (.slice (some ⟨go11, 0, none⟩) x7_1.length co11) y140 := (by rw [hw, Ny140.out]; exact HP18.1); clear HP18; have n0_ := Aside0.mk (hp_); have n1_ := Aside0.mk ((by rw [hw]; exact below_set (HB.out) GB11.out : Below w.heap.size w w19)); clear HO_7; clear HB; have HO_7 := n0_; have HB := n1_; clear n0_ n1_; clear hg hw hp_))
                  go_roundg k1
                  case measure => have := HK1.out; omega
                  case rel => exact ⟨(y140), (wrap64 (x8_1 + 1)), (by first | rfl | (simp; done) | (simp [*]; done)), H', ⟨by have := HK1.out; omega⟩, ⟨by (with_reducible repeat (first | apply Kd.R_alloc | apply Kd.R_drewN | apply Kd.R_drew)); exact HO_7.out⟩, ⟨by repeat (first | (with_reducible first | exact HB.out | apply below_alloc | apply pw_below_drewN | apply below_drew1) | exact HB.out)⟩⟩
                · rw [if_neg c14] at H
                  have c14b0 : ((Int.tmod (ji13) 2) == 1) = false := beq_eq_false_iff_ne.mpr c14
                  have c14b1 : ((Int.tmod (ji13) 2) != 1) = true := bne_iff_ne.mpr c14
                  have c20b0 := eq_true (of_decide_eq_true (by first | (with_reducible assumption) | assumption) : 0 ≤ x8_1)
                  obtain ⟨ji21, hji21⟩ : ∃ j_ : Int, (shr .i64 a2 x8_1) = j_ := ⟨_, rfl⟩
                  replace H : (if (Int.tmod (ji21) 2) = 1 then (drovewayref04_Written.l0 k1 a0 a1 a2 (y139.set (x8_1 : Int).toNat 100) (wrap64 (x8_1 + 1))) else (drovewayref04_Written.l0 k1 a0 a1 a2 y139 (wrap64 (x8_1 + 1)))) = some r := by first | (rw [hji21] at H; exact H) | (simp only [hji21] at H ⊢; exact H)
                  have hji21_ : (a2 / 2 ^ min x8_1.toNat 64) = ji21 := hji21
                  have hji21z : x8_1 ≤ 64 → (a2 / 2 ^ x8_1.toNat) = ji21 := shr_small hji21
                  by_cases c22 : (Int.tmod (ji21) 2) = 1
                  · rw [if_pos c22] at H
                    have c22b0 : ((Int.tmod (ji21) 2) == 1) = true := beq_iff_eq.mpr c22
                    have c22b1 : ((Int.tmod (ji21) 2) != 1) = false := bne_eq_false_iff_eq.mpr c22
                    clear c22
                    obtain ⟨y141, hy141⟩ : ∃ y_ : List Int, y_ = (y139.set (x8_1 : Int).toNat 100) := ⟨_, rfl⟩
                    replace H : (drovewayref04_Written.l0 k1 a0 a1 a2 y141 (wrap64 (x8_1 + 1))) = some r := by first | (rw [hy141]; with_reducible exact H) | (have H2_ := (Option.bind_some _ _).symm.trans H; rw [hy141]; with_reducible exact H2_) | (have H2_ := (Option.bind_some _ _).symm.trans H; with_reducible exact H2_) | with_reducible exact H | (rw [hy141]; exact H) | exact H
                    have Ny141 := Aside0.mk hy141
                    clear hy141
                    have H' := Aside0.mk H
                    clear H
                    have p11 : 0 ≤ (x8_1 : Int) := of_decide_eq_true (by first | (with_reducible assumption) | assumption)
                    have q11 : (x8_1 : Int) < ((x7_1.length : Int) : Int) := of_decide_eq_true (by first | (with_reducible assumption) | assumption)
                    obtain ⟨go11, co11, eo11, gb11, gl11, cl11, HG11⟩ := Kd.R_form HO_7.out (by omega)
                    (first | cases eo11 | (injection eo11 with ea_ en_ ec_; (first | subst ea_ | (injection ea_ with ea_; subst ea_)); subst ec_; clear en_))
                    have GB11 := Aside0.mk gb11
                    have GG11 := Aside0.mk HG11
                    clear gb11 gl11 HG11
                    obtain ⟨hx11_0, hf11_0⟩ := Kd.R_celln 0 HO_7.out (x8_1 : Int) p11 q11
                    replace p11 := eq_true p11
                    replace q11 := eq_true q11
                    have HP24 := Kd.R_putg HO_7.out (x8_1 : Int) 46
                    go_wp2_with (first | ((with_reducible refine gate_store (t := 5) (p := 18) rfl ?_); refine store_event (t := 5) (p := 18) (v := ?vo_w25) (w1 := (wr.setCell ⟨go11, (x8_1 : Int).toNat, none⟩ (.int .u8 46))) ?hg ?ho ?hn ?hr ?_; (case ho => rfl); (case hg => rfl); (case hn => rfl); (case hr => first | (go_simp; done) | (go_simp; rfl)); intro w25 hw; have hg : wr.grownBy w25 (some go11) := (by rw [hw]; exact HP24.2); have hp_ : Kd.R (Kd.int .u8) 5 w25 w.heap.size (fun _ => True) (.slice (some ⟨go11, 0, none⟩) x7_1.length co11) y139 := (by rw [hw, Ny139.out]; exact HP24.1); clear HP24; have n0_ := Aside0.mk (hp_); have n1_ := Aside0.mk ((by rw [hw]; exact below_set (HB.out) GB11.out : Below w.heap.size w w25)); clear HO_7; clear HB; have HO_7 := n0_; have HB := n1_; clear n0_ n1_; clear hg hw hp_; have p23 : 0 ≤ (x8_1 : Int) := of_decide_eq_true (by first | (with_reducible assumption) | assumption); have q23 : (x8_1 : Int) < ((x7_1.length : Int) : Int) := of_decide_eq_true (by first | (with_reducible assumption) | assumption); obtain ⟨hx23_0, hf23_0⟩ := Kd.R_celln 0 HO_7.out (x8_1 : Int) p23 q23; replace p23 := eq_true p23; replace q23 := eq_true q23; obtain ⟨hy26_, hz26_⟩ := Kd.R_celln 0 HO_7.out (x8_1 : Int) (of_decide_eq_true (by first | (with_reducible assumption) | assumption)) (of_decide_eq_true (by first | (with_reducible assumption) | assumption)); have HP26 := Kd.R_putg HO_7.out (x8_1 : Int) 100) | ((with_reducible refine gate_store (t := 5) (p := 34) rfl ?_); refine store_event (t := 5) (p := 34) (v := ?vo_w27) (w1 := (w25.setCell ⟨go11, (x8_1 : Int).toNat, none⟩ (.int .u8 100))) ?hg ?ho ?hn ?hr ?_; (case ho => rfl); (case hg => rfl); (case hn => rfl); (case hr => first | (go_simp; done) | (go_simp; rfl)); intro w27 hw; have hg : w25.grownBy w27 (some go11) := (by rw [hw]; exact HP26.2); have hp_ : Kd.R (Kd.int .u8) 5 w27 w.heap.size (fun _ => True) (.slice (some ⟨go11, 0, none⟩) x7_1.length co11) y141 := (by rw [hw, Ny141.out]; exact HP26.1); clear HP26; have n0_ := Aside0.mk (hp_); have n1_ := Aside0.mk ((by rw [hw]; exact below_set (HB.out) GB11.out : Below w.heap.size w w27)); clear HO_7; clear HB; have HO_7 := n0_; have HB := n1_; clear n0_ n1_; clear hg hw hp_))
                    go_roundg k1
                    case measure => have := HK1.out; omega
                    case rel => exact ⟨(y141), (wrap64 (x8_1 + 1)), (by first | rfl | (simp; done) | (simp [*]; done)), H', ⟨by have := HK1.out; omega⟩, ⟨by (with_reducible repeat (first | apply Kd.R_alloc | apply Kd.R_drewN | apply Kd.R_drew)); exact HO_7.out⟩, ⟨by repeat (first | (with_reducible first | exact HB.out | apply below_alloc | apply pw_below_drewN | apply below_drew1) | exact HB.out)⟩⟩
                  · rw [if_neg c22] at H
                    have c22b0 : ((Int.tmod (ji21) 2) == 1) = false := beq_eq_false_iff_ne.mpr c22
                    have c22b1 : ((Int.tmod (ji21) 2) != 1) = true := bne_iff_ne.mpr c22
                    have H' := Aside0.mk H
                    clear H
                    have p11 : 0 ≤ (x8_1 : Int) := of_decide_eq_true (by first | (with_reducible assumption) | assumption)
                    have q11 : (x8_1 : Int) < ((x7_1.length : Int) : Int) := of_decide_eq_true (by first | (with_reducible assumption) | assumption)
                    obtain ⟨go11, co11, eo11, gb11, gl11, cl11, HG11⟩ := Kd.R_form HO_7.out (by omega)
                    (first | cases eo11 | (injection eo11 with ea_ en_ ec_; (first | subst ea_ | (injection ea_ with ea_; subst ea_)); subst ec_; clear en_))
                    have GB11 := Aside0.mk gb11
                    have GG11 := Aside0.mk HG11
                    clear gb11 gl11 HG11
                    obtain ⟨hx11_0, hf11_0⟩ := Kd.R_celln 0 HO_7.out (x8_1 : Int) p11 q11
                    replace p11 := eq_true p11
                    replace q11 := eq_true q11
                    have HP28 := Kd.R_putg HO_7.out (x8_1 : Int) 46
                    go_wp2_with (first | ((with_reducible refine gate_store (t := 5) (p := 18) rfl ?_); refine store_event (t := 5) (p := 18) (v := ?vo_w29) (w1 := (wr.setCell ⟨go11, (x8_1 : Int).toNat, none⟩ (.int .u8 46))) ?hg ?ho ?hn ?hr ?_; (case ho => rfl); (case hg => rfl); (case hn => rfl); (case hr => first | (go_simp; done) | (go_simp; rfl)); intro w29 hw; have hg : wr.grownBy w29 (some go11) := (by rw [hw]; exact HP28.2); have hp_ : Kd.R (Kd.int .u8) 5 w29 w.heap.size (fun _ => True) (.slice (some ⟨go11, 0, none⟩) x7_1.length co11) y139 := (by rw [hw, Ny139.out]; exact HP28.1); clear HP28; have n0_ := Aside0.mk (hp_); have n1_ := Aside0.mk ((by rw [hw]; exact below_set (HB.out) GB11.out : Below w.heap.size w w29)); clear HO_7; clear HB; have HO_7 := n0_; have HB := n1_; clear n0_ n1_; clear hg hw hp_))
                    go_roundg k1
                    case measure => have := HK1.out; omega
                    case rel => exact ⟨(y139), (wrap64 (x8_1 + 1)), (by first | rfl | (simp; done) | (simp [*]; done)), H', ⟨by have := HK1.out; omega⟩, ⟨by (with_reducible repeat (first | apply Kd.R_alloc | apply Kd.R_drewN | apply Kd.R_drew)); exact HO_7.out⟩, ⟨by repeat (first | (with_reducible first | exact HB.out | apply below_alloc | apply pw_below_drewN | apply below_drew1) | exact HB.out)⟩⟩
              · rw [if_neg c10] at H
                exact absurd H (by simp)
            · rw [if_neg c9] at H
              exact absurd H (by simp)
          · rw [if_neg c8] at H
            have c8b0 : decide (x8_1 < a0) = false := decide_eq_false c8
            clear c8
            obtain rfl := Option.some.inj H
            have hcv30 := own_string (P := Try.prog) Try.underlying43 Try.underlying5 Try.underlying9 (Kd.own_of_R HO_7.out)
            go_wp2
            go_ret
            exact ⟨by first | rfl | (simp [errW_none, errW_some] <;> rfl) | (simp [*, errW_none, errW_some] <;> rfl), by repeat (first | (with_reducible first | exact HB.out | apply below_alloc | apply pw_below_drewN | apply below_drew1) | exact HB.out)⟩
    · rw [if_neg c5] at H
      exact absurd H (by simp)
  · rw [if_neg c4] at H
    exact absurd H (by simp)

-- by hand: function 19 (ambush_Guards)

/-! ### drovewaylaw04_free: function 16 -/
def drovewaylaw04_free.l0 : Nat → ByteArray → Int → Int → Option (Int)
  | 0, _, _, _ => none
  | k + 1, x0, x3, x4 => if x4 < (x0.size : Int) then (if 0 ≤ x4 then (if (bt x0 x4) = 46 then (drovewaylaw04_free.l0 k x0 (wrap64 (x3 + 1)) (wrap64 (x4 + 1))) else (drovewaylaw04_free.l0 k x0 x3 (wrap64 (x4 + 1)))) else (none)) else (some x3)
def drovewaylaw04_free.f (k : Nat) (a0 : ByteArray) : Option (Int) := drovewaylaw04_free.l0 k a0 0 0
theorem drovewaylaw04_free.mono_l : ∀ k, (∀ y0 y1 y2, LeO (drovewaylaw04_free.l0 k y0 y1 y2) (drovewaylaw04_free.l0 (k + 1) y0 y1 y2))
  | 0 => fun _ _ _ r h => by simp [drovewaylaw04_free.l0] at h
  | k + 1 => by
    have ih0 := drovewaylaw04_free.mono_l k
    · intro y0 y1 y2
      unfold drovewaylaw04_free.l0
      repeat' first
      | (with_reducible exact ih0 _ _ _)
      | (with_reducible exact LeO.refl _)
      | (with_reducible exact LeO.none _)
      | (with_reducible refine LeO.ite ?_ ?_)
      | (with_reducible refine LeO.bind ?_ (fun _ => ?_))
      | exact ih0 _ _ _
      | exact LeO.none _
      | refine LeO.ite ?_ ?_
      | refine LeO.bind ?_ (fun _ => ?_)
theorem drovewaylaw04_free.mono : ∀ a0 k, LeO (drovewaylaw04_free.f k a0) (drovewaylaw04_free.f (k + 1) a0) := by
  intro a0 k
  have ih0 := drovewaylaw04_free.mono_l k
  unfold drovewaylaw04_free.f
  repeat' first
      | (with_reducible exact ih0 _ _ _)
      | (with_reducible exact LeO.refl _)
      | (with_reducible exact LeO.none _)
      | (with_reducible refine LeO.ite ?_ ?_)
      | (with_reducible refine LeO.bind ?_ (fun _ => ?_))
      | exact ih0 _ _ _
      | exact LeO.none _
      | refine LeO.ite ?_ ?_
      | refine LeO.bind ?_ (fun _ => ?_)
set_option maxHeartbeats 8000000 in
set_option maxRecDepth 100000 in
theorem drovewaylaw04_free.calls (k : Nat) (a0 : ByteArray) (r : Int) (w : World) (h : drovewaylaw04_free.f k a0 = some r) :
    Calls Try.prog 16 #[.string a0] w fun e w' => e = .returned (.int .i64 r) ∧ Drawn0 w w' := by
  have H : (drovewaylaw04_free.l0 k a0 0 0) = some r := h
  clear h
  have H' := Aside0.mk H
  clear H
  go_enter Try.func16, Try.ntmps16
  go_wp2
  go_loopg [3, 4] k (fun kq v3 v4 w' => ∃ (x3_1 : Int) (x4_1 : Int), v3 = .int .i64 x3_1 ∧ v4 = .int .i64 x4_1 ∧ Aside0 (drovewaylaw04_free.l0 kq a0 x3_1 x4_1 = some r) ∧ Aside0 (kq ≤ k) ∧ Drawn0 w w')
  case atStart => exact ⟨(0), (0), (by first | rfl | (simp; done) | (simp [*]; done)), (by first | rfl | (simp; done) | (simp [*]; done)), H', ⟨Nat.le_refl _⟩, by repeat (first | exact Drawn0.refl _ | apply Drawn0.step)⟩
  case round =>
    clear H'
    try clear c1
    obtain ⟨x3_1, x4_1, rfl, rfl, HA, HK1, ⟨m1, rfl⟩⟩ := hrel
    cases gk with
    | zero => exact absurd HA.out (by simp [drovewaylaw04_free.l0])
    | succ k1 =>
      have H := HA.out
      clear HA
      simp only [drovewaylaw04_free.l0] at H
      by_cases c2 : x4_1 < (a0.size : Int)
      · rw [if_pos c2] at H
        have c2b0 : decide (x4_1 < (a0.size : Int)) = true := decide_eq_true c2
        clear c2
        by_cases c3 : 0 ≤ x4_1
        · rw [if_pos c3] at H
          have c3b0 : decide (0 ≤ x4_1) = true := decide_eq_true c3
          clear c3
          by_cases c5 : (bt a0 x4_1) = 46
          · rw [if_pos c5] at H
            have c5b0 : ((bt a0 x4_1) == 46) = true := beq_iff_eq.mpr c5
            have c5b1 : ((bt a0 x4_1) != 46) = false := bne_eq_false_iff_eq.mpr c5
            clear c5
            have H' := Aside0.mk H
            clear H
            have p4 : 0 ≤ (x4_1 : Int) := of_decide_eq_true (by first | (with_reducible assumption) | assumption)
            have q4 : x4_1 < (a0.size : Int) := of_decide_eq_true (by first | (with_reducible assumption) | assumption)
            have hx4 := bt_at a0 x4_1
            replace p4 := eq_true p4
            replace q4 := eq_true q4
            go_wp2
            go_roundg k1
            case measure => have := HK1.out; omega
            case rel => exact ⟨(wrap64 (x3_1 + 1)), (wrap64 (x4_1 + 1)), (by first | rfl | (simp; done) | (simp [*]; done)), (by first | rfl | (simp; done) | (simp [*]; done)), H', ⟨by have := HK1.out; omega⟩, by repeat (first | exact Drawn0.refl _ | apply Drawn0.step)⟩
          · rw [if_neg c5] at H
            have c5b0 : ((bt a0 x4_1) == 46) = false := beq_eq_false_iff_ne.mpr c5
            have c5b1 : ((bt a0 x4_1) != 46) = true := bne_iff_ne.mpr c5
            have H' := Aside0.mk H
            clear H
            have p4 : 0 ≤ (x4_1 : Int) := of_decide_eq_true (by first | (with_reducible assumption) | assumption)
            have q4 : x4_1 < (a0.size : Int) := of_decide_eq_true (by first | (with_reducible assumption) | assumption)
            have hx4 := bt_at a0 x4_1
            replace p4 := eq_true p4
            replace q4 := eq_true q4
            go_wp2
            go_roundg k1
            case measure => have := HK1.out; omega
            case rel => exact ⟨(x3_1), (wrap64 (x4_1 + 1)), (by first | rfl | (simp; done) | (simp [*]; done)), (by first | rfl | (simp; done) | (simp [*]; done)), H', ⟨by have := HK1.out; omega⟩, by repeat (first | exact Drawn0.refl _ | apply Drawn0.step)⟩
        · rw [if_neg c3] at H
          exact absurd H (by simp)
      · rw [if_neg c2] at H
        have c2b0 : decide (x4_1 < (a0.size : Int)) = false := decide_eq_false c2
        clear c2
        obtain rfl := Option.some.inj H
        go_wp2
        go_ret
        exact ⟨by first | rfl | (simp; done) | (simp [*]; done), by repeat (first | exact Drawn0.refl _ | apply Drawn0.step)⟩

/-! ### drovewaylaw04_chosen: function 25 -/
def drovewaylaw04_chosen.l0 : Nat → ByteArray → Int → Int → Option (Int)
  | 0, _, _, _ => none
  | k + 1, x0, x1, x6 => if x6 < (x0.size : Int) then (if 0 ≤ x6 then (if (bt x0 x6) = 46 then (if x1 = 0 then (some x6) else (drovewaylaw04_chosen.l0 k x0 (wrap64 (x1 - 1)) (wrap64 (x6 + 1)))) else (drovewaylaw04_chosen.l0 k x0 x1 (wrap64 (x6 + 1)))) else (none)) else (some (-1))
def drovewaylaw04_chosen.f (k : Nat) (a0 : ByteArray) (a1 : Int) : Option (Int) := (drovewaylaw04_free.f k a0).bind fun t134 => (if t134 = 0 then (some (-1)) else (drovewaylaw04_chosen.l0 k a0 (Int.tmod a1 t134) 0))
theorem drovewaylaw04_chosen.mono_l : ∀ k, (∀ y0 y1 y2, LeO (drovewaylaw04_chosen.l0 k y0 y1 y2) (drovewaylaw04_chosen.l0 (k + 1) y0 y1 y2))
  | 0 => fun _ _ _ r h => by simp [drovewaylaw04_chosen.l0] at h
  | k + 1 => by
    have ih0 := drovewaylaw04_chosen.mono_l k
    · intro y0 y1 y2
      unfold drovewaylaw04_chosen.l0
      repeat' first
      | (with_reducible exact ih0 _ _ _)
      | (with_reducible exact drovewaylaw04_free.mono _ _)
      | (with_reducible exact LeO.refl _)
      | (with_reducible exact LeO.none _)
      | (with_reducible refine LeO.ite ?_ ?_)
      | (with_reducible refine LeO.bind ?_ (fun _ => ?_))
      | exact ih0 _ _ _
      | exact drovewaylaw04_free.mono _ _
      | exact LeO.none _
      | refine LeO.ite ?_ ?_
      | refine LeO.bind ?_ (fun _ => ?_)
theorem drovewaylaw04_chosen.mono : ∀ a0 a1 k, LeO (drovewaylaw04_chosen.f k a0 a1) (drovewaylaw04_chosen.f (k + 1) a0 a1) := by
  intro a0 a1 k
  have ih0 := drovewaylaw04_chosen.mono_l k
  unfold drovewaylaw04_chosen.f
  repeat' first
      | (with_reducible exact ih0 _ _ _)
      | (with_reducible exact drovewaylaw04_free.mono _ _)
      | (with_reducible exact LeO.refl _)
      | (with_reducible exact LeO.none _)
      | (with_reducible refine LeO.ite ?_ ?_)
      | (with_reducible refine LeO.bind ?_ (fun _ => ?_))
      | exact ih0 _ _ _
      | exact drovewaylaw04_free.mono _ _
      | exact LeO.none _
      | refine LeO.ite ?_ ?_
      | refine LeO.bind ?_ (fun _ => ?_)
set_option maxHeartbeats 8000000 in
set_option maxRecDepth 100000 in
theorem drovewaylaw04_chosen.calls (k : Nat) (a0 : ByteArray) (a1 : Int) (r : Int) (w : World) (h : drovewaylaw04_chosen.f k a0 a1 = some r) :
    Calls Try.prog 25 #[.string a0, .int .i64 a1] w fun e w' => e = .returned (.int .i64 r) ∧ Drawn0 w w' := by
  have H : ((drovewaylaw04_free.f k a0).bind fun t134 => (if t134 = 0 then (some (-1)) else (drovewaylaw04_chosen.l0 k a0 (Int.tmod a1 t134) 0))) = some r := h
  clear h
  replace H := Option.bind_eq_some_iff.mp H
  obtain ⟨t134, A30, H⟩ := H
  replace H : (if t134 = 0 then (some (-1)) else (drovewaylaw04_chosen.l0 k a0 (Int.tmod a1 t134) 0)) = some r := H
  have A3 := Aside0.mk A30
  clear A30
  by_cases c4 : t134 = 0
  · rw [if_pos c4] at H
    have c4b0 : (t134 == 0) = true := beq_iff_eq.mpr c4
    have c4b1 : (t134 != 0) = false := bne_eq_false_iff_eq.mpr c4
    clear c4
    obtain rfl := Option.some.inj H
    go_enter Try.func25, Try.ntmps25
    go_wp2_with (first | ((with_reducible refine gate_callee (f := 16) rfl ?_); refine goesL_ (some 8) rfl rfl Try.func16 (by kernel_rfl) rfl #[.string a0] rfl (by (try simp only [List.map_toArray, List.map_cons, List.map_nil]); first | done | rfl | (simp only [List.length_drop, List.length_take]; rfl)) ?_; (with_reducible refine (drovewaylaw04_free.calls k a0 t134 _ A3.out).mono ?_); rintro e w' ⟨rfl, ⟨nd, rfl⟩⟩; refine ⟨_, rfl, ?_⟩))
    go_ret
    exact ⟨by first | rfl | (simp; done) | (simp [*]; done), by repeat (first | exact Drawn0.refl _ | apply Drawn0.step)⟩
  · rw [if_neg c4] at H
    have c4b0 : (t134 == 0) = false := beq_eq_false_iff_ne.mpr c4
    have c4b1 : (t134 != 0) = true := bne_iff_ne.mpr c4
    have H' := Aside0.mk H
    clear H
    go_enter Try.func25, Try.ntmps25
    go_wp2_with (first | ((with_reducible refine gate_callee (f := 16) rfl ?_); refine goesL_ (some 8) rfl rfl Try.func16 (by kernel_rfl) rfl #[.string a0] rfl (by (try simp only [List.map_toArray, List.map_cons, List.map_nil]); first | done | rfl | (simp only [List.length_drop, List.length_take]; rfl)) ?_; (with_reducible refine (drovewaylaw04_free.calls k a0 t134 _ A3.out).mono ?_); rintro e w' ⟨rfl, ⟨nd, rfl⟩⟩; refine ⟨_, rfl, ?_⟩))
    go_loopg [1, 6] k (fun kq v1 v6 w' => ∃ (x1_1 : Int) (x6_1 : Int), v1 = .int .i64 x1_1 ∧ v6 = .int .i64 x6_1 ∧ Aside0 (drovewaylaw04_chosen.l0 kq a0 x1_1 x6_1 = some r) ∧ Aside0 (kq ≤ k) ∧ Drawn0 w w')
    case atStart => exact ⟨(Int.tmod a1 t134), (0), (by first | rfl | (simp; done) | (simp [*]; done)), (by first | rfl | (simp; done) | (simp [*]; done)), H', ⟨Nat.le_refl _⟩, by repeat (first | exact Drawn0.refl _ | apply Drawn0.step)⟩
    case round =>
      clear H'
      try clear c1
      try clear c2
      try clear p2
      try clear c4
      try clear c4b0
      try clear c4b1
      obtain ⟨x1_1, x6_1, rfl, rfl, HA, HK1, ⟨m1, rfl⟩⟩ := hrel
      cases gk with
      | zero => exact absurd HA.out (by simp [drovewaylaw04_chosen.l0])
      | succ k1 =>
        have H := HA.out
        clear HA
        simp only [drovewaylaw04_chosen.l0] at H
        by_cases c5 : x6_1 < (a0.size : Int)
        · rw [if_pos c5] at H
          have c5b0 : decide (x6_1 < (a0.size : Int)) = true := decide_eq_true c5
          clear c5
          by_cases c6 : 0 ≤ x6_1
          · rw [if_pos c6] at H
            have c6b0 : decide (0 ≤ x6_1) = true := decide_eq_true c6
            clear c6
            by_cases c8 : (bt a0 x6_1) = 46
            · rw [if_pos c8] at H
              have c8b0 : ((bt a0 x6_1) == 46) = true := beq_iff_eq.mpr c8
              have c8b1 : ((bt a0 x6_1) != 46) = false := bne_eq_false_iff_eq.mpr c8
              clear c8
              by_cases c9 : x1_1 = 0
              · rw [if_pos c9] at H
                have c9b0 : (x1_1 == 0) = true := beq_iff_eq.mpr c9
                have c9b1 : (x1_1 != 0) = false := bne_eq_false_iff_eq.mpr c9
                clear c9
                obtain rfl := Option.some.inj H
                have p7 : 0 ≤ (x6_1 : Int) := of_decide_eq_true (by first | (with_reducible assumption) | assumption)
                have q7 : x6_1 < (a0.size : Int) := of_decide_eq_true (by first | (with_reducible assumption) | assumption)
                have hx7 := bt_at a0 x6_1
                replace p7 := eq_true p7
                replace q7 := eq_true q7
                go_wp2
                go_ret
                exact ⟨by first | rfl | (simp; done) | (simp [*]; done), by repeat (first | exact Drawn0.refl _ | apply Drawn0.step)⟩
              · rw [if_neg c9] at H
                have c9b0 : (x1_1 == 0) = false := beq_eq_false_iff_ne.mpr c9
                have c9b1 : (x1_1 != 0) = true := bne_iff_ne.mpr c9
                have H' := Aside0.mk H
                clear H
                have p7 : 0 ≤ (x6_1 : Int) := of_decide_eq_true (by first | (with_reducible assumption) | assumption)
                have q7 : x6_1 < (a0.size : Int) := of_decide_eq_true (by first | (with_reducible assumption) | assumption)
                have hx7 := bt_at a0 x6_1
                replace p7 := eq_true p7
                replace q7 := eq_true q7
                go_wp2
                go_roundg k1
                case measure => have := HK1.out; omega
                case rel => exact ⟨(wrap64 (x1_1 - 1)), (wrap64 (x6_1 + 1)), (by first | rfl | (simp; done) | (simp [*]; done)), (by first | rfl | (simp; done) | (simp [*]; done)), H', ⟨by have := HK1.out; omega⟩, by repeat (first | exact Drawn0.refl _ | apply Drawn0.step)⟩
            · rw [if_neg c8] at H
              have c8b0 : ((bt a0 x6_1) == 46) = false := beq_eq_false_iff_ne.mpr c8
              have c8b1 : ((bt a0 x6_1) != 46) = true := bne_iff_ne.mpr c8
              have H' := Aside0.mk H
              clear H
              have p7 : 0 ≤ (x6_1 : Int) := of_decide_eq_true (by first | (with_reducible assumption) | assumption)
              have q7 : x6_1 < (a0.size : Int) := of_decide_eq_true (by first | (with_reducible assumption) | assumption)
              have hx7 := bt_at a0 x6_1
              replace p7 := eq_true p7
              replace q7 := eq_true q7
              go_wp2
              go_roundg k1
              case measure => have := HK1.out; omega
              case rel => exact ⟨(x1_1), (wrap64 (x6_1 + 1)), (by first | rfl | (simp; done) | (simp [*]; done)), (by first | rfl | (simp; done) | (simp [*]; done)), H', ⟨by have := HK1.out; omega⟩, by repeat (first | exact Drawn0.refl _ | apply Drawn0.step)⟩
          · rw [if_neg c6] at H
            exact absurd H (by simp)
        · rw [if_neg c5] at H
          have c5b0 : decide (x6_1 < (a0.size : Int)) = false := decide_eq_false c5
          clear c5
          obtain rfl := Option.some.inj H
          go_wp2
          go_ret
          exact ⟨by first | rfl | (simp; done) | (simp [*]; done), by repeat (first | exact Drawn0.refl _ | apply Drawn0.step)⟩

end
end Go.Proofs.Ytbjpjjokamaliaa.B

/- The plain game: more spots for the wolves never help the dogs; who wins when the other one is next wins when next. -/
namespace Go.Proofs.Ytbjpjjokamaliaa.A
open Go.RowKit Go.Proofs.YtbjpjjokamaliaaW.PrintWords Go.Proofs.YtbjpjjokamaliaaW.PrintMore

/-- A set is within another one. -/
def Sub (f g : Nat → Bool) : Prop := ∀ i, f i = true → g i = true
theorem Sub.refl (f : Nat → Bool) : Sub f f := fun _ h => h
theorem Sub.trans {f g h : Nat → Bool} (a : Sub f g) (b : Sub g h) : Sub f h := fun i x => b i (a i x)
theorem up_iff (f : Nat → Bool) (i j : Nat) : up f i j = true ↔ (f j = true ∨ j = i) := by simp [up]
theorem Sub.up {f g : Nat → Bool} (h : Sub f g) (i : Nat) : Sub (up f i) (A.up g i) := fun j x => by
  rw [up_iff] at x ⊢
  exact x.imp (h j) id
theorem Sub.upr (f : Nat → Bool) (i : Nat) : Sub f (A.up f i) := fun j x => by rw [up_iff]; exact .inl x
theorem Sub.up_in {f g : Nat → Bool} (h : Sub f g) {i : Nat} (hi : g i = true) : Sub (A.up f i) g := fun j x => by
  rw [up_iff] at x
  rcases x with x | rfl
  · exact h j x
  · exact hi
theorem hasL_sub {l : List Int} {m : Nat} {W W' : Nat → Bool} (h : Sub W W') (hl : hasL l m W = true) : hasL l m W' = true := by
  unfold hasL at hl ⊢
  rw [List.any_eq_true] at hl ⊢
  obtain ⟨x, hx, hi⟩ := hl
  refine ⟨x, hx, ?_⟩
  unfold inL at hi ⊢
  rw [List.all_eq_true] at hi ⊢
  intro i hm
  have := hi i hm
  rw [Bool.or_eq_true] at this ⊢
  exact this.imp id (h i)
theorem fr_iff (W D : Nat → Bool) (i : Nat) : fr W D i = true ↔ W i = false ∧ D i = false := by
  unfold fr
  cases W i <;> cases D i <;> simp
theorem wins_w_iff (l : List Int) (m : Nat) (W D : Nat → Bool) : wins l m W D true = true ↔ hasL l m W = true ∨ ∃ i, i < m ∧ fr W D i = true ∧ wins l m (up W i) D false = true := by
  rw [wins_w, Bool.or_eq_true, List.any_eq_true]
  refine or_congr Iff.rfl ⟨?_, ?_⟩
  · rintro ⟨i, hi, h⟩
    rw [Bool.and_eq_true] at h
    exact ⟨i, List.mem_range.1 hi, h.1, h.2⟩
  · rintro ⟨i, hi, h1, h2⟩
    exact ⟨i, List.mem_range.2 hi, by rw [h1, h2]; rfl⟩
theorem wins_d_iff (l : List Int) (m : Nat) (W D : Nat → Bool) : wins l m W D false = true ↔ hasL l m W = true ∨ ((∃ i, i < m ∧ fr W D i = true) ∧ ∀ i, i < m → fr W D i = true → wins l m W (up D i) true = true) := by
  rw [wins_d, Bool.or_eq_true, Bool.and_eq_true, List.any_eq_true, List.all_eq_true]
  refine or_congr Iff.rfl (and_congr ⟨?_, ?_⟩ ⟨?_, ?_⟩)
  · rintro ⟨i, hi, h⟩; exact ⟨i, List.mem_range.1 hi, h⟩
  · rintro ⟨i, hi, h⟩; exact ⟨i, List.mem_range.2 hi, h⟩
  · intro h i hi hf
    have := h i (List.mem_range.2 hi)
    rw [hf] at this
    simpa using this
  · intro h i hi
    by_cases hf : fr W D i = true
    · rw [h i (List.mem_range.1 hi) hf]; simp
    · simp at hf; rw [hf]; rfl
theorem wins_mono_n (l : List Int) (m : Nat) : ∀ n (W D W' D' : Nat → Bool) (nx : Bool), cntF m W D ≤ n → Sub W W' → Sub D' D → wins l m W D nx = true → wins l m W' D' nx = true := by
  intro n
  induction n with
  | zero =>
    intro W D W' D' nx hn hW hD h
    have hno : ∀ i, i < m → fr W D i = true → False := fun i hi hf => by have := cnt_pos hi hf; omega
    have hl : hasL l m W = true := by
      cases nx
      · rcases (wins_d_iff l m W D).1 h with h | ⟨⟨i, hi, hf⟩, _⟩
        · exact h
        · exact (hno i hi hf).elim
      · rcases (wins_w_iff l m W D).1 h with h | ⟨i, hi, hf, _⟩
        · exact h
        · exact (hno i hi hf).elim
    cases nx
    · exact (wins_d_iff l m W' D').2 (.inl (hasL_sub hW hl))
    · exact (wins_w_iff l m W' D').2 (.inl (hasL_sub hW hl))
  | succ n ih =>
    intro W D W' D' nx hn hW hD h
    cases nx
    · rcases (wins_d_iff l m W D).1 h with h | ⟨⟨i, hi, hf⟩, hall⟩
      · exact (wins_d_iff l m W' D').2 (.inl (hasL_sub hW h))
      · have hgo : ∀ j, j < m → fr W D j = true → ∀ E, Sub E (up D j) → wins l m W' E true = true := fun j hj hfj E hE =>
          ih W (up D j) W' E true (by have := cnt_upD hj hfj; omega) hW hE (hall j hj hfj)
        by_cases hex : ∃ j, j < m ∧ fr W' D' j = true
        · refine (wins_d_iff l m W' D').2 (.inr ⟨hex, fun k hk hfk => ?_⟩)
          obtain ⟨hk1, hk2⟩ := (fr_iff W' D' k).1 hfk
          have hkW : W k = false := by
            cases e : W k with
            | false => rfl
            | true => rw [hW k e] at hk1; cases hk1
          cases e : D k with
          | true => exact hgo i hi hf _ ((hD.up_in e).trans (Sub.upr D i))
          | false => exact hgo k hk ((fr_iff W D k).2 ⟨hkW, e⟩) _ (hD.up k)
        · have hw := hgo i hi hf D' (hD.trans (Sub.upr D i))
          rcases (wins_w_iff l m W' D').1 hw with hw | ⟨j, hj, hfj, _⟩
          · exact (wins_d_iff l m W' D').2 (.inl hw)
          · exact (hex ⟨j, hj, hfj⟩).elim
    · rcases (wins_w_iff l m W D).1 h with h | ⟨i, hi, hf, hw⟩
      · exact (wins_w_iff l m W' D').2 (.inl (hasL_sub hW h))
      · have hc := cnt_upW hi hf
        obtain ⟨hi1, hi2⟩ := (fr_iff W D i).1 hf
        cases e : W' i with
        | false =>
          have hiD : D' i = false := by
            cases e' : D' i with
            | false => rfl
            | true => rw [hD i e'] at hi2; cases hi2
          exact (wins_w_iff l m W' D').2 (.inr ⟨i, hi, (fr_iff W' D' i).2 ⟨e, hiD⟩, ih (up W i) D (up W' i) D' false (by omega) (hW.up i) hD hw⟩)
        | true =>
          have hsub : Sub (up W i) W' := hW.up_in e
          rcases (wins_d_iff l m (up W i) D).1 hw with hw | ⟨⟨j, hj, hfj⟩, hall⟩
          · exact (wins_w_iff l m W' D').2 (.inl (hasL_sub hsub hw))
          · exact ih (up W i) (up D j) W' D' true (by have := cnt_upD hj hfj; omega) hsub (hD.trans (Sub.upr D j)) (hall j hj hfj)
theorem wins_mono {l : List Int} {m : Nat} {W D W' D' : Nat → Bool} {nx : Bool} (hW : Sub W W') (hD : Sub D' D) (h : wins l m W D nx = true) : wins l m W' D' nx = true :=
  wins_mono_n l m _ W D W' D' nx (Nat.le_refl _) hW hD h
theorem wins_tempo {l : List Int} {m : Nat} {W D : Nat → Bool} (h : wins l m W D false = true) : wins l m W D true = true := by
  rcases (wins_d_iff l m W D).1 h with h | ⟨⟨i, hi, hf⟩, hall⟩
  · exact (wins_w_iff l m W D).2 (.inl h)
  · exact wins_mono (Sub.refl W) (Sub.upr D i) (hall i hi hf)

/-! ### a position with a spot more -/
theorem bt_nums (xs : List Int) (j : Nat) (hj : j < xs.length) (h0 : 0 ≤ xs.getD j 0) (h1 : xs.getD j 0 < 256) : bt (strOfNums xs) j = xs.getD j 0 := by
  have hs : (strOfNums xs).size = xs.length := strOfNums_size xs
  have hg : xs.getD j 0 = xs[j] := by simp [List.getD_eq_getElem?_getD, List.getElem?_eq_getElem hj]
  rw [hg] at h0 h1 ⊢
  unfold bt
  have h : ((j : Int)).toNat < (strOfNums xs).size := by rw [hs]; simpa using hj
  rw [dif_pos h]
  have : (strOfNums xs)[((j : Int)).toNat]'h = UInt8.ofNat (xs[j]).toNat := by
    show (strOfNums xs).data[((j : Int)).toNat] = _
    simp [strOfNums]
  rw [this]
  simp
  omega
theorem bytes_getD (s : ByteArray) (j : Nat) : (bytesOf s).getD j 0 = bt s j := by
  have := rd_bytesOf s j
  unfold rd at this
  simpa using this
theorem placedS_size (s : ByteArray) (i c : Int) : (placedS s i c).size = s.size := by
  unfold placedS
  split <;> rw [strOfNums_size] <;> simp [bytesOf_length]
theorem placedS_bt (s : ByteArray) (i c : Int) (j : Nat) (hj : j < s.size) (h0 : 0 ≤ c) (h1 : c < 256) : bt (placedS s i c) j = if (j : Int) = i then c else bt s j := by
  have hb := bt_range s j
  unfold placedS
  by_cases hi : 0 ≤ i ∧ i < s.size
  · rw [if_pos hi]
    have hlen : j < ((bytesOf s).set i.toNat c).length := by simpa [bytesOf_length] using hj
    by_cases e : (j : Int) = i
    · have he : i.toNat = j := by omega
      rw [if_pos e, bt_nums _ _ hlen] <;> rw [he] <;> simp [List.getD_eq_getElem?_getD, bytesOf_length, hj] <;> omega
    · have he : i.toNat ≠ j := by omega
      have hg : ((bytesOf s).set i.toNat c).getD j 0 = bt s j := by
        rw [← bytes_getD]
        simp [List.getD_eq_getElem?_getD, List.getElem?_set_ne he]
      rw [if_neg e, bt_nums _ _ hlen] <;> rw [hg] <;> omega
  · rw [if_neg hi]
    have e : ¬ (j : Int) = i := by omega
    rw [if_neg e, bt_nums _ _ (by simpa [bytesOf_length] using hj)] <;> rw [bytes_getD] <;> omega
theorem okP_iff {m : Int} {l : List Int} {s : ByteArray} : okP m l s = 0 ↔ okF m l = 0 ∧ (s.size : Int) = m ∧ ∀ i, i < s.size → okC (bt s i) = true := by
  unfold okP
  constructor
  · intro h
    by_cases h1 : okF m l ≠ 0
    · rw [if_pos h1] at h; exact absurd h h1
    · rw [if_neg h1] at h
      by_cases h2 : (s.size : Int) ≠ m
      · rw [if_pos h2] at h; cases h
      · rw [if_neg h2] at h
        refine ⟨by simpa using h1, by simpa using h2, fun i hi => ?_⟩
        by_cases h3 : (List.range s.size).all (fun i => okC (bt s i)) = true
        · exact List.all_eq_true.1 h3 i (List.mem_range.2 hi)
        · rw [if_neg h3] at h; cases h
  · rintro ⟨h1, h2, h3⟩
    rw [if_neg (by simpa using h1), if_neg (by simpa using h2), if_pos (List.all_eq_true.2 fun i hi => h3 i (List.mem_range.1 hi))]
theorem okP_placed {m : Int} {l : List Int} {s : ByteArray} (h : okP m l s = 0) (i c : Int) (hc : okC c = true) (h0 : 0 ≤ c) (h1 : c < 256) : okP m l (placedS s i c) = 0 := by
  obtain ⟨hF, hm, ha⟩ := okP_iff.1 h
  refine okP_iff.2 ⟨hF, by rw [placedS_size]; exact hm, fun j hj => ?_⟩
  rw [placedS_size] at hj
  rw [placedS_bt s i c j hj h0 h1]
  split
  · exact hc
  · exact ha j hj
theorem okA_w {m : Int} {l : List Int} {s : ByteArray} (h : okP m l s = 0) : okA m l s sW = 0 := by
  unfold okA
  rw [if_neg (by simpa using h), if_pos (by decide +kernel)]
theorem okA_d {m : Int} {l : List Int} {s : ByteArray} (h : okP m l s = 0) : okA m l s sD = 0 := by
  unfold okA
  rw [if_neg (by simpa using h), if_neg (by decide +kernel), if_pos (by decide +kernel)]
theorem okA_let {m : Int} {l : List Int} {s : ByteArray} (h : okP m l s = 0) (b : Bool) : okA m l s (letS b) = 0 := by
  cases b
  · exact okA_d h
  · exact okA_w h
theorem nxW_let (b : Bool) : nxW (letS b) = some b := by cases b <;> decide +kernel
theorem winner_let {m : Int} {l : List Int} {s : ByteArray} (h : okP m l s = 0) (b : Bool) : ambush_Winner.f m l s (letS b) = some (letS (winS l s b), 0) := by
  unfold ambush_Winner.f
  rw [if_pos (okA_let h b), nxW_let]
  rfl
theorem winS_placed {l : List Int} {s : ByteArray} {i : Int} {nx : Bool} (h : winS l s nx = true) : winS l (placedS s i 119) nx = true := by
  unfold winS at h ⊢
  rw [placedS_size]
  refine wins_mono ?_ ?_ h
  · intro j hj
    rw [msk_tb] at hj ⊢
    simp only [Bool.and_eq_true, decide_eq_true_eq] at hj ⊢
    refine ⟨hj.1, ?_⟩
    rw [placedS_bt s i 119 j hj.1 (by decide) (by decide)]
    split
    · rfl
    · exact hj.2
  · intro j hj
    rw [msk_tb] at hj ⊢
    simp only [Bool.and_eq_true, decide_eq_true_eq] at hj ⊢
    refine ⟨hj.1, ?_⟩
    have := hj.2
    rw [placedS_bt s i 119 j hj.1 (by decide) (by decide)] at this
    split at this
    · cases this
    · exact this
theorem winS_tempo {l : List Int} {s : ByteArray} (h : winS l s false = true) : winS l s true = true := wins_tempo h

/-- The free spots below i. -/
def freeC (s : ByteArray) : Nat → Nat
  | 0 => 0
  | i + 1 => if bt s i = 46 then freeC s i + 1 else freeC s i
theorem freeC_le (s : ByteArray) : ∀ i, freeC s i ≤ i
  | 0 => Nat.le_refl _
  | i + 1 => by
    have := freeC_le s i
    rw [freeC]; split <;> omega
end Go.Proofs.Ytbjpjjokamaliaa.A

/- Positions that are written: what a spot more does to the sets and to the number of free spots. -/
namespace Go.Proofs.Ytbjpjjokamaliaa.A
open Go.RowKit Go.Proofs.YtbjpjjokamaliaaW.PrintWords Go.Proofs.YtbjpjjokamaliaaW.PrintMore

theorem msk_apart (s : ByteArray) (n k : Nat) (h : (msk 119 s n).testBit k = true) : (msk 100 s n).testBit k = false := by
  rw [msk_tb] at h ⊢
  simp only [Bool.and_eq_true, decide_eq_true_eq] at h
  simp [h.2]
theorem fr_bt {m : Int} {l : List Int} {s : ByteArray} (h : okP m l s = 0) {i : Nat} (hi : i < s.size) : fr (msk 119 s s.size).testBit (msk 100 s s.size).testBit i = true ↔ bt s i = 46 := by
  have ho := (okP_iff.1 h).2.2 i hi
  rw [fr_iff, msk_tb, msk_tb]
  simp only [hi, decide_true, Bool.true_and, decide_eq_false_iff_not]
  constructor
  · rintro ⟨h1, h2⟩
    simp [okC, h1, h2] at ho
    exact ho
  · intro e
    rw [e]; exact ⟨by decide, by decide⟩
theorem msk_put {s : ByteArray} {i : Nat} {c : Int} (hi : i < s.size) (h0 : 0 ≤ c) (h1 : c < 256) : msk c (placedS s i c) s.size = msk c s s.size ||| 2 ^ i := by
  refine Nat.eq_of_testBit_eq fun k => ?_
  rw [Nat.testBit_or, tb_two, msk_tb, msk_tb]
  by_cases hk : k < s.size
  · rw [placedS_bt s i c k hk h0 h1]
    by_cases e : k = i
    · subst e; simp [hk]
    · have e' : ¬ (k : Int) = i := by omega
      rw [if_neg e']
      simp [hk, e]
  · have e : k ≠ i := by omega
    simp [hk, e]
theorem msk_keep {s : ByteArray} {i : Nat} {c c' : Int} (hi : i < s.size) (h46 : bt s i = 46) (h0 : 0 ≤ c) (h1 : c < 256) (hc : c' ≠ 46) (hcc : c ≠ c') : msk c' (placedS s i c) s.size = msk c' s s.size := by
  refine Nat.eq_of_testBit_eq fun k => ?_
  rw [msk_tb, msk_tb]
  by_cases hk : k < s.size
  · rw [placedS_bt s i c k hk h0 h1]
    by_cases e : k = i
    · subst e
      rw [if_pos rfl, h46]
      simp [hcc, Ne.symm hc]
    · have e' : ¬ (k : Int) = i := by omega
      rw [if_neg e']
  · simp [hk]
theorem freeC_placed {s : ByteArray} {i : Nat} {c : Int} (hi : i < s.size) (h46 : bt s i = 46) (h0 : 0 ≤ c) (h1 : c < 256) (hc : c ≠ 46) : ∀ k, k ≤ s.size → freeC (placedS s i c) k + (if i < k then 1 else 0) = freeC s k
  | 0, _ => by simp [freeC]
  | k + 1, hk => by
    have ih := freeC_placed hi h46 h0 h1 hc k (by omega)
    rw [freeC, freeC, placedS_bt s i c k (by omega) h0 h1]
    by_cases e : k = i
    · subst e
      rw [if_pos rfl, if_neg hc, if_pos h46, if_pos (by omega)]
      rw [if_neg (by omega)] at ih
      omega
    · have e' : ¬ (k : Int) = i := by omega
      rw [if_neg e']
      have e2 : (if i < k + 1 then 1 else 0) = if i < k then 1 else 0 := by
        by_cases q : i < k
        · rw [if_pos q, if_pos (by omega)]
        · rw [if_neg q, if_neg (by omega)]
      rw [e2]
      by_cases e46 : bt s k = 46
      · rw [if_pos e46, if_pos e46]; omega
      · rw [if_neg e46, if_neg e46]; exact ih
theorem freeC_pos {s : ByteArray} : ∀ k, 0 < freeC s k → ∃ i, i < k ∧ bt s i = 46
  | 0, h => by simp [freeC] at h
  | k + 1, h => by
    rw [freeC] at h
    split at h
    · rename_i e; exact ⟨k, by omega, e⟩
    · obtain ⟨i, hi, e⟩ := freeC_pos k h
      exact ⟨i, by omega, e⟩
theorem freeC_mono {s : ByteArray} {i : Nat} : ∀ j, freeC s i ≤ freeC s (i + j)
  | 0 => Nat.le_refl _
  | j + 1 => by
    have := freeC_mono (s := s) (i := i) j
    rw [← Nat.add_assoc, freeC]
    split <;> omega
end Go.Proofs.Ytbjpjjokamaliaa.A

/- What few, Field, Written, free and chosen compute (plain). -/
namespace Go.Proofs.Ytbjpjjokamaliaa.B
open Go.Proofs.Ytbjpjjokamaliaa.A
open Go.RowKit Go.Proofs.YtbjpjjokamaliaaW.PrintWords Go.Proofs.YtbjpjjokamaliaaW.PrintLast

theorem few_eq (l : List Int) (s t : ByteArray) : drovewaylaw04_few.f l s t = some (decide ((l.length : Int) ≤ 40 ∧ (s.size : Int) ≤ 40 ∧ (t.size : Int) ≤ 40)) := by
  unfold drovewaylaw04_few.f
  by_cases h1 : (l.length : Int) ≤ 40
  · by_cases h2 : (s.size : Int) ≤ 40
    · rw [if_pos h1, if_pos h2]; simp [h1, h2]
    · rw [if_pos h1, if_neg h2]; simp [h2]
  · rw [if_neg h1]; simp [h1]
theorem shl_two {m : Nat} (h1 : 1 ≤ m) (h9 : m ≤ 9) : shl .i64 1 (m : Int) = 2 ^ m := by
  have : ∀ m : Nat, m < 10 → shl .i64 1 (m : Int) = (2 : Int) ^ m := by decide +kernel
  exact this m (by omega)
def bad (m : Nat) (x : Int) : Bool := decide (x < 1) || decide (2 ^ m ≤ x)
theorem Field_l0 {m : Nat} (h1 : 1 ≤ m) (h9 : m ≤ 9) (l : List Int) (h12 : l.length ≤ 12) : ∀ n i, l.length - i = n → i ≤ l.length →
    Ev (fun k => drovewayref04_Field.l0 k m l (i : Int)) (if ((l.drop i).any (bad m)) = true then 2 else 0) := by
  intro n
  induction n with
  | zero =>
    intro i hn hi
    have e : l.drop i = [] := List.drop_eq_nil_of_le (by omega)
    rw [e]
    refine Ev.step (f := fun _ => some 0) (fun k => ?_) (Ev.now _)
    rw [drovewayref04_Field.l0, if_neg (by omega)]
  | succ n ih =>
    intro i hn hi
    have hlt : i < l.length := by omega
    have ed : l.drop i = l[i] :: l.drop (i + 1) := List.drop_eq_getElem_cons hlt
    have er : rd l (i : Int) = l[i] := by simp [rd, List.getD_eq_getElem?_getD, hlt]
    have ew : wrap64 ((i : Int) + 1) = ((i + 1 : Nat) : Int) := by rw [wrap64_id] <;> omega
    rw [ed]
    have ih' := ih (i + 1) (by omega) (by omega)
    clear ed ih
    generalize l.drop (i + 1) = t at *
    have hun : ∀ k, drovewayref04_Field.l0 (k + 1) m l (i : Int) = if l[i] < 1 then some 2 else if l[i] ≥ 2 ^ m then some 2 else drovewayref04_Field.l0 k m l ((i + 1 : Nat) : Int) := by
      intro k
      rw [drovewayref04_Field.l0, if_pos (by omega), if_pos (by omega), er, shl_two h1 h9, ew, if_pos (show (0 : Int) ≤ m by omega)]
    by_cases b1 : l[i] < 1
    · refine Ev.step (f := fun _ => some 2) (fun k => by rw [hun, if_pos b1]) ?_
      have : ((l[i] :: t).any (bad m)) = true := by simp [List.any_cons, bad, b1]
      rw [if_pos this]
      exact Ev.now _
    · by_cases b2 : l[i] ≥ 2 ^ m
      · refine Ev.step (f := fun _ => some 2) (fun k => by rw [hun, if_neg b1, if_pos b2]) ?_
        have : ((l[i] :: t).any (bad m)) = true := by
          have b2' : 2 ^ m ≤ l[i] := b2
          simp [List.any_cons, bad, b2']
        rw [if_pos this]
        exact Ev.now _
      · refine Ev.step (fun k => by rw [hun, if_neg b1, if_neg b2]) ?_
        have : ((l[i] :: t).any (bad m)) = (t.any (bad m)) := by
          have b2' : ¬ 2 ^ m ≤ l[i] := b2
          simp [List.any_cons, bad, b1, b2']
        rw [this]
        exact ih'
theorem Field_ev (m : Int) (l : List Int) : Ev (fun k => drovewayref04_Field.f k m l) (okF m l) := by
  by_cases h1 : m < 1 ∨ 9 < m
  · have : okF m l = 2 := by unfold okF; rw [if_pos h1]
    rw [this]
    refine Ev.congr (f := fun k => drovewayref04_Field.j0 k m l true) (fun k => ?_) (Ev.step (f := fun _ => some 2) (fun k => ?_) (Ev.now _))
    · unfold drovewayref04_Field.f
      by_cases h : m < 1
      · rw [if_pos h]
      · rw [if_neg h]
        have : m > 9 := by omega
        simp [this]
    · rw [drovewayref04_Field.j0, if_pos rfl]
  · have hc : Ev (fun k => drovewayref04_Field.j0 k m l false) (okF m l) := by
      by_cases h12 : 12 < l.length
      · have : okF m l = 3 := by unfold okF; rw [if_neg h1, if_pos h12]
        rw [this]
        refine Ev.step (f := fun _ => some 3) (fun k => ?_) (Ev.now _)
        rw [drovewayref04_Field.j0, if_neg (by decide), if_pos (by omega)]
      · obtain ⟨n, rfl⟩ : ∃ n : Nat, m = n := ⟨m.toNat, by omega⟩
        have hb := Field_l0 (m := n) (by omega) (by omega) l (by omega) _ 0 rfl (by omega)
        have : okF (n : Int) l = if ((l.drop 0).any (bad n)) = true then 2 else 0 := by unfold okF; rw [if_neg h1, if_neg h12]; rfl
        rw [this]
        refine Ev.step (fun k => ?_) hb
        rw [drovewayref04_Field.j0, if_neg (by decide), if_neg (by omega)]
        rfl
    refine Ev.congr (fun k => ?_) hc
    unfold drovewayref04_Field.f
    rw [if_neg (by omega)]
    have : ¬ m > 9 := by omega
    simp [this]
theorem free_l0 (s : ByteArray) (hs : s.size ≤ 140737488351232) : ∀ n i, s.size - i = n → i ≤ s.size →
    Ev (fun k => drovewaylaw04_free.l0 k s (freeC s i) (i : Int)) (freeC s s.size : Int) := by
  intro n
  induction n with
  | zero =>
    intro i hn hi
    have e : i = s.size := by omega
    subst e
    refine Ev.step (f := fun _ => some _) (fun k => ?_) (Ev.now _)
    rw [drovewaylaw04_free.l0, if_neg (by omega)]
  | succ n ih =>
    intro i hn hi
    have hl := freeC_le s i
    have ew : wrap64 ((i : Int) + 1) = ((i + 1 : Nat) : Int) := by rw [wrap64_id] <;> omega
    have ih' := ih (i + 1) (by omega) (by omega)
    by_cases e1 : bt s i = 46
    · have : freeC s (i + 1) = freeC s i + 1 := by rw [freeC, if_pos e1]
      have ew2 : wrap64 ((freeC s i : Int) + 1) = ((freeC s i + 1 : Nat) : Int) := by rw [wrap64_id] <;> omega
      rw [this] at ih'
      refine Ev.step (fun k => ?_) ih'
      rw [drovewaylaw04_free.l0, if_pos (by omega), if_pos (by omega), if_pos e1, ew, ew2]
    · have : freeC s (i + 1) = freeC s i := by rw [freeC, if_neg e1]
      rw [this] at ih'
      refine Ev.step (fun k => ?_) ih'
      rw [drovewaylaw04_free.l0, if_pos (by omega), if_pos (by omega), if_neg e1, ew]
theorem free_ev (s : ByteArray) (hs : s.size ≤ 140737488351232) : Ev (fun k => drovewaylaw04_free.f k s) (freeC s s.size : Int) := free_l0 s hs _ 0 rfl (Nat.zero_le _)
/-- How many of the first k spots. -/
def popB (y : Nat) : Nat → Nat
  | 0 => 0
  | k + 1 => popB y k + (if y.testBit k = true then 1 else 0)
theorem popB_le (y : Nat) : ∀ k, popB y k ≤ k
  | 0 => Nat.le_refl _
  | k + 1 => by
    have := popB_le y k
    rw [popB]; split <;> omega
theorem popB_table : (List.range 10).all (fun m => (List.range 512).all fun y => decide (2 ^ m ≤ y) || decide (popB y m = pop 9 y)) = true := by decide +kernel
theorem popB_eq {m y : Nat} (hm : m ≤ 9) (hy : y < 2 ^ m) : popB y m = pop 9 y := by
  have h1 := List.all_eq_true.1 popB_table m (List.mem_range.2 (by omega))
  have h2 : y < 512 := Nat.lt_of_lt_of_le hy (Nat.pow_le_pow_right (show 0 < 2 by decide) hm)
  have h3 := List.all_eq_true.1 h1 y (List.mem_range.2 h2)
  simp at h3
  omega
theorem shr_bit (y k : Nat) (hk : k ≤ 9) : Int.tmod (shr .i64 (y : Int) (k : Int)) 2 = if y.testBit k = true then 1 else 0 := by
  have e : shr .i64 (y : Int) (k : Int) = ((y / 2 ^ k : Nat) : Int) := by
    unfold shr
    have : min ((k : Int)).toNat IntKind.i64.bits = k := by
      have : IntKind.i64.bits = 64 := rfl
      omega
    rw [this]
    simp
  rw [e, Nat.testBit_eq_decide_div_mod_eq]
  have h : Int.tmod ((y / 2 ^ k : Nat) : Int) 2 = ((y / 2 ^ k % 2 : Nat) : Int) := by
    rw [Int.tmod_eq_emod_of_nonneg (Int.natCast_nonneg _)]; rfl
  rw [h]
  by_cases q : y / 2 ^ k % 2 = 1
  · rw [if_pos (by simpa using q), q]; rfl
  · rw [if_neg (by simpa using q)]
    have : y / 2 ^ k % 2 = 0 := by omega
    rw [this]; rfl
/-- The letter of a spot. -/
def letAt (w d j : Nat) : Int := if w.testBit j = true then 119 else if d.testBit j = true then 100 else 46
theorem Written_l0 {m w d : Nat} (h9 : m ≤ 9) : ∀ n i (xs : List Int), m - i = n → i ≤ m → xs.length = m → (∀ j, j < i → xs.getD j 0 = letAt w d j) →
    ∃ ys : List Int, ys.length = m ∧ (∀ j, j < m → ys.getD j 0 = letAt w d j) ∧ Ev (fun k => drovewayref04_Written.l0 k m w d xs (i : Int)) (strOfNums ys) := by
  intro n
  induction n with
  | zero =>
    intro i xs hn hi hlen hx
    have e : i = m := by omega
    subst e
    refine ⟨xs, hlen, hx, Ev.step (f := fun _ => some (strOfNums xs)) (fun k => ?_) (Ev.now _)⟩
    rw [drovewayref04_Written.l0, if_neg (by omega)]
  | succ n ih =>
    intro i xs hn hi hlen hx
    have ew : wrap64 ((i : Int) + 1) = ((i + 1 : Nat) : Int) := by rw [wrap64_id] <;> omega
    have g1 : (i : Int) < (m : Int) := by omega
    have g2 : (0 : Int) ≤ (i : Int) := by omega
    have g3 : (i : Int) < (xs.length : Int) := by omega
    have e1 := shr_bit w i (by omega)
    have e2 := shr_bit d i (by omega)
    have hset : ∀ (c : Int), letAt w d i = c → ∀ zs : List Int, zs.length = m → (∀ j, j < i → zs.getD j 0 = xs.getD j 0) → zs.getD i 0 = c → ∀ j, j < i + 1 → zs.getD j 0 = letAt w d j := by
      intro c hc zs hz hb he j hj
      by_cases q : j = i
      · subst q; rw [he, hc]
      · rw [hb j (by omega), hx j (by omega)]
    have hg : ∀ (zs : List Int) (c : Int) (j : Nat), j < i → (zs.set i c).getD j 0 = zs.getD j 0 := by
      intro zs c j hj
      simp [List.getD_eq_getElem?_getD, List.getElem?_set_ne (show i ≠ j by omega)]
    have hh : ∀ (zs : List Int) (c : Int), zs.length = m → (zs.set i c).getD i 0 = c := by
      intro zs c hz
      simp [List.getD_eq_getElem?_getD, show i < zs.length by omega]
    by_cases b1 : w.testBit i = true
    · rw [if_pos b1] at e1
      obtain ⟨ys, hy, hc, he⟩ := ih (i + 1) ((xs.set i 46).set i 119) (by omega) (by omega) (by simp [hlen]) (hset 119 (by rw [letAt, if_pos b1]) _ (by simp [hlen]) (fun j hj => by rw [hg _ _ j hj, hg _ _ j hj]) (hh _ _ (by simp [hlen])))
      refine ⟨ys, hy, hc, Ev.step (fun k => ?_) he⟩
      rw [drovewayref04_Written.l0, if_pos g1, if_pos g2, if_pos g3]
      simp only [Option.bind_some, Int.toNat_natCast]
      rw [e1, if_pos rfl, ew]
    · rw [if_neg b1] at e1
      by_cases b2 : d.testBit i = true
      · rw [if_pos b2] at e2
        obtain ⟨ys, hy, hc, he⟩ := ih (i + 1) ((xs.set i 46).set i 100) (by omega) (by omega) (by simp [hlen]) (hset 100 (by rw [letAt, if_neg b1, if_pos b2]) _ (by simp [hlen]) (fun j hj => by rw [hg _ _ j hj, hg _ _ j hj]) (hh _ _ (by simp [hlen])))
        refine ⟨ys, hy, hc, Ev.step (fun k => ?_) he⟩
        rw [drovewayref04_Written.l0, if_pos g1, if_pos g2, if_pos g3]
        simp only [Option.bind_some, Int.toNat_natCast]
        rw [e1, if_neg (by decide), e2, if_pos rfl, ew]
      · rw [if_neg b2] at e2
        obtain ⟨ys, hy, hc, he⟩ := ih (i + 1) (xs.set i 46) (by omega) (by omega) (by simp [hlen]) (hset 46 (by rw [letAt, if_neg b1, if_neg b2]) _ (by simp [hlen]) (fun j hj => by rw [hg _ _ j hj]) (hh _ _ hlen))
        refine ⟨ys, hy, hc, Ev.step (fun k => ?_) he⟩
        rw [drovewayref04_Written.l0, if_pos g1, if_pos g2, if_pos g3]
        simp only [Option.bind_some, Int.toNat_natCast]
        rw [e1, if_neg (by decide), e2, if_neg (by decide), ew]
theorem letAt_range (w d j : Nat) : 0 ≤ letAt w d j ∧ letAt w d j < 256 ∧ okC (letAt w d j) = true := by
  unfold letAt
  split
  · exact ⟨by decide, by decide, rfl⟩
  · split
    · exact ⟨by decide, by decide, rfl⟩
    · exact ⟨by decide, by decide, rfl⟩
theorem Written_ev {m w d : Nat} (h9 : m ≤ 9) : ∃ t : ByteArray, t.size = m ∧ (∀ j : Nat, j < m → bt t j = letAt w d j) ∧ Ev (fun k => drovewayref04_Written.f k m w d) t := by
  obtain ⟨ys, hy, hc, he⟩ := Written_l0 (w := w) (d := d) h9 _ 0 (List.replicate m 0) rfl (Nat.zero_le _) (by simp) (fun j hj => by omega)
  refine ⟨strOfNums ys, by rw [strOfNums_size]; exact hy, fun j hj => ?_, ?_⟩
  · have hr := letAt_range w d j
    rw [bt_nums ys j (by omega) (by rw [hc j hj]; exact hr.1) (by rw [hc j hj]; exact hr.2.1), hc j hj]
  · refine Ev.congr (fun k => ?_) he
    unfold drovewayref04_Written.f
    rw [if_pos (by omega), if_pos (by omega)]
    rfl
set_option linter.unusedVariables false in
theorem Written_msk {m w d : Nat} {t : ByteArray} (hs : t.size = m) (hb : ∀ j : Nat, j < m → bt t j = letAt w d j) (hw : w < 2 ^ m) : msk 119 t m = w := by
  refine Nat.eq_of_testBit_eq fun k => ?_
  rw [msk_tb]
  by_cases hk : k < m
  · rw [hb k hk]
    unfold letAt
    by_cases q : w.testBit k = true
    · rw [if_pos q, q]; simp [hk]
    · rw [if_neg q]
      have : w.testBit k = false := by simpa using q
      rw [this]
      by_cases q2 : d.testBit k = true
      · rw [if_pos q2]; simp
      · rw [if_neg q2]; simp
  · rw [tb_big hw (by omega)]; simp [hk]
set_option linter.unusedVariables false in
theorem Written_mskd {m w d : Nat} {t : ByteArray} (hs : t.size = m) (hb : ∀ j : Nat, j < m → bt t j = letAt w d j) (hd : d < 2 ^ m) (hA : ∀ k, d.testBit k = true → w.testBit k = false) : msk 100 t m = d := by
  refine Nat.eq_of_testBit_eq fun k => ?_
  rw [msk_tb]
  by_cases hk : k < m
  · rw [hb k hk]
    unfold letAt
    by_cases q : d.testBit k = true
    · rw [if_neg (by rw [hA k q]; decide), if_pos q, q]; simp [hk]
    · have : d.testBit k = false := by simpa using q
      rw [this]
      by_cases q2 : w.testBit k = true
      · rw [if_pos q2]; simp
      · rw [if_neg q2, if_neg (by decide)]; simp
  · rw [tb_big hd (by omega)]; simp [hk]
theorem Written_ok {m w d : Nat} {l : List Int} {t : ByteArray} (hF : okF m l = 0) (hs : t.size = m) (hb : ∀ j : Nat, j < m → bt t j = letAt w d j) : okP m l t = 0 :=
  okP_iff.2 ⟨hF, by rw [hs], fun i hi => by rw [hb i (by omega)]; exact (letAt_range w d i).2.2⟩
theorem Written_free {m w : Nat} {t : ByteArray} (hb : ∀ j : Nat, j < m → bt t j = letAt w 0 j) : ∀ k, k ≤ m → freeC t k + popB w k = k
  | 0, _ => rfl
  | k + 1, hk => by
    have ih := Written_free hb k (by omega)
    rw [freeC, popB, hb k (by omega)]
    unfold letAt
    by_cases q : w.testBit k = true
    · rw [if_pos q, if_pos q, if_neg (by decide)]; omega
    · rw [if_neg q, if_neg q, Nat.zero_testBit]
      have e : (if (false = true) then (100 : Int) else 46) = 46 := by decide
      rw [e, if_pos rfl]; omega
theorem chosen_l0 (s : ByteArray) (hs : s.size ≤ 140737488351232) : ∀ n i (b : Int), s.size - i = n → i ≤ s.size → 0 ≤ b → (freeC s i : Int) + b < freeC s s.size →
    ∃ j : Nat, j < s.size ∧ bt s j = 46 ∧ Ev (fun k => drovewaylaw04_chosen.l0 k s b (i : Int)) (j : Int) := by
  intro n
  induction n with
  | zero =>
    intro i b hn hi h0 hb
    have e : i = s.size := by omega
    subst e
    omega
  | succ n ih =>
    intro i b hn hi h0 hb
    have ew : wrap64 ((i : Int) + 1) = ((i + 1 : Nat) : Int) := by rw [wrap64_id] <;> omega
    have hle := freeC_le s s.size
    by_cases e1 : bt s i = 46
    · by_cases eb : b = 0
      · refine ⟨i, by omega, e1, Ev.step (f := fun _ => some (i : Int)) (fun k => ?_) (Ev.now _)⟩
        rw [drovewaylaw04_chosen.l0, if_pos (by omega), if_pos (by omega), if_pos e1, if_pos eb]
      · have hf : freeC s (i + 1) = freeC s i + 1 := by rw [freeC, if_pos e1]
        have ew2 : wrap64 (b - 1) = b - 1 := by rw [wrap64_id] <;> omega
        obtain ⟨j, hj, e, h⟩ := ih (i + 1) (b - 1) (by omega) (by omega) (by omega) (by omega)
        refine ⟨j, hj, e, Ev.step (fun k => ?_) h⟩
        rw [drovewaylaw04_chosen.l0, if_pos (by omega), if_pos (by omega), if_pos e1, if_neg eb, ew, ew2]
    · have hf : freeC s (i + 1) = freeC s i := by rw [freeC, if_neg e1]
      obtain ⟨j, hj, e, h⟩ := ih (i + 1) b (by omega) (by omega) h0 (by omega)
      refine ⟨j, hj, e, Ev.step (fun k => ?_) h⟩
      rw [drovewaylaw04_chosen.l0, if_pos (by omega), if_pos (by omega), if_neg e1, ew]
theorem chosen_ev (s : ByteArray) (hs : s.size ≤ 140737488351232) (b : Int) (hb : 0 ≤ b) (hf : 0 < freeC s s.size) :
    ∃ j : Nat, j < s.size ∧ bt s j = 46 ∧ Ev (fun k => drovewaylaw04_chosen.f k s b) (j : Int) := by
  have hm : Int.tmod b (freeC s s.size) = b % (freeC s s.size) := Int.tmod_eq_emod_of_nonneg hb
  have h1 : 0 ≤ b % (freeC s s.size : Int) := Int.emod_nonneg _ (by omega)
  have h2 : b % (freeC s s.size : Int) < freeC s s.size := Int.emod_lt_of_pos _ (by omega)
  obtain ⟨j, hj, e, h⟩ := chosen_l0 s hs _ 0 (b % (freeC s s.size : Int)) rfl (Nat.zero_le _) h1 (by simp only [freeC]; omega)
  refine ⟨j, hj, e, ?_⟩
  refine Ev.bind (f := fun k t134 => if t134 = 0 then (some (-1)) else (drovewaylaw04_chosen.l0 k s (Int.tmod b t134) 0)) (free_ev s hs) ?_
  refine Ev.congr (fun k => ?_) h
  rw [if_neg (by omega), hm]
  rfl
end Go.Proofs.Ytbjpjjokamaliaa.B

/- set and met, as they are called. -/
namespace Go.Proofs.Ytbjpjjokamaliaa.A
open Go.RowKit Go.Proofs.YtbjpjjokamaliaaW.PrintWords Go.Proofs.YtbjpjjokamaliaaW.PrintMore

def ambush_set.f (a b : Int) : Option Int := if (0 ≤ a ∧ a < 9) ∧ 0 ≤ b ∧ b < 9 then some (setN ⟨a, b⟩ : Int) else none
theorem ambush_set.calls (a b : Int) (r : Int) (w : World) (h : ambush_set.f a b = some r) :
    Calls Try.prog 50 #[.agg #[.int .i64 a, .int .i64 b]] w fun e w' => e = .returned (.int .i64 r) ∧ Below w.heap.size w w' := by
  unfold ambush_set.f at h
  split at h
  · rename_i hc
    cases h
    exact set_calls 9 (Nat.le_refl _) ⟨a, b⟩ ⟨hc.1.1, hc.1.2, hc.2.1, hc.2.2⟩ w
  · cases h
def okQ (m : Nat) (q : S59) : Bool := decide (0 ≤ q.f0) && decide (q.f0 < m) && decide (0 ≤ q.f1) && decide (q.f1 < m)
theorem okQ_iff {m : Nat} {q : S59} : okQ m q = true ↔ okPr m q := by
  unfold okQ okPr
  simp [and_assoc]
def ambush_field_met.f (m : Int) (l : List Int) (ps : List S59) : Option Bool := if okF m l = 0 ∧ ps.all (okQ m.toNat) = true then some (metB l ps) else none
theorem ambush_field_met.calls (m : Int) (A : Option Addr) (c : Nat) (l : List Int) (A1 : Option Addr) (c1 : Nat) (ps : List S59) (r : Bool) (w : World) (hr : Kd.C (Kd.int .i64) w A l.length l) (_hc : l.length ≤ c) (hr1 : Kd.C k59 w A1 ps.length ps) (_hc1 : ps.length ≤ c1) (h : ambush_field_met.f m l ps = some r) :
    Calls Try.prog 49 #[.agg #[.int .i64 m, .slice A l.length c], .slice A1 ps.length c1] w fun e w' => e = .returned (.bool r) ∧ Below w.heap.size w w' := by
  unfold ambush_field_met.f at h
  split at h
  · rename_i hc
    cases h
    have h1 := okF_m hc.1
    obtain ⟨n, rfl⟩ : ∃ n : Nat, m = n := ⟨m.toNat, by omega⟩
    exact met_calls n (by omega) l (okF_L hc.1) A _ c A1 _ c1 ps (fun q hq => okQ_iff.1 (List.all_eq_true.1 hc.2 q hq)) w hr hr1
  · cases h
end Go.Proofs.Ytbjpjjokamaliaa.A
