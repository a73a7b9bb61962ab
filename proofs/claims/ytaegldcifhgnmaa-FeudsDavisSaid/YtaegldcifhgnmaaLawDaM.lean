/- FeudsDavis holds: its code returns true and leaves what it was given as it was. Conditions: those of the given statement, none besides. -/
import Derived.Test.YtaegldcifhgnmaaZDa3
import Derived.Deep.Slices
import Derived.ChangeSame
import Derived.Test.YtaegldcifhgnmaaRows
import Derived.WalkKit
import Derived.ProofKit
import Derived.OpenShut
import Derived.ShutString
import Derived.ChangeOld
import Derived.Below
import Derived.SizedLaws
import Derived.Test.YtaegldcifhgnmaaWSized
-- Printed by hprint.py (this claim's own program, over the kit's print.py) out of the translation and contracts by hand. Not trusted: Lean checks it.
namespace Go.Proofs.Ytaegldcifhgnmaa.PFeudsDavis
open Go.Proofs.Ytaegldcifhgnmaa.A Go.Proofs.Ytaegldcifhgnmaa.B
open Go.RowKit Go.Proofs.YtaegldcifhgnmaaW.PrintWords Go.Proofs.YtaegldcifhgnmaaW.PrintLast Go.Proofs.YtaegldcifhgnmaaW.PrintMore
attribute [local go_sem] max2_int min2_int max_two min_two max_three min_three max_four min_four   -- for this text's walks alone
set_option linter.unusedVariables false
set_option linter.unusedSimpArgs false

-- by hand: function 16 (drovewaylaw09_few)

-- by hand: function 17 (drovewaylaw09_alive)

-- by hand: function 24 (drovewayref09_Ties)

-- by hand: function 26 (feuds_Clans)

-- by hand: function 28 (feuds_Spoilt)

-- by hand: function 39 (feuds_IsRing)

-- by hand: function 41 (drovewayref09_Less)

/-! ### drovewaylaw09_FeudsDavis: function 10 -/
mutual
def drovewaylaw09_FeudsDavis.j0 : Nat → Int → List (S39) → List Int → Bool → Option (Bool)
  | 0, _, _, _, _ => none
  | k + 1, x0, x1, x2, x23 => if x23 = true then ((drovewaylaw09_alive.f).bind fun t103 => (some t103)) else ((feuds_Clans.f x0 x1).bind fun bt104 => ((feuds_Spoilt.f x0 x1).bind fun bt108 => (if ((bt104.2 == 0) == (bt108.2 == 0)) = true then (drovewaylaw09_FeudsDavis.j1 k x0 x1 x2 bt108.1 bt108.2 true) else (if bt104.2 = 0 then (if bt108.2 = 0 then (drovewaylaw09_FeudsDavis.j1 k x0 x1 x2 bt108.1 bt108.2 ((decide ((bt104.1.length : Int) > 0)) != (bt104.2 == 0))) else (if bt108.2 = 10 then (drovewaylaw09_FeudsDavis.j1 k x0 x1 x2 bt108.1 bt108.2 ((decide ((bt104.1.length : Int) > 0)) != (bt104.2 == 0))) else (drovewaylaw09_FeudsDavis.j1 k x0 x1 x2 bt108.1 bt108.2 true))) else (if bt104.2 = 10 then (if bt108.2 = 0 then (drovewaylaw09_FeudsDavis.j1 k x0 x1 x2 bt108.1 bt108.2 ((decide ((bt104.1.length : Int) > 0)) != (bt104.2 == 0))) else (if bt108.2 = 10 then (drovewaylaw09_FeudsDavis.j1 k x0 x1 x2 bt108.1 bt108.2 ((decide ((bt104.1.length : Int) > 0)) != (bt104.2 == 0))) else (drovewaylaw09_FeudsDavis.j1 k x0 x1 x2 bt108.1 bt108.2 true))) else (drovewaylaw09_FeudsDavis.j1 k x0 x1 x2 bt108.1 bt108.2 true))))))
def drovewaylaw09_FeudsDavis.j1 : Nat → Int → List (S39) → List Int → List Int → Int → Bool → Option (Bool)
  | 0, _, _, _, _, _, _ => none
  | k + 1, x0, x1, x2, x9, x10, x65 => if x65 = true then (some false) else ((feuds_IsRing.f x0 x1 x2).bind fun bt112 => (if bt112.2.2 = 0 then (if bt112.2.1 = true then (if bt112.1 = 1 then (if x10 = 0 then (if (x2.length : Int) < (x9.length : Int) then (drovewaylaw09_FeudsDavis.j2 k x0 x1 x9 x10 true) else (if (x2.length : Int) = (x9.length : Int) then ((drovewayref09_Less.f k x2 x9).bind fun t115 => (drovewaylaw09_FeudsDavis.j2 k x0 x1 x9 x10 t115)) else (drovewaylaw09_FeudsDavis.j2 k x0 x1 x9 x10 false))) else (drovewaylaw09_FeudsDavis.j2 k x0 x1 x9 x10 true)) else (drovewaylaw09_FeudsDavis.j2 k x0 x1 x9 x10 false)) else (drovewaylaw09_FeudsDavis.j2 k x0 x1 x9 x10 false)) else (drovewaylaw09_FeudsDavis.j2 k x0 x1 x9 x10 true)))
def drovewaylaw09_FeudsDavis.j2 : Nat → Int → List (S39) → List Int → Int → Bool → Option (Bool)
  | 0, _, _, _, _, _ => none
  | k + 1, x0, x1, x9, x10, x105 => if x105 = true then (some false) else (if x10 = 0 then ((feuds_IsRing.f x0 x1 x9).bind fun bt116 => (if bt116.2.2 = 0 then (if bt116.2.1 = true then (if bt116.1 = 1 then ((drovewaylaw09_alive.f).bind fun t119 => (some t119)) else (some false)) else (some false)) else (some false))) else (if (x9.length : Int) = 0 then ((drovewaylaw09_alive.f).bind fun t120 => (some t120)) else (some false)))
end
def drovewaylaw09_FeudsDavis.f (k : Nat) (a0 : Int) (l1 : List (S39)) (l2 : List Int) : Option (Bool) := (drovewaylaw09_few.f l1 l2).bind fun t101 => (if t101 = true then ((drovewayref09_Ties.f k a0 l1).bind fun t102 => (drovewaylaw09_FeudsDavis.j0 k a0 l1 l2 (t102 != 0))) else (drovewaylaw09_FeudsDavis.j0 k a0 l1 l2 true))
theorem drovewaylaw09_FeudsDavis.mono_l : ∀ k, (∀ y0 y1 y2 y3, LeO (drovewaylaw09_FeudsDavis.j0 k y0 y1 y2 y3) (drovewaylaw09_FeudsDavis.j0 (k + 1) y0 y1 y2 y3)) ∧ (∀ y0 y1 y2 y3 y4 y5, LeO (drovewaylaw09_FeudsDavis.j1 k y0 y1 y2 y3 y4 y5) (drovewaylaw09_FeudsDavis.j1 (k + 1) y0 y1 y2 y3 y4 y5)) ∧ (∀ y0 y1 y2 y3 y4, LeO (drovewaylaw09_FeudsDavis.j2 k y0 y1 y2 y3 y4) (drovewaylaw09_FeudsDavis.j2 (k + 1) y0 y1 y2 y3 y4))
  | 0 => ⟨fun _ _ _ _ r h => by simp [drovewaylaw09_FeudsDavis.j0] at h, fun _ _ _ _ _ _ r h => by simp [drovewaylaw09_FeudsDavis.j1] at h, fun _ _ _ _ _ r h => by simp [drovewaylaw09_FeudsDavis.j2] at h⟩
  | k + 1 => by
    obtain ⟨ih0, ih1, ih2⟩ := drovewaylaw09_FeudsDavis.mono_l k
    refine ⟨?_, ?_, ?_⟩
    · intro y0 y1 y2 y3
      unfold drovewaylaw09_FeudsDavis.j0
      repeat' first
      | (with_reducible exact ih0 _ _ _ _)
      | (with_reducible exact ih1 _ _ _ _ _ _)
      | (with_reducible exact ih2 _ _ _ _ _)
      | (with_reducible exact drovewayref09_Less.mono _ _ _)
      | (with_reducible exact drovewayref09_Ties.mono _ _ _)
      | (with_reducible exact LeO.refl _)
      | (with_reducible exact LeO.none _)
      | (with_reducible refine LeO.ite ?_ ?_)
      | (with_reducible refine LeO.bind ?_ (fun _ => ?_))
      | exact ih0 _ _ _ _
      | exact ih1 _ _ _ _ _ _
      | exact ih2 _ _ _ _ _
      | exact drovewayref09_Less.mono _ _ _
      | exact drovewayref09_Ties.mono _ _ _
      | exact LeO.none _
      | refine LeO.ite ?_ ?_
      | refine LeO.bind ?_ (fun _ => ?_)
    · intro y0 y1 y2 y3 y4 y5
      unfold drovewaylaw09_FeudsDavis.j1
      repeat' first
      | (with_reducible exact ih0 _ _ _ _)
      | (with_reducible exact ih1 _ _ _ _ _ _)
      | (with_reducible exact ih2 _ _ _ _ _)
      | (with_reducible exact drovewayref09_Less.mono _ _ _)
      | (with_reducible exact drovewayref09_Ties.mono _ _ _)
      | (with_reducible exact LeO.refl _)
      | (with_reducible exact LeO.none _)
      | (with_reducible refine LeO.ite ?_ ?_)
      | (with_reducible refine LeO.bind ?_ (fun _ => ?_))
      | exact ih0 _ _ _ _
      | exact ih1 _ _ _ _ _ _
      | exact ih2 _ _ _ _ _
      | exact drovewayref09_Less.mono _ _ _
      | exact drovewayref09_Ties.mono _ _ _
      | exact LeO.none _
      | refine LeO.ite ?_ ?_
      | refine LeO.bind ?_ (fun _ => ?_)
    · intro y0 y1 y2 y3 y4
      unfold drovewaylaw09_FeudsDavis.j2
      repeat' first
      | (with_reducible exact ih0 _ _ _ _)
      | (with_reducible exact ih1 _ _ _ _ _ _)
      | (with_reducible exact ih2 _ _ _ _ _)
      | (with_reducible exact drovewayref09_Less.mono _ _ _)
      | (with_reducible exact drovewayref09_Ties.mono _ _ _)
      | (with_reducible exact LeO.refl _)
      | (with_reducible exact LeO.none _)
      | (with_reducible refine LeO.ite ?_ ?_)
      | (with_reducible refine LeO.bind ?_ (fun _ => ?_))
      | exact ih0 _ _ _ _
      | exact ih1 _ _ _ _ _ _
      | exact ih2 _ _ _ _ _
      | exact drovewayref09_Less.mono _ _ _
      | exact drovewayref09_Ties.mono _ _ _
      | exact LeO.none _
      | refine LeO.ite ?_ ?_
      | refine LeO.bind ?_ (fun _ => ?_)
theorem drovewaylaw09_FeudsDavis.mono : ∀ a0 a1 a2 k, LeO (drovewaylaw09_FeudsDavis.f k a0 a1 a2) (drovewaylaw09_FeudsDavis.f (k + 1) a0 a1 a2) := by
  intro a0 a1 a2 k
  obtain ⟨ih0, ih1, ih2⟩ := drovewaylaw09_FeudsDavis.mono_l k
  unfold drovewaylaw09_FeudsDavis.f
  repeat' first
      | (with_reducible exact ih0 _ _ _ _)
      | (with_reducible exact ih1 _ _ _ _ _ _)
      | (with_reducible exact ih2 _ _ _ _ _)
      | (with_reducible exact drovewayref09_Less.mono _ _ _)
      | (with_reducible exact drovewayref09_Ties.mono _ _ _)
      | (with_reducible exact LeO.refl _)
      | (with_reducible exact LeO.none _)
      | (with_reducible refine LeO.ite ?_ ?_)
      | (with_reducible refine LeO.bind ?_ (fun _ => ?_))
      | exact ih0 _ _ _ _
      | exact ih1 _ _ _ _ _ _
      | exact ih2 _ _ _ _ _
      | exact drovewayref09_Less.mono _ _ _
      | exact drovewayref09_Ties.mono _ _ _
      | exact LeO.none _
      | refine LeO.ite ?_ ?_
      | refine LeO.bind ?_ (fun _ => ?_)
set_option maxHeartbeats 8000000 in
set_option maxRecDepth 100000 in
theorem drovewaylaw09_FeudsDavis.calls (k : Nat) (a0 : Int) (A1 : Option Addr) (c1 : Nat) (l1 : List (S39)) (A2 : Option Addr) (c2 : Nat) (l2 : List Int) (r : Bool) (w : World) (hr1 : Kd.C k39 w A1 l1.length l1) (hc1 : l1.length ≤ c1) (hr2 : Kd.C (Kd.int .i64) w A2 l2.length l2) (hc2 : l2.length ≤ c2) (h : drovewaylaw09_FeudsDavis.f k a0 l1 l2 = some r) :
    Calls Try.prog 10 #[.int .i64 a0, .slice A1 l1.length c1, .slice A2 l2.length c2] w fun e w' => e = .returned (.bool r) ∧ Below w.heap.size w w' := by
  have HR1 := Aside0.mk hr1
  have HC1 := Aside0.mk hc1
  clear hr1 hc1
  have HR2 := Aside0.mk hr2
  have HC2 := Aside0.mk hc2
  clear hr2 hc2
  have HB := Aside0.mk (Below.refl w.heap.size w)
  have H : ((drovewaylaw09_few.f l1 l2).bind fun t101 => (if t101 = true then ((drovewayref09_Ties.f k a0 l1).bind fun t102 => (drovewaylaw09_FeudsDavis.j0 k a0 l1 l2 (t102 != 0))) else (drovewaylaw09_FeudsDavis.j0 k a0 l1 l2 true))) = some r := h
  clear h
  have HC4 := Aside0.mk H
  clear H
  go_enter Try.func10, Try.ntmps10
  go_upto_region 1 with (fail)
  go_cut [23] (fun v23 wc => ∃ (kq : Nat) (x23_3 : Bool), v23 = .bool x23_3 ∧ Aside0 (drovewaylaw09_FeudsDavis.j0 kq a0 l1 l2 x23_3 = some r) ∧ Aside0 (kq ≤ k) ∧ Aside0 (Below w.heap.size w wc))
  case first =>
    have H := HC4.out
    clear HC4
    replace H := Option.bind_eq_some_iff.mp H
    obtain ⟨t101, A50, H⟩ := H
    replace H : (if t101 = true then ((drovewayref09_Ties.f k a0 l1).bind fun t102 => (drovewaylaw09_FeudsDavis.j0 k a0 l1 l2 (t102 != 0))) else (drovewaylaw09_FeudsDavis.j0 k a0 l1 l2 true)) = some r := H
    have A5 := Aside0.mk A50
    clear A50
    by_cases c6 : t101 = true
    · subst c6
      have H1 : ((drovewayref09_Ties.f k a0 l1).bind fun t102 => (drovewaylaw09_FeudsDavis.j0 k a0 l1 l2 (t102 != 0))) = some r := by rw [if_pos rfl] at H; exact H
      clear H
      have H := H1
      clear H1
      replace H := Option.bind_eq_some_iff.mp H
      obtain ⟨t102, A70, H⟩ := H
      replace H : (drovewaylaw09_FeudsDavis.j0 k a0 l1 l2 (t102 != 0)) = some r := H
      have A7 := Aside0.mk A70
      clear A70
      have H' := Aside0.mk H
      clear H
      go_wp2_with (first | ((with_reducible refine gate_callee (f := 16) rfl ?_); refine goesL_ (some 16) rfl rfl Try.func16 (by kernel_rfl) rfl #[.slice A1 l1.length c1, .slice A2 l2.length c2] rfl (by (try simp only [List.map_toArray, List.map_cons, List.map_nil]); first | done | rfl | (simp only [List.length_drop, List.length_take]; rfl)) ?_; (with_reducible refine (drovewaylaw09_few.calls _ _ l1 _ _ l2 true _ ?side1 ?side2 ?side3 ?side4 A5.out).mono ?_); (case side1 => repeat (first | exact (Kd.C_below HR1.out HB.out) | (with_reducible refine Kd.C_alloc ?_ _) | (with_reducible refine Kd.C_drewN ?_ _) | (with_reducible refine Kd.C_drew ?_))); (case side2 => exact HC1.out); (case side3 => repeat (first | exact (Kd.C_below HR2.out HB.out) | (with_reducible refine Kd.C_alloc ?_ _) | (with_reducible refine Kd.C_drewN ?_ _) | (with_reducible refine Kd.C_drew ?_))); (case side4 => exact HC2.out); rintro e w' ⟨rfl, ⟨nd, rfl⟩⟩; refine ⟨_, rfl, ?_⟩) | (go_at_call 24; (with_reducible refine (drovewayref09_Ties.calls k a0 _ _ l1 t102 _ ?side1 ?side2 A7.out).mono ?_); (case side1 => repeat (first | exact (Kd.C_below HR1.out (by repeat (first | (with_reducible first | exact HB.out | apply below_alloc | apply pw_below_drewN | apply below_drew1) | exact HB.out))) | (with_reducible refine Kd.C_alloc ?_ _) | (with_reducible refine Kd.C_drewN ?_ _) | (with_reducible refine Kd.C_drew ?_))); (case side2 => exact HC1.out); rintro e w' ⟨rfl, ⟨nd, rfl⟩⟩))
      go_meet
      case rel => exact ⟨_, ((t102 != 0)), (by first | rfl | (simp; done) | (simp [*]; done)), H', ⟨by first | omega | exact Nat.le_refl _⟩, ⟨by repeat (first | (with_reducible first | exact HB.out | apply below_alloc | apply pw_below_drewN | apply below_drew1) | exact HB.out)⟩⟩
    · replace c6 := Bool.eq_false_iff.mpr c6
      subst c6
      have H1 : (drovewaylaw09_FeudsDavis.j0 k a0 l1 l2 true) = some r := by rw [if_neg (show ¬ (false = true) by decide)] at H; exact H
      clear H
      have H := H1
      clear H1
      have H' := Aside0.mk H
      clear H
      go_wp2_with (first | ((with_reducible refine gate_callee (f := 16) rfl ?_); refine goesL_ (some 16) rfl rfl Try.func16 (by kernel_rfl) rfl #[.slice A1 l1.length c1, .slice A2 l2.length c2] rfl (by (try simp only [List.map_toArray, List.map_cons, List.map_nil]); first | done | rfl | (simp only [List.length_drop, List.length_take]; rfl)) ?_; (with_reducible refine (drovewaylaw09_few.calls _ _ l1 _ _ l2 false _ ?side1 ?side2 ?side3 ?side4 A5.out).mono ?_); (case side1 => repeat (first | exact (Kd.C_below HR1.out HB.out) | (with_reducible refine Kd.C_alloc ?_ _) | (with_reducible refine Kd.C_drewN ?_ _) | (with_reducible refine Kd.C_drew ?_))); (case side2 => exact HC1.out); (case side3 => repeat (first | exact (Kd.C_below HR2.out HB.out) | (with_reducible refine Kd.C_alloc ?_ _) | (with_reducible refine Kd.C_drewN ?_ _) | (with_reducible refine Kd.C_drew ?_))); (case side4 => exact HC2.out); rintro e w' ⟨rfl, ⟨nd, rfl⟩⟩; refine ⟨_, rfl, ?_⟩))
      go_meet
      case rel => exact ⟨_, (true), (by first | rfl | (simp; done) | (simp [*]; done)), H', ⟨by first | omega | exact Nat.le_refl _⟩, ⟨by repeat (first | (with_reducible first | exact HB.out | apply below_alloc | apply pw_below_drewN | apply below_drew1) | exact HB.out)⟩⟩
  case rest =>
    clear HC4
    try clear c1
    try clear c2
    try clear p2
    try clear c6
    obtain ⟨kq, x23_3, rfl, HA, HJ3, HB⟩ := hcut
    cases kq with
    | zero => exact absurd HA.out (by simp [drovewaylaw09_FeudsDavis.j0])
    | succ kj3 =>
      have H := HA.out
      clear HA
      simp only [drovewaylaw09_FeudsDavis.j0] at H
      by_cases c8 : x23_3 = true
      · subst c8
        have H1 : ((drovewaylaw09_alive.f).bind fun t103 => (some t103)) = some r := by rw [if_pos rfl] at H; exact H
        clear H
        have H := H1
        clear H1
        replace H := Option.bind_eq_some_iff.mp H
        obtain ⟨t103, A90, H⟩ := H
        replace H : (some t103) = some r := H
        have A9 := Aside0.mk A90
        clear A90
        obtain rfl := Option.some.inj H
        go_wp2_with (first | ((with_reducible refine gate_callee (f := 17) rfl ?_); refine goesL_ (some 24) rfl rfl Try.func17 (by kernel_rfl) rfl #[] rfl (by (try simp only [List.map_toArray, List.map_cons, List.map_nil]); first | done | rfl | (simp only [List.length_drop, List.length_take]; rfl)) ?_; (with_reducible refine (drovewaylaw09_alive.calls  t103 _ A9.out).mono ?_); rintro e w10 ⟨rfl, hb⟩; refine ⟨_, rfl, ?_⟩; have n0_ := Aside0.mk (below_step (by repeat (first | (with_reducible first | exact HB.out | apply below_alloc | apply pw_below_drewN | apply below_drew1) | exact HB.out)) hb); clear HB; have HB := n0_; clear n0_; (try clear hb); (try clear hb2); (try clear hk); (try clear hi)))
        go_ret
        exact ⟨by first | rfl | (simp [errW_none, errW_some] <;> rfl) | (simp [*, errW_none, errW_some] <;> rfl), by repeat (first | (with_reducible first | exact HB.out | apply below_alloc | apply pw_below_drewN | apply below_drew1) | exact HB.out)⟩
      · replace c8 := Bool.eq_false_iff.mpr c8
        subst c8
        have H1 : ((feuds_Clans.f a0 l1).bind fun bt104 => ((feuds_Spoilt.f a0 l1).bind fun bt108 => (if ((bt104.2 == 0) == (bt108.2 == 0)) = true then (drovewaylaw09_FeudsDavis.j1 kj3 a0 l1 l2 bt108.1 bt108.2 true) else (if bt104.2 = 0 then (if bt108.2 = 0 then (drovewaylaw09_FeudsDavis.j1 kj3 a0 l1 l2 bt108.1 bt108.2 ((decide ((bt104.1.length : Int) > 0)) != (bt104.2 == 0))) else (if bt108.2 = 10 then (drovewaylaw09_FeudsDavis.j1 kj3 a0 l1 l2 bt108.1 bt108.2 ((decide ((bt104.1.length : Int) > 0)) != (bt104.2 == 0))) else (drovewaylaw09_FeudsDavis.j1 kj3 a0 l1 l2 bt108.1 bt108.2 true))) else (if bt104.2 = 10 then (if bt108.2 = 0 then (drovewaylaw09_FeudsDavis.j1 kj3 a0 l1 l2 bt108.1 bt108.2 ((decide ((bt104.1.length : Int) > 0)) != (bt104.2 == 0))) else (if bt108.2 = 10 then (drovewaylaw09_FeudsDavis.j1 kj3 a0 l1 l2 bt108.1 bt108.2 ((decide ((bt104.1.length : Int) > 0)) != (bt104.2 == 0))) else (drovewaylaw09_FeudsDavis.j1 kj3 a0 l1 l2 bt108.1 bt108.2 true))) else (drovewaylaw09_FeudsDavis.j1 kj3 a0 l1 l2 bt108.1 bt108.2 true)))))) = some r := by rw [if_neg (show ¬ (false = true) by decide)] at H; exact H
        clear H
        have H := H1
        clear H1
        replace H := Option.bind_eq_some_iff.mp H
        obtain ⟨⟨t104, t105⟩, A110, H⟩ := H
        replace H : ((feuds_Spoilt.f a0 l1).bind fun bt108 => (if ((t105 == 0) == (bt108.2 == 0)) = true then (drovewaylaw09_FeudsDavis.j1 kj3 a0 l1 l2 bt108.1 bt108.2 true) else (if t105 = 0 then (if bt108.2 = 0 then (drovewaylaw09_FeudsDavis.j1 kj3 a0 l1 l2 bt108.1 bt108.2 ((decide ((t104.length : Int) > 0)) != (t105 == 0))) else (if bt108.2 = 10 then (drovewaylaw09_FeudsDavis.j1 kj3 a0 l1 l2 bt108.1 bt108.2 ((decide ((t104.length : Int) > 0)) != (t105 == 0))) else (drovewaylaw09_FeudsDavis.j1 kj3 a0 l1 l2 bt108.1 bt108.2 true))) else (if t105 = 10 then (if bt108.2 = 0 then (drovewaylaw09_FeudsDavis.j1 kj3 a0 l1 l2 bt108.1 bt108.2 ((decide ((t104.length : Int) > 0)) != (t105 == 0))) else (if bt108.2 = 10 then (drovewaylaw09_FeudsDavis.j1 kj3 a0 l1 l2 bt108.1 bt108.2 ((decide ((t104.length : Int) > 0)) != (t105 == 0))) else (drovewaylaw09_FeudsDavis.j1 kj3 a0 l1 l2 bt108.1 bt108.2 true))) else (drovewaylaw09_FeudsDavis.j1 kj3 a0 l1 l2 bt108.1 bt108.2 true))))) = some r := H
        have A11 := Aside0.mk A110
        clear A110
        replace H := Option.bind_eq_some_iff.mp H
        obtain ⟨⟨t108, t109⟩, A120, H⟩ := H
        replace H : (if ((t105 == 0) == (t109 == 0)) = true then (drovewaylaw09_FeudsDavis.j1 kj3 a0 l1 l2 t108 t109 true) else (if t105 = 0 then (if t109 = 0 then (drovewaylaw09_FeudsDavis.j1 kj3 a0 l1 l2 t108 t109 ((decide ((t104.length : Int) > 0)) != (t105 == 0))) else (if t109 = 10 then (drovewaylaw09_FeudsDavis.j1 kj3 a0 l1 l2 t108 t109 ((decide ((t104.length : Int) > 0)) != (t105 == 0))) else (drovewaylaw09_FeudsDavis.j1 kj3 a0 l1 l2 t108 t109 true))) else (if t105 = 10 then (if t109 = 0 then (drovewaylaw09_FeudsDavis.j1 kj3 a0 l1 l2 t108 t109 ((decide ((t104.length : Int) > 0)) != (t105 == 0))) else (if t109 = 10 then (drovewaylaw09_FeudsDavis.j1 kj3 a0 l1 l2 t108 t109 ((decide ((t104.length : Int) > 0)) != (t105 == 0))) else (drovewaylaw09_FeudsDavis.j1 kj3 a0 l1 l2 t108 t109 true))) else (drovewaylaw09_FeudsDavis.j1 kj3 a0 l1 l2 t108 t109 true)))) = some r := H
        have A12 := Aside0.mk A120
        clear A120
        have HC13 := Aside0.mk H
        clear H
        go_upto_region 5 with (first | ((with_reducible refine gate_callee (f := 26) rfl ?_); refine goesL_ (some 28) rfl rfl Try.func26 (by kernel_rfl) rfl #[.int .i64 a0, .slice A1 l1.length c1] rfl (by (try simp only [List.map_toArray, List.map_cons, List.map_nil]); first | done | rfl | (simp only [List.length_drop, List.length_take]; rfl)) ?_; (with_reducible refine (feuds_Clans.calls a0 _ _ l1 t104 t105 _ ?side1 ?side2 A11.out).mono ?_); (case side1 => repeat (first | exact (Kd.C_below HR1.out HB.out) | (with_reducible refine Kd.C_alloc ?_ _) | (with_reducible refine Kd.C_drewN ?_ _) | (with_reducible refine Kd.C_drew ?_))); (case side2 => exact HC1.out); rintro e w14 ⟨v106, rfl, ho0, hb⟩; refine ⟨_, rfl, ?_⟩; have n0_ := Aside0.mk (Kd.R_lower ho0 (below_size (by repeat (first | (with_reducible first | exact HB.out | apply below_alloc | apply pw_below_drewN | apply below_drew1) | exact HB.out)))); have n1_ := Aside0.mk (below_step (by repeat (first | (with_reducible first | exact HB.out | apply below_alloc | apply pw_below_drewN | apply below_drew1) | exact HB.out)) hb); clear HB; have HO107 := n0_; have HB := n1_; clear n0_ n1_; (try clear hb); (try clear hb2); (try clear hk); (try clear hi); (try clear ho0)) | ((with_reducible refine gate_callee (f := 28) rfl ?_); refine goesL_ (some 34) rfl rfl Try.func28 (by kernel_rfl) rfl #[.int .i64 a0, .slice A1 l1.length c1] rfl (by (try simp only [List.map_toArray, List.map_cons, List.map_nil]); first | done | rfl | (simp only [List.length_drop, List.length_take]; rfl)) ?_; (with_reducible refine (feuds_Spoilt.calls a0 _ _ l1 t108 t109 _ ?side1 ?side2 A12.out).mono ?_); (case side1 => repeat (first | exact (Kd.C_below HR1.out HB.out) | (with_reducible refine Kd.C_alloc ?_ _) | (with_reducible refine Kd.C_drewN ?_ _) | (with_reducible refine Kd.C_drew ?_))); (case side2 => exact HC1.out); rintro e w15 ⟨v110, rfl, ho0, hb⟩; refine ⟨_, rfl, ?_⟩; have n0_ := Aside0.mk (Kd.R_elder' (by (with_reducible repeat (first | apply Kd.R_alloc | apply Kd.R_drewN | apply Kd.R_drew)); exact HO107.out) (Kd.R_base ho0) hb); have n1_ := Aside0.mk (Kd.R_lower (Kd.R_new' ho0 (Kd.R_lt (by (with_reducible repeat (first | apply Kd.R_alloc | apply Kd.R_drewN | apply Kd.R_drew)); exact HO107.out))) (below_size (by repeat (first | (with_reducible first | exact HB.out | apply below_alloc | apply pw_below_drewN | apply below_drew1) | exact HB.out)))); have n2_ := Aside0.mk (below_step (by repeat (first | (with_reducible first | exact HB.out | apply below_alloc | apply pw_below_drewN | apply below_drew1) | exact HB.out)) hb); clear HO107; clear HB; have HO107 := n0_; have HO111 := n1_; have HB := n2_; clear n0_ n1_ n2_; (try clear hb); (try clear hb2); (try clear hk); (try clear hi); (try clear ho0)))
        (try simp only [Act.put, List.setIfInBounds_toArray, List.set_cons_zero, List.set_cons_succ])
        go_cut [65] (fun v65 wc => ∃ (kq : Nat) (x65_12 : Bool), v65 = .bool x65_12 ∧ Aside0 (drovewaylaw09_FeudsDavis.j1 kq a0 l1 l2 t108 t109 x65_12 = some r) ∧ Aside0 (kq ≤ kj3) ∧ Aside0 (Kd.R (Kd.int .i64) 3 wc w.heap.size (fun _ => True) v110 t108) ∧ Aside0 (Below w.heap.size w wc))
        case first =>
          have H := HC13.out
          clear HC13
          by_cases c16 : ((t105 == 0) == (t109 == 0)) = true
          · rw [if_pos c16] at H
            have c16b0 : ((t105 == 0) == (t109 == 0)) = true := c16
            clear c16
            (first | rw [c16b0] | (simp only [i64_w, i32_w]; rw [c16b0]) | skip)
            have H' := Aside0.mk H
            clear H
            go_wp2
            go_meet
            case rel => exact ⟨_, (true), (by first | rfl | (simp; done) | (simp [*]; done)), H', ⟨by have := HJ3.out; first | omega | exact Nat.le_refl _⟩, ⟨by (with_reducible repeat (first | apply Kd.R_alloc | apply Kd.R_drewN | apply Kd.R_drew)); exact Kd.R_mono HO111.out (fun _ hk => trivial)⟩, ⟨by repeat (first | (with_reducible first | exact HB.out | apply below_alloc | apply pw_below_drewN | apply below_drew1) | exact HB.out)⟩⟩
          · rw [if_neg c16] at H
            have c16b0 : ((t105 == 0) == (t109 == 0)) = false := by simpa using c16
            clear c16
            (first | rw [c16b0] | (simp only [i64_w, i32_w]; rw [c16b0]) | skip)
            by_cases c17 : t105 = 0
            · rw [if_pos c17] at H
              have c17b0 : (t105 == 0) = true := beq_iff_eq.mpr c17
              have c17b1 : (t105 != 0) = false := bne_eq_false_iff_eq.mpr c17
              clear c17
              by_cases c18 : t109 = 0
              · rw [if_pos c18] at H
                have c18b0 : (t109 == 0) = true := beq_iff_eq.mpr c18
                have c18b1 : (t109 != 0) = false := bne_eq_false_iff_eq.mpr c18
                clear c18
                exact absurd c16b0 (by rw [c17b0, c18b0]; decide)
              · rw [if_neg c18] at H
                have c18b0 : (t109 == 0) = false := beq_eq_false_iff_ne.mpr c18
                have c18b1 : (t109 != 0) = true := bne_iff_ne.mpr c18
                by_cases c20 : t109 = 10
                · rw [if_pos c20] at H
                  have c20b0 : (t109 == 10) = true := beq_iff_eq.mpr c20
                  have c20b1 : (t109 != 10) = false := bne_eq_false_iff_eq.mpr c20
                  clear c20
                  have H' := Aside0.mk H
                  clear H
                  obtain ⟨Ao21, co21, eo21⟩ := Kd.R_slice HO107.out
                  subst eo21
                  go_wp2
                  go_meet
                  case rel => exact ⟨_, (((decide ((t104.length : Int) > 0)) != (t105 == 0))), (by first | rfl | (simp; done) | (simp [*]; done)), H', ⟨by have := HJ3.out; first | omega | exact Nat.le_refl _⟩, ⟨by (with_reducible repeat (first | apply Kd.R_alloc | apply Kd.R_drewN | apply Kd.R_drew)); exact Kd.R_mono HO111.out (fun _ hk => trivial)⟩, ⟨by repeat (first | (with_reducible first | exact HB.out | apply below_alloc | apply pw_below_drewN | apply below_drew1) | exact HB.out)⟩⟩
                · rw [if_neg c20] at H
                  have c20b0 : (t109 == 10) = false := beq_eq_false_iff_ne.mpr c20
                  have c20b1 : (t109 != 10) = true := bne_iff_ne.mpr c20
                  have H' := Aside0.mk H
                  clear H
                  go_wp2
                  go_meet
                  case rel => exact ⟨_, (true), (by first | rfl | (simp; done) | (simp [*]; done)), H', ⟨by have := HJ3.out; first | omega | exact Nat.le_refl _⟩, ⟨by (with_reducible repeat (first | apply Kd.R_alloc | apply Kd.R_drewN | apply Kd.R_drew)); exact Kd.R_mono HO111.out (fun _ hk => trivial)⟩, ⟨by repeat (first | (with_reducible first | exact HB.out | apply below_alloc | apply pw_below_drewN | apply below_drew1) | exact HB.out)⟩⟩
            · rw [if_neg c17] at H
              have c17b0 : (t105 == 0) = false := beq_eq_false_iff_ne.mpr c17
              have c17b1 : (t105 != 0) = true := bne_iff_ne.mpr c17
              by_cases c22 : t105 = 10
              · rw [if_pos c22] at H
                have c22b0 : (t105 == 10) = true := beq_iff_eq.mpr c22
                have c22b1 : (t105 != 10) = false := bne_eq_false_iff_eq.mpr c22
                clear c22
                by_cases c23 : t109 = 0
                · rw [if_pos c23] at H
                  have c23b0 : (t109 == 0) = true := beq_iff_eq.mpr c23
                  have c23b1 : (t109 != 0) = false := bne_eq_false_iff_eq.mpr c23
                  clear c23
                  have H' := Aside0.mk H
                  clear H
                  obtain ⟨Ao24, co24, eo24⟩ := Kd.R_slice HO107.out
                  subst eo24
                  go_wp2
                  go_meet
                  case rel => exact ⟨_, (((decide ((t104.length : Int) > 0)) != (t105 == 0))), (by first | rfl | (simp; done) | (simp [*]; done)), H', ⟨by have := HJ3.out; first | omega | exact Nat.le_refl _⟩, ⟨by (with_reducible repeat (first | apply Kd.R_alloc | apply Kd.R_drewN | apply Kd.R_drew)); exact Kd.R_mono HO111.out (fun _ hk => trivial)⟩, ⟨by repeat (first | (with_reducible first | exact HB.out | apply below_alloc | apply pw_below_drewN | apply below_drew1) | exact HB.out)⟩⟩
                · rw [if_neg c23] at H
                  have c23b0 : (t109 == 0) = false := beq_eq_false_iff_ne.mpr c23
                  have c23b1 : (t109 != 0) = true := bne_iff_ne.mpr c23
                  by_cases c25 : t109 = 10
                  · rw [if_pos c25] at H
                    have c25b0 : (t109 == 10) = true := beq_iff_eq.mpr c25
                    have c25b1 : (t109 != 10) = false := bne_eq_false_iff_eq.mpr c25
                    clear c25
                    exact absurd c16b0 (by rw [c17b0, c23b0]; decide)
                  · rw [if_neg c25] at H
                    have c25b0 : (t109 == 10) = false := beq_eq_false_iff_ne.mpr c25
                    have c25b1 : (t109 != 10) = true := bne_iff_ne.mpr c25
                    exact absurd c16b0 (by rw [c17b0, c23b0]; decide)
              · rw [if_neg c22] at H
                have c22b0 : (t105 == 10) = false := beq_eq_false_iff_ne.mpr c22
                have c22b1 : (t105 != 10) = true := bne_iff_ne.mpr c22
                have e_ : t109 = 0 := by
                  have h_ := c16b0
                  rw [c17b0] at h_
                  cases hq : (t109 == 0)
                  · rw [hq] at h_; exact absurd h_ (by decide)
                  · exact beq_iff_eq.mp hq
                subst e_
                have H' := Aside0.mk H
                clear H
                go_wp2
                go_meet
                case rel => exact ⟨_, (true), (by first | rfl | (simp; done) | (simp [*]; done)), H', ⟨by have := HJ3.out; first | omega | exact Nat.le_refl _⟩, ⟨by (with_reducible repeat (first | apply Kd.R_alloc | apply Kd.R_drewN | apply Kd.R_drew)); exact Kd.R_mono HO111.out (fun _ hk => trivial)⟩, ⟨by repeat (first | (with_reducible first | exact HB.out | apply below_alloc | apply pw_below_drewN | apply below_drew1) | exact HB.out)⟩⟩
        case rest =>
          clear HC13
          try clear c1
          try clear c2
          try clear p2
          try clear c6
          try clear c8
          try clear c10
          try clear c16
          try clear c16b0
          try clear c16b1
          try clear c16b2
          try clear c17
          try clear c17b0
          try clear c17b1
          try clear c18
          try clear c18b0
          try clear c18b1
          try clear c20
          try clear c20b0
          try clear c20b1
          try clear c22
          try clear c22b0
          try clear c22b1
          try clear c23
          try clear c23b0
          try clear c23b1
          try clear c25
          try clear c25b0
          try clear c25b1
          try clear c26
          try clear p2
          obtain ⟨kq, x65_12, rfl, HA, HJ12, HO_9, HB⟩ := hcut
          cases kq with
          | zero => exact absurd HA.out (by simp [drovewaylaw09_FeudsDavis.j1])
          | succ kj12 =>
            have H := HA.out
            clear HA
            simp only [drovewaylaw09_FeudsDavis.j1] at H
            by_cases c27 : x65_12 = true
            · subst c27
              have H1 : (some false) = some r := by rw [if_pos rfl] at H; exact H
              clear H
              have H := H1
              clear H1
              obtain rfl := Option.some.inj H
              go_wp2
              go_ret
              exact ⟨by first | rfl | (simp [errW_none, errW_some] <;> rfl) | (simp [*, errW_none, errW_some] <;> rfl), by repeat (first | (with_reducible first | exact HB.out | apply below_alloc | apply pw_below_drewN | apply below_drew1) | exact HB.out)⟩
            · replace c27 := Bool.eq_false_iff.mpr c27
              subst c27
              have H1 : ((feuds_IsRing.f a0 l1 l2).bind fun bt112 => (if bt112.2.2 = 0 then (if bt112.2.1 = true then (if bt112.1 = 1 then (if t109 = 0 then (if (l2.length : Int) < (t108.length : Int) then (drovewaylaw09_FeudsDavis.j2 kj12 a0 l1 t108 t109 true) else (if (l2.length : Int) = (t108.length : Int) then ((drovewayref09_Less.f kj12 l2 t108).bind fun t115 => (drovewaylaw09_FeudsDavis.j2 kj12 a0 l1 t108 t109 t115)) else (drovewaylaw09_FeudsDavis.j2 kj12 a0 l1 t108 t109 false))) else (drovewaylaw09_FeudsDavis.j2 kj12 a0 l1 t108 t109 true)) else (drovewaylaw09_FeudsDavis.j2 kj12 a0 l1 t108 t109 false)) else (drovewaylaw09_FeudsDavis.j2 kj12 a0 l1 t108 t109 false)) else (drovewaylaw09_FeudsDavis.j2 kj12 a0 l1 t108 t109 true))) = some r := by rw [if_neg (show ¬ (false = true) by decide)] at H; exact H
              clear H
              have H := H1
              clear H1
              replace H := Option.bind_eq_some_iff.mp H
              obtain ⟨⟨t112, t113, t114⟩, A280, H⟩ := H
              replace H : (if t114 = 0 then (if t113 = true then (if t112 = 1 then (if t109 = 0 then (if (l2.length : Int) < (t108.length : Int) then (drovewaylaw09_FeudsDavis.j2 kj12 a0 l1 t108 t109 true) else (if (l2.length : Int) = (t108.length : Int) then ((drovewayref09_Less.f kj12 l2 t108).bind fun t115 => (drovewaylaw09_FeudsDavis.j2 kj12 a0 l1 t108 t109 t115)) else (drovewaylaw09_FeudsDavis.j2 kj12 a0 l1 t108 t109 false))) else (drovewaylaw09_FeudsDavis.j2 kj12 a0 l1 t108 t109 true)) else (drovewaylaw09_FeudsDavis.j2 kj12 a0 l1 t108 t109 false)) else (drovewaylaw09_FeudsDavis.j2 kj12 a0 l1 t108 t109 false)) else (drovewaylaw09_FeudsDavis.j2 kj12 a0 l1 t108 t109 true)) = some r := H
              have A28 := Aside0.mk A280
              clear A280
              have HC29 := Aside0.mk H
              clear H
              go_upto_region 8 with (first | ((with_reducible refine gate_callee (f := 39) rfl ?_); refine goesL_ (some 70) rfl rfl Try.func39 (by kernel_rfl) rfl #[.int .i64 a0, .slice A1 l1.length c1, .slice A2 l2.length c2] rfl (by (try simp only [List.map_toArray, List.map_cons, List.map_nil]); first | done | rfl | (simp only [List.length_drop, List.length_take]; rfl)) ?_; (with_reducible refine (feuds_IsRing.calls a0 _ _ l1 _ _ l2 t112 t113 t114 _ ?side1 ?side2 ?side3 ?side4 A28.out).mono ?_); (case side1 => repeat (first | exact (Kd.C_below HR1.out HB.out) | (with_reducible refine Kd.C_alloc ?_ _) | (with_reducible refine Kd.C_drewN ?_ _) | (with_reducible refine Kd.C_drew ?_))); (case side2 => exact HC1.out); (case side3 => repeat (first | exact (Kd.C_below HR2.out HB.out) | (with_reducible refine Kd.C_alloc ?_ _) | (with_reducible refine Kd.C_drewN ?_ _) | (with_reducible refine Kd.C_drew ?_))); (case side4 => exact HC2.out); rintro e w30 ⟨rfl, hb⟩; refine ⟨_, rfl, ?_⟩; have n0_ := Aside0.mk (Kd.R_below (by (with_reducible repeat (first | apply Kd.R_alloc | apply Kd.R_drewN | apply Kd.R_drew)); exact HO_9.out) hb); have n1_ := Aside0.mk (below_step (by repeat (first | (with_reducible first | exact HB.out | apply below_alloc | apply pw_below_drewN | apply below_drew1) | exact HB.out)) hb); clear HO_9; clear HB; have HO_9 := n0_; have HB := n1_; clear n0_ n1_; (try clear hb); (try clear hb2); (try clear hk); (try clear hi)))
              (try simp only [Act.put, List.setIfInBounds_toArray, List.set_cons_zero, List.set_cons_succ])
              go_cut [105] (fun v105 wc => ∃ (kq : Nat) (x105_28 : Bool), v105 = .bool x105_28 ∧ Aside0 (drovewaylaw09_FeudsDavis.j2 kq a0 l1 t108 t109 x105_28 = some r) ∧ Aside0 (kq ≤ kj12) ∧ Aside0 (Kd.R (Kd.int .i64) 3 wc w.heap.size (fun _ => True) v110 t108) ∧ Aside0 (Below w.heap.size w wc))
              case first =>
                have H := HC29.out
                clear HC29
                by_cases c31 : t114 = 0
                · rw [if_pos c31] at H
                  have c31b0 : (t114 == 0) = true := beq_iff_eq.mpr c31
                  have c31b1 : (t114 != 0) = false := bne_eq_false_iff_eq.mpr c31
                  clear c31
                  (first | rw [c31b0] | (simp only [i64_w, i32_w]; rw [c31b0]) | skip)
                  by_cases c32 : t113 = true
                  · subst c32
                    have H1 : (if t112 = 1 then (if t109 = 0 then (if (l2.length : Int) < (t108.length : Int) then (drovewaylaw09_FeudsDavis.j2 kj12 a0 l1 t108 t109 true) else (if (l2.length : Int) = (t108.length : Int) then ((drovewayref09_Less.f kj12 l2 t108).bind fun t115 => (drovewaylaw09_FeudsDavis.j2 kj12 a0 l1 t108 t109 t115)) else (drovewaylaw09_FeudsDavis.j2 kj12 a0 l1 t108 t109 false))) else (drovewaylaw09_FeudsDavis.j2 kj12 a0 l1 t108 t109 true)) else (drovewaylaw09_FeudsDavis.j2 kj12 a0 l1 t108 t109 false)) = some r := by rw [if_pos rfl] at H; exact H
                    clear H
                    have H := H1
                    clear H1
                    by_cases c33 : t112 = 1
                    · rw [if_pos c33] at H
                      have c33b0 : (t112 == 1) = true := beq_iff_eq.mpr c33
                      have c33b1 : (t112 != 1) = false := bne_eq_false_iff_eq.mpr c33
                      clear c33
                      by_cases c34 : t109 = 0
                      · rw [if_pos c34] at H
                        have c34b0 : (t109 == 0) = true := beq_iff_eq.mpr c34
                        have c34b1 : (t109 != 0) = false := bne_eq_false_iff_eq.mpr c34
                        clear c34
                        by_cases c35 : (l2.length : Int) < (t108.length : Int)
                        · rw [if_pos c35] at H
                          have c35b0 : decide ((l2.length : Int) < (t108.length : Int)) = true := decide_eq_true c35
                          have c35b1 : decide (l2.length < t108.length) = true := decide_eq_true (Int.ofNat_lt.mp c35)
                          clear c35
                          have H' := Aside0.mk H
                          clear H
                          obtain ⟨Ao36, co36, eo36⟩ := Kd.R_slice HO_9.out
                          subst eo36
                          go_wp2
                          go_meet
                          case rel => exact ⟨_, (true), (by first | rfl | (simp; done) | (simp [*]; done)), H', ⟨by have := HJ3.out; have := HJ12.out; first | omega | exact Nat.le_refl _⟩, ⟨by (with_reducible repeat (first | apply Kd.R_alloc | apply Kd.R_drewN | apply Kd.R_drew)); exact HO_9.out⟩, ⟨by repeat (first | (with_reducible first | exact HB.out | apply below_alloc | apply pw_below_drewN | apply below_drew1) | exact HB.out)⟩⟩
                        · rw [if_neg c35] at H
                          have c35b0 : decide ((l2.length : Int) < (t108.length : Int)) = false := decide_eq_false c35
                          have c35b1 : decide (l2.length < t108.length) = false := decide_eq_false (fun h => c35 (Int.ofNat_lt.mpr h))
                          clear c35
                          by_cases c37 : (l2.length : Int) = (t108.length : Int)
                          · rw [if_pos c37] at H
                            have c37b0 : ((l2.length : Int) == (t108.length : Int)) = true := beq_iff_eq.mpr c37
                            have c37b1 : ((l2.length : Int) != (t108.length : Int)) = false := bne_eq_false_iff_eq.mpr c37
                            have c37b2 : (l2.length == t108.length) = true := by first | simpa using c37 | (simp at c37 ⊢; omega)
                            clear c37
                            replace H := Option.bind_eq_some_iff.mp H
                            obtain ⟨t115, A380, H⟩ := H
                            replace H : (drovewaylaw09_FeudsDavis.j2 kj12 a0 l1 t108 t109 t115) = some r := H
                            have A38 := Aside0.mk A380
                            clear A380
                            have H' := Aside0.mk H
                            clear H
                            obtain ⟨Ao39, co39, eo39⟩ := Kd.R_slice HO_9.out
                            subst eo39
                            go_wp2_with (first | (go_at_call 41; (with_reducible refine (drovewayref09_Less.calls kj12 _ _ l2 _ _ t108 t115 _ ?side1 ?side2 ?side3 ?side4 A38.out).mono ?_); (case side1 => repeat (first | exact (Kd.C_below HR2.out HB.out) | (with_reducible refine Kd.C_alloc ?_ _) | (with_reducible refine Kd.C_drewN ?_ _) | (with_reducible refine Kd.C_drew ?_))); (case side2 => exact HC2.out); (case side3 => repeat (first | exact (Kd.R_reads' HO_9.out).2.2 | (with_reducible refine Kd.C_alloc ?_ _) | (with_reducible refine Kd.C_drewN ?_ _) | (with_reducible refine Kd.C_drew ?_))); (case side4 => exact (Kd.R_reads' HO_9.out).2.1); rintro e w' ⟨rfl, ⟨nd, rfl⟩⟩))
                            go_meet
                            case rel => exact ⟨_, (t115), (by first | rfl | (simp; done) | (simp [*]; done)), H', ⟨by have := HJ3.out; have := HJ12.out; first | omega | exact Nat.le_refl _⟩, ⟨by (with_reducible repeat (first | apply Kd.R_alloc | apply Kd.R_drewN | apply Kd.R_drew)); exact HO_9.out⟩, ⟨by repeat (first | (with_reducible first | exact HB.out | apply below_alloc | apply pw_below_drewN | apply below_drew1) | exact HB.out)⟩⟩
                          · rw [if_neg c37] at H
                            have c37b0 : ((l2.length : Int) == (t108.length : Int)) = false := beq_eq_false_iff_ne.mpr c37
                            have c37b1 : ((l2.length : Int) != (t108.length : Int)) = true := bne_iff_ne.mpr c37
                            have c37b2 : (l2.length == t108.length) = false := by first | simpa using c37 | (simp at c37 ⊢; omega)
                            have H' := Aside0.mk H
                            clear H
                            obtain ⟨Ao40, co40, eo40⟩ := Kd.R_slice HO_9.out
                            subst eo40
                            go_wp2
                            go_meet
                            case rel => exact ⟨_, (false), (by first | rfl | (simp; done) | (simp [*]; done)), H', ⟨by have := HJ3.out; have := HJ12.out; first | omega | exact Nat.le_refl _⟩, ⟨by (with_reducible repeat (first | apply Kd.R_alloc | apply Kd.R_drewN | apply Kd.R_drew)); exact HO_9.out⟩, ⟨by repeat (first | (with_reducible first | exact HB.out | apply below_alloc | apply pw_below_drewN | apply below_drew1) | exact HB.out)⟩⟩
                      · rw [if_neg c34] at H
                        have c34b0 : (t109 == 0) = false := beq_eq_false_iff_ne.mpr c34
                        have c34b1 : (t109 != 0) = true := bne_iff_ne.mpr c34
                        have H' := Aside0.mk H
                        clear H
                        go_wp2
                        go_meet
                        case rel => exact ⟨_, (true), (by first | rfl | (simp; done) | (simp [*]; done)), H', ⟨by have := HJ3.out; have := HJ12.out; first | omega | exact Nat.le_refl _⟩, ⟨by (with_reducible repeat (first | apply Kd.R_alloc | apply Kd.R_drewN | apply Kd.R_drew)); exact HO_9.out⟩, ⟨by repeat (first | (with_reducible first | exact HB.out | apply below_alloc | apply pw_below_drewN | apply below_drew1) | exact HB.out)⟩⟩
                    · rw [if_neg c33] at H
                      have c33b0 : (t112 == 1) = false := beq_eq_false_iff_ne.mpr c33
                      have c33b1 : (t112 != 1) = true := bne_iff_ne.mpr c33
                      have H' := Aside0.mk H
                      clear H
                      go_wp2
                      go_meet
                      case rel => exact ⟨_, (false), (by first | rfl | (simp; done) | (simp [*]; done)), H', ⟨by have := HJ3.out; have := HJ12.out; first | omega | exact Nat.le_refl _⟩, ⟨by (with_reducible repeat (first | apply Kd.R_alloc | apply Kd.R_drewN | apply Kd.R_drew)); exact HO_9.out⟩, ⟨by repeat (first | (with_reducible first | exact HB.out | apply below_alloc | apply pw_below_drewN | apply below_drew1) | exact HB.out)⟩⟩
                  · replace c32 := Bool.eq_false_iff.mpr c32
                    subst c32
                    have H1 : (drovewaylaw09_FeudsDavis.j2 kj12 a0 l1 t108 t109 false) = some r := by rw [if_neg (show ¬ (false = true) by decide)] at H; exact H
                    clear H
                    have H := H1
                    clear H1
                    have H' := Aside0.mk H
                    clear H
                    go_wp2
                    go_meet
                    case rel => exact ⟨_, (false), (by first | rfl | (simp; done) | (simp [*]; done)), H', ⟨by have := HJ3.out; have := HJ12.out; first | omega | exact Nat.le_refl _⟩, ⟨by (with_reducible repeat (first | apply Kd.R_alloc | apply Kd.R_drewN | apply Kd.R_drew)); exact HO_9.out⟩, ⟨by repeat (first | (with_reducible first | exact HB.out | apply below_alloc | apply pw_below_drewN | apply below_drew1) | exact HB.out)⟩⟩
                · rw [if_neg c31] at H
                  have c31b0 : (t114 == 0) = false := beq_eq_false_iff_ne.mpr c31
                  have c31b1 : (t114 != 0) = true := bne_iff_ne.mpr c31
                  (first | rw [c31b0] | (simp only [i64_w, i32_w]; rw [c31b0]) | skip)
                  have H' := Aside0.mk H
                  clear H
                  go_wp2
                  go_meet
                  case rel => exact ⟨_, (true), (by first | rfl | (simp; done) | (simp [*]; done)), H', ⟨by have := HJ3.out; have := HJ12.out; first | omega | exact Nat.le_refl _⟩, ⟨by (with_reducible repeat (first | apply Kd.R_alloc | apply Kd.R_drewN | apply Kd.R_drew)); exact HO_9.out⟩, ⟨by repeat (first | (with_reducible first | exact HB.out | apply below_alloc | apply pw_below_drewN | apply below_drew1) | exact HB.out)⟩⟩
              case rest =>
                clear HC29
                try clear c1
                try clear c2
                try clear p2
                try clear c3
                try clear c6
                try clear c8
                try clear c10
                try clear c16
                try clear c16b0
                try clear c16b1
                try clear c16b2
                try clear c17
                try clear c17b0
                try clear c17b1
                try clear c18
                try clear c18b0
                try clear c18b1
                try clear c20
                try clear c20b0
                try clear c20b1
                try clear c22
                try clear c22b0
                try clear c22b1
                try clear c23
                try clear c23b0
                try clear c23b1
                try clear c25
                try clear c25b0
                try clear c25b1
                try clear c26
                try clear c27
                try clear c28
                try clear c31
                try clear c31b0
                try clear c31b1
                try clear c32
                try clear c33
                try clear c33b0
                try clear c33b1
                try clear c34
                try clear c34b0
                try clear c34b1
                try clear c35
                try clear c35b0
                try clear c35b1
                try clear c37
                try clear c37b0
                try clear c37b1
                try clear c37b2
                try clear c39
                try clear p2
                obtain ⟨kq, x105_28, rfl, HA, HJ28, HO_9, HB⟩ := hcut
                cases kq with
                | zero => exact absurd HA.out (by simp [drovewaylaw09_FeudsDavis.j2])
                | succ kj28 =>
                  have H := HA.out
                  clear HA
                  simp only [drovewaylaw09_FeudsDavis.j2] at H
                  by_cases c41 : x105_28 = true
                  · subst c41
                    have H1 : (some false) = some r := by rw [if_pos rfl] at H; exact H
                    clear H
                    have H := H1
                    clear H1
                    obtain rfl := Option.some.inj H
                    go_wp2
                    go_ret
                    exact ⟨by first | rfl | (simp [errW_none, errW_some] <;> rfl) | (simp [*, errW_none, errW_some] <;> rfl), by repeat (first | (with_reducible first | exact HB.out | apply below_alloc | apply pw_below_drewN | apply below_drew1) | exact HB.out)⟩
                  · replace c41 := Bool.eq_false_iff.mpr c41
                    subst c41
                    have H1 : (if t109 = 0 then ((feuds_IsRing.f a0 l1 t108).bind fun bt116 => (if bt116.2.2 = 0 then (if bt116.2.1 = true then (if bt116.1 = 1 then ((drovewaylaw09_alive.f).bind fun t119 => (some t119)) else (some false)) else (some false)) else (some false))) else (if (t108.length : Int) = 0 then ((drovewaylaw09_alive.f).bind fun t120 => (some t120)) else (some false))) = some r := by rw [if_neg (show ¬ (false = true) by decide)] at H; exact H
                    clear H
                    have H := H1
                    clear H1
                    by_cases c42 : t109 = 0
                    · rw [if_pos c42] at H
                      have c42b0 : (t109 == 0) = true := beq_iff_eq.mpr c42
                      have c42b1 : (t109 != 0) = false := bne_eq_false_iff_eq.mpr c42
                      clear c42
                      replace H := Option.bind_eq_some_iff.mp H
                      obtain ⟨⟨t116, t117, t118⟩, A430, H⟩ := H
                      replace H : (if t118 = 0 then (if t117 = true then (if t116 = 1 then ((drovewaylaw09_alive.f).bind fun t119 => (some t119)) else (some false)) else (some false)) else (some false)) = some r := H
                      have A43 := Aside0.mk A430
                      clear A430
                      by_cases c44 : t118 = 0
                      · rw [if_pos c44] at H
                        have c44b0 : (t118 == 0) = true := beq_iff_eq.mpr c44
                        have c44b1 : (t118 != 0) = false := bne_eq_false_iff_eq.mpr c44
                        clear c44
                        by_cases c45 : t117 = true
                        · subst c45
                          have H1 : (if t116 = 1 then ((drovewaylaw09_alive.f).bind fun t119 => (some t119)) else (some false)) = some r := by rw [if_pos rfl] at H; exact H
                          clear H
                          have H := H1
                          clear H1
                          by_cases c46 : t116 = 1
                          · rw [if_pos c46] at H
                            have c46b0 : (t116 == 1) = true := beq_iff_eq.mpr c46
                            have c46b1 : (t116 != 1) = false := bne_eq_false_iff_eq.mpr c46
                            clear c46
                            replace H := Option.bind_eq_some_iff.mp H
                            obtain ⟨t119, A470, H⟩ := H
                            replace H : (some t119) = some r := H
                            have A47 := Aside0.mk A470
                            clear A470
                            obtain rfl := Option.some.inj H
                            obtain ⟨Ao48, co48, eo48⟩ := Kd.R_slice HO_9.out
                            subst eo48
                            go_wp2_with (first | ((with_reducible refine gate_callee (f := 39) rfl ?_); refine goesL_ (some 118) rfl rfl Try.func39 (by kernel_rfl) rfl #[.int .i64 a0, .slice A1 l1.length c1, .slice Ao48 t108.length co48] rfl (by (try simp only [List.map_toArray, List.map_cons, List.map_nil]); first | done | rfl | (simp only [List.length_drop, List.length_take]; rfl)) ?_; (with_reducible refine (feuds_IsRing.calls a0 _ _ l1 _ _ t108 t116 true t118 _ ?side1 ?side2 ?side3 ?side4 A43.out).mono ?_); (case side1 => repeat (first | exact (Kd.C_below HR1.out HB.out) | (with_reducible refine Kd.C_alloc ?_ _) | (with_reducible refine Kd.C_drewN ?_ _) | (with_reducible refine Kd.C_drew ?_))); (case side2 => exact HC1.out); (case side3 => repeat (first | exact (Kd.R_reads' HO_9.out).2.2 | (with_reducible refine Kd.C_alloc ?_ _) | (with_reducible refine Kd.C_drewN ?_ _) | (with_reducible refine Kd.C_drew ?_))); (case side4 => exact (Kd.R_reads' HO_9.out).2.1); rintro e w49 ⟨rfl, hb⟩; refine ⟨_, rfl, ?_⟩; have n0_ := Aside0.mk (Kd.R_below (by (with_reducible repeat (first | apply Kd.R_alloc | apply Kd.R_drewN | apply Kd.R_drew)); exact HO_9.out) hb); have n1_ := Aside0.mk (below_step (by repeat (first | (with_reducible first | exact HB.out | apply below_alloc | apply pw_below_drewN | apply below_drew1) | exact HB.out)) hb); clear HO_9; clear HB; have HO_9 := n0_; have HB := n1_; clear n0_ n1_; (try clear hb); (try clear hb2); (try clear hk); (try clear hi)) | (go_at_call 17; (with_reducible refine (drovewaylaw09_alive.calls  t119 _ A47.out).mono ?_); rintro e w50 ⟨rfl, hb⟩; have n0_ := Aside0.mk (Kd.R_below (by (with_reducible repeat (first | apply Kd.R_alloc | apply Kd.R_drewN | apply Kd.R_drew)); exact HO_9.out) hb); have n1_ := Aside0.mk (below_step (by repeat (first | (with_reducible first | exact HB.out | apply below_alloc | apply pw_below_drewN | apply below_drew1) | exact HB.out)) hb); clear HO_9; clear HB; have HO_9 := n0_; have HB := n1_; clear n0_ n1_; (try clear hb); (try clear hb2); (try clear hk); (try clear hi)))
                            go_ret
                            exact ⟨by first | rfl | (simp [errW_none, errW_some] <;> rfl) | (simp [*, errW_none, errW_some] <;> rfl), by repeat (first | (with_reducible first | exact HB.out | apply below_alloc | apply pw_below_drewN | apply below_drew1) | exact HB.out)⟩
                          · rw [if_neg c46] at H
                            have c46b0 : (t116 == 1) = false := beq_eq_false_iff_ne.mpr c46
                            have c46b1 : (t116 != 1) = true := bne_iff_ne.mpr c46
                            obtain rfl := Option.some.inj H
                            obtain ⟨Ao51, co51, eo51⟩ := Kd.R_slice HO_9.out
                            subst eo51
                            go_wp2_with (first | ((with_reducible refine gate_callee (f := 39) rfl ?_); refine goesL_ (some 118) rfl rfl Try.func39 (by kernel_rfl) rfl #[.int .i64 a0, .slice A1 l1.length c1, .slice Ao51 t108.length co51] rfl (by (try simp only [List.map_toArray, List.map_cons, List.map_nil]); first | done | rfl | (simp only [List.length_drop, List.length_take]; rfl)) ?_; (with_reducible refine (feuds_IsRing.calls a0 _ _ l1 _ _ t108 t116 true t118 _ ?side1 ?side2 ?side3 ?side4 A43.out).mono ?_); (case side1 => repeat (first | exact (Kd.C_below HR1.out HB.out) | (with_reducible refine Kd.C_alloc ?_ _) | (with_reducible refine Kd.C_drewN ?_ _) | (with_reducible refine Kd.C_drew ?_))); (case side2 => exact HC1.out); (case side3 => repeat (first | exact (Kd.R_reads' HO_9.out).2.2 | (with_reducible refine Kd.C_alloc ?_ _) | (with_reducible refine Kd.C_drewN ?_ _) | (with_reducible refine Kd.C_drew ?_))); (case side4 => exact (Kd.R_reads' HO_9.out).2.1); rintro e w52 ⟨rfl, hb⟩; refine ⟨_, rfl, ?_⟩; have n0_ := Aside0.mk (Kd.R_below (by (with_reducible repeat (first | apply Kd.R_alloc | apply Kd.R_drewN | apply Kd.R_drew)); exact HO_9.out) hb); have n1_ := Aside0.mk (below_step (by repeat (first | (with_reducible first | exact HB.out | apply below_alloc | apply pw_below_drewN | apply below_drew1) | exact HB.out)) hb); clear HO_9; clear HB; have HO_9 := n0_; have HB := n1_; clear n0_ n1_; (try clear hb); (try clear hb2); (try clear hk); (try clear hi)))
                            go_ret
                            exact ⟨by first | rfl | (simp [errW_none, errW_some] <;> rfl) | (simp [*, errW_none, errW_some] <;> rfl), by repeat (first | (with_reducible first | exact HB.out | apply below_alloc | apply pw_below_drewN | apply below_drew1) | exact HB.out)⟩
                        · replace c45 := Bool.eq_false_iff.mpr c45
                          subst c45
                          have H1 : (some false) = some r := by rw [if_neg (show ¬ (false = true) by decide)] at H; exact H
                          clear H
                          have H := H1
                          clear H1
                          obtain rfl := Option.some.inj H
                          obtain ⟨Ao53, co53, eo53⟩ := Kd.R_slice HO_9.out
                          subst eo53
                          go_wp2_with (first | ((with_reducible refine gate_callee (f := 39) rfl ?_); refine goesL_ (some 118) rfl rfl Try.func39 (by kernel_rfl) rfl #[.int .i64 a0, .slice A1 l1.length c1, .slice Ao53 t108.length co53] rfl (by (try simp only [List.map_toArray, List.map_cons, List.map_nil]); first | done | rfl | (simp only [List.length_drop, List.length_take]; rfl)) ?_; (with_reducible refine (feuds_IsRing.calls a0 _ _ l1 _ _ t108 t116 false t118 _ ?side1 ?side2 ?side3 ?side4 A43.out).mono ?_); (case side1 => repeat (first | exact (Kd.C_below HR1.out HB.out) | (with_reducible refine Kd.C_alloc ?_ _) | (with_reducible refine Kd.C_drewN ?_ _) | (with_reducible refine Kd.C_drew ?_))); (case side2 => exact HC1.out); (case side3 => repeat (first | exact (Kd.R_reads' HO_9.out).2.2 | (with_reducible refine Kd.C_alloc ?_ _) | (with_reducible refine Kd.C_drewN ?_ _) | (with_reducible refine Kd.C_drew ?_))); (case side4 => exact (Kd.R_reads' HO_9.out).2.1); rintro e w54 ⟨rfl, hb⟩; refine ⟨_, rfl, ?_⟩; have n0_ := Aside0.mk (Kd.R_below (by (with_reducible repeat (first | apply Kd.R_alloc | apply Kd.R_drewN | apply Kd.R_drew)); exact HO_9.out) hb); have n1_ := Aside0.mk (below_step (by repeat (first | (with_reducible first | exact HB.out | apply below_alloc | apply pw_below_drewN | apply below_drew1) | exact HB.out)) hb); clear HO_9; clear HB; have HO_9 := n0_; have HB := n1_; clear n0_ n1_; (try clear hb); (try clear hb2); (try clear hk); (try clear hi)))
                          go_ret
                          exact ⟨by first | rfl | (simp [errW_none, errW_some] <;> rfl) | (simp [*, errW_none, errW_some] <;> rfl), by repeat (first | (with_reducible first | exact HB.out | apply below_alloc | apply pw_below_drewN | apply below_drew1) | exact HB.out)⟩
                      · rw [if_neg c44] at H
                        have c44b0 : (t118 == 0) = false := beq_eq_false_iff_ne.mpr c44
                        have c44b1 : (t118 != 0) = true := bne_iff_ne.mpr c44
                        obtain rfl := Option.some.inj H
                        obtain ⟨Ao55, co55, eo55⟩ := Kd.R_slice HO_9.out
                        subst eo55
                        go_wp2_with (first | ((with_reducible refine gate_callee (f := 39) rfl ?_); refine goesL_ (some 118) rfl rfl Try.func39 (by kernel_rfl) rfl #[.int .i64 a0, .slice A1 l1.length c1, .slice Ao55 t108.length co55] rfl (by (try simp only [List.map_toArray, List.map_cons, List.map_nil]); first | done | rfl | (simp only [List.length_drop, List.length_take]; rfl)) ?_; (with_reducible refine (feuds_IsRing.calls a0 _ _ l1 _ _ t108 t116 t117 t118 _ ?side1 ?side2 ?side3 ?side4 A43.out).mono ?_); (case side1 => repeat (first | exact (Kd.C_below HR1.out HB.out) | (with_reducible refine Kd.C_alloc ?_ _) | (with_reducible refine Kd.C_drewN ?_ _) | (with_reducible refine Kd.C_drew ?_))); (case side2 => exact HC1.out); (case side3 => repeat (first | exact (Kd.R_reads' HO_9.out).2.2 | (with_reducible refine Kd.C_alloc ?_ _) | (with_reducible refine Kd.C_drewN ?_ _) | (with_reducible refine Kd.C_drew ?_))); (case side4 => exact (Kd.R_reads' HO_9.out).2.1); rintro e w56 ⟨rfl, hb⟩; refine ⟨_, rfl, ?_⟩; have n0_ := Aside0.mk (Kd.R_below (by (with_reducible repeat (first | apply Kd.R_alloc | apply Kd.R_drewN | apply Kd.R_drew)); exact HO_9.out) hb); have n1_ := Aside0.mk (below_step (by repeat (first | (with_reducible first | exact HB.out | apply below_alloc | apply pw_below_drewN | apply below_drew1) | exact HB.out)) hb); clear HO_9; clear HB; have HO_9 := n0_; have HB := n1_; clear n0_ n1_; (try clear hb); (try clear hb2); (try clear hk); (try clear hi)))
                        go_ret
                        exact ⟨by first | rfl | (simp [errW_none, errW_some] <;> rfl) | (simp [*, errW_none, errW_some] <;> rfl), by repeat (first | (with_reducible first | exact HB.out | apply below_alloc | apply pw_below_drewN | apply below_drew1) | exact HB.out)⟩
                    · rw [if_neg c42] at H
                      have c42b0 : (t109 == 0) = false := beq_eq_false_iff_ne.mpr c42
                      have c42b1 : (t109 != 0) = true := bne_iff_ne.mpr c42
                      by_cases c57 : (t108.length : Int) = 0
                      · rw [if_pos c57] at H
                        have c57b0 : ((t108.length : Int) == 0) = true := beq_iff_eq.mpr c57
                        have c57b1 : ((t108.length : Int) != 0) = false := bne_eq_false_iff_eq.mpr c57
                        clear c57
                        replace H := Option.bind_eq_some_iff.mp H
                        obtain ⟨t120, A580, H⟩ := H
                        replace H : (some t120) = some r := H
                        have A58 := Aside0.mk A580
                        clear A580
                        obtain rfl := Option.some.inj H
                        obtain ⟨Ao59, co59, eo59⟩ := Kd.R_slice HO_9.out
                        subst eo59
                        go_wp2_with (first | (go_at_call 17; (with_reducible refine (drovewaylaw09_alive.calls  t120 _ A58.out).mono ?_); rintro e w60 ⟨rfl, hb⟩; have n0_ := Aside0.mk (Kd.R_below (by (with_reducible repeat (first | apply Kd.R_alloc | apply Kd.R_drewN | apply Kd.R_drew)); exact HO_9.out) hb); have n1_ := Aside0.mk (below_step (by repeat (first | (with_reducible first | exact HB.out | apply below_alloc | apply pw_below_drewN | apply below_drew1) | exact HB.out)) hb); clear HO_9; clear HB; have HO_9 := n0_; have HB := n1_; clear n0_ n1_; (try clear hb); (try clear hb2); (try clear hk); (try clear hi)))
                        go_ret
                        exact ⟨by first | rfl | (simp [errW_none, errW_some] <;> rfl) | (simp [*, errW_none, errW_some] <;> rfl), by repeat (first | (with_reducible first | exact HB.out | apply below_alloc | apply pw_below_drewN | apply below_drew1) | exact HB.out)⟩
                      · rw [if_neg c57] at H
                        have c57b0 : ((t108.length : Int) == 0) = false := beq_eq_false_iff_ne.mpr c57
                        have c57b1 : ((t108.length : Int) != 0) = true := bne_iff_ne.mpr c57
                        have c57b2 : ¬ (t108 = []) := fun h_ => c57 (by rw [h_]; rfl)
                        obtain rfl := Option.some.inj H
                        obtain ⟨Ao61, co61, eo61⟩ := Kd.R_slice HO_9.out
                        subst eo61
                        go_wp2
                        go_ret
                        exact ⟨by first | rfl | (simp [errW_none, errW_some] <;> rfl) | (simp [*, errW_none, errW_some] <;> rfl), by repeat (first | (with_reducible first | exact HB.out | apply below_alloc | apply pw_below_drewN | apply below_drew1) | exact HB.out)⟩

end Go.Proofs.Ytaegldcifhgnmaa.PFeudsDavis

-- Printed by hprint.py (this claim's own program, over the kit's print.py) out of the translation and contracts by hand. Not trusted: Lean checks it.
namespace Go.Proofs.Ytaegldcifhgnmaa.PFeudsDavis
open Go.Proofs.Ytaegldcifhgnmaa.A Go.Proofs.Ytaegldcifhgnmaa.B
open Go.RowKit Go.Proofs.YtaegldcifhgnmaaW.PrintWords Go.Proofs.YtaegldcifhgnmaaW.PrintLast Go.Proofs.YtaegldcifhgnmaaW.PrintMore
attribute [local go_sem] max2_int min2_int max_two min_two max_three min_three max_four min_four   -- for this text's walks alone
set_option linter.unusedVariables false
set_option linter.unusedSimpArgs false

end Go.Proofs.Ytaegldcifhgnmaa.PFeudsDavis

/- FeudsDavis, plain. -/
namespace Go.Proofs.Ytaegldcifhgnmaa.Pure
open Go.Proofs.Ytaegldcifhgnmaa.A Go.Proofs.Ytaegldcifhgnmaa.B Go.Proofs.Ytaegldcifhgnmaa.PFeudsDavis
open Go.RowKit Go.Proofs.YtaegldcifhgnmaaW.PrintWords Go.Proofs.YtaegldcifhgnmaaW.PrintMore

theorem alive_yes : ((drovewaylaw09_alive.f).bind fun t => (some t : Option Bool)) = some true := rfl
theorem isRing_ok {n : Int} {l : List S39} (ht : tiesE n l = 0) {x : List Int} (hx : x.length ≤ 1000) : feuds_IsRing.f n l x = some ((isRingR l x).1, (isRingR l x).2, 0) := by
  unfold feuds_IsRing.f isRingE
  rw [if_pos hx, if_pos ht, ringP_eq (tiesE_good ht)]
section
variable {n : Nat} {l : List S39}
theorem davis_j2_ring (ht : tiesE n l = 0) {r : List Int} (hr : findF oneB l n = some r) : Ev (fun k => drovewaylaw09_FeudsDavis.j2 k n l r 0 false) true := by
  obtain ⟨h1, h2, h3, h4, _⟩ := find_some (one := true) ask_one ht hr
  refine Ev.step (f := fun _ => some true) (fun k => ?_) (Ev.now _)
  have hn := (tiesE_parts ht).1
  rw [drovewaylaw09_FeudsDavis.j2, if_neg (by decide), if_pos rfl, isRing_ok ht (by omega), ringy_is h1 h3]
  rw [one_ask, decide_eq_true_iff] at h4
  simp only [Option.bind_some, if_true]
  rw [if_pos (by rw [h4]; rfl)]
  exact alive_yes
theorem davis_j2_none : Ev (fun k => drovewaylaw09_FeudsDavis.j2 k n l [] 10 false) true := by
  refine Ev.step (f := fun _ => some true) (fun k => ?_) (Ev.now _)
  rw [drovewaylaw09_FeudsDavis.j2, if_neg (by decide), if_neg (by decide)]
  exact alive_yes
theorem davis_j1 (ht : tiesE n l = 0) {x : List Int} (hx : x.length ≤ 1000) {x10 : Int} {x9 : List Int} (hj : Ev (fun k => drovewaylaw09_FeudsDavis.j2 k n l x9 x10 false) true)
    (hno : ∀ r, findF oneB l n = some r → x9 = r ∧ x10 = 0) : Ev (fun k => drovewaylaw09_FeudsDavis.j1 k n l x x9 x10 false) true := by
  cases e : isRingR l x with
  | mk fe is =>
  cases is with
  | false =>
    refine Ev.step (fun k => ?_) hj
    rw [drovewaylaw09_FeudsDavis.j1, if_neg (by decide), isRing_ok ht hx, e]
    rfl
  | true =>
    have hp := isRing_pair (l := l) (x := x) (by rw [e])
    rw [e] at hp
    dsimp only at hp
    obtain ⟨h1, h3, rfl⟩ := hp
    by_cases ho : feL l x = 1
    · cases ef : findF oneB l n with
      | none =>
        have := find_none (one := true) ask_one ht ef h3 h1
        rw [one_ask, decide_eq_false_iff_not] at this
        exact absurd ho this
      | some r =>
        obtain ⟨rfl, rfl⟩ := hno r ef
        obtain ⟨_, h5, _, _, h8⟩ := find_some (one := true) ask_one ht ef
        have h9 := h8 x h3 h1 (by rw [one_ask, decide_eq_true_iff]; exact ho)
        rcases h9 with h9 | ⟨h9, h10⟩
        · refine Ev.step (fun k => ?_) hj
          rw [drovewaylaw09_FeudsDavis.j1, if_neg (by decide), isRing_ok ht hx, e]
          simp only [Option.bind_some, if_true]
          rw [if_pos (by rw [ho]; rfl), if_neg (by omega), if_neg (by omega)]
        · refine Ev.step (f := fun k => (drovewayref09_Less.f k x x9).bind fun t115 => (drovewaylaw09_FeudsDavis.j2 k n l x9 0 t115)) (fun k => ?_) (Ev.bind (f := fun k t115 => (drovewaylaw09_FeudsDavis.j2 k n l x9 0 t115)) (less_ev x x9 hx) ?_)
          · rw [drovewaylaw09_FeudsDavis.j1, if_neg (by decide), isRing_ok ht hx, e]
            simp only [Option.bind_some, if_true]
            rw [if_pos (by rw [ho]; rfl), if_neg (by omega), if_pos (by omega)]
          · rw [h10]; exact hj
    · refine Ev.step (fun k => ?_) hj
      rw [drovewaylaw09_FeudsDavis.j1, if_neg (by decide), isRing_ok ht hx, e]
      simp only [Option.bind_some, if_true]
      rw [if_neg (fun h => ho (by exact_mod_cast h))]
end
theorem davis_yes (n : Int) (l : List S39) (x : List Int) : Ev (fun k => drovewaylaw09_FeudsDavis.j0 k n l x true) true := by
  refine Ev.step (f := fun _ => some true) (fun k => ?_) (Ev.now _)
  rw [drovewaylaw09_FeudsDavis.j0, if_pos rfl]
  exact alive_yes
theorem FeudsDavis (a0 : Int) (l1 : List S39) (l2 : List Int) : ∃ k, drovewaylaw09_FeudsDavis.f k a0 l1 l2 = some true := by
  refine Ev.rounds ?_
  unfold drovewaylaw09_FeudsDavis.f
  rw [few_eq]
  simp only [Option.bind_some]
  by_cases h60 : l1.length ≤ 60 ∧ l2.length ≤ 60
  · rw [show decide (l1.length ≤ 60 ∧ l2.length ≤ 60) = true from decide_eq_true h60]
    simp only [if_true]
    refine Ev.bind (f := fun k t102 => drovewaylaw09_FeudsDavis.j0 k a0 l1 l2 (t102 != 0)) (Ties_ev (n := a0) (l := l1) (by omega)) ?_
    by_cases ht : tiesE a0 l1 = 0
    · have h1 := tiesE_parts ht
      obtain ⟨n, rfl⟩ : ∃ n : Nat, a0 = n := ⟨a0.toNat, by omega⟩
      rw [ht]
      have hd := davis ht
      by_cases hc : clashB l1 (sortI (groupsF friendB n l1)) l1.length = true
      · obtain ⟨r, hr⟩ := hd.mp hc
        refine Ev.step (fun k => ?_) (davis_j1 ht (x := l2) (by omega) (x9 := r) (x10 := 0) (davis_j2_ring ht hr) (fun r' h' => by rw [hr] at h'; cases h'; exact ⟨rfl, rfl⟩))
        rw [drovewaylaw09_FeudsDavis.j0, if_neg (by decide)]
        unfold feuds_Clans.f feuds_Spoilt.f clansF ringF
        rw [if_pos ht, if_pos ht, Int.toNat_natCast, if_pos hc, hr]
        rfl
      · have hr : findF oneB l1 n = none := by
          cases e : findF oneB l1 n with
          | none => rfl
          | some r => exact absurd (hd.mpr ⟨r, e⟩) hc
        refine Ev.step (fun k => ?_) (davis_j1 ht (x := l2) (by omega) (x9 := []) (x10 := 10) davis_j2_none (fun r' h' => by rw [hr] at h'; cases h'))
        rw [drovewaylaw09_FeudsDavis.j0, if_neg (by decide)]
        unfold feuds_Clans.f feuds_Spoilt.f clansF ringF
        rw [if_pos ht, if_pos ht, Int.toNat_natCast, if_neg hc, hr]
        obtain ⟨v, h2, h3, _⟩ := least_of (q := friendB) (okN_ties ht) (a := 0) (by omega)
        have hm := sortI_mem.mpr ((groups_mem (q := friendB) (by omega) (okN_ties ht)).mpr ⟨v, by omega, h3, rfl⟩)
        have hlen : 0 < (sortI (groupsF friendB n l1)).length := List.length_pos_of_mem hm
        have : decide (((sortI (groupsF friendB n l1)).length : Int) > 0) = true := decide_eq_true (by omega)
        simp only [Option.bind_some, ringZ, this]
        rfl
    · rw [show (tiesE a0 l1 != 0) = true from by rw [bne_iff_ne]; exact ht]
      exact davis_yes _ _ _
  · rw [show decide (l1.length ≤ 60 ∧ l2.length ≤ 60) = false from decide_eq_false h60]
    exact Ev.congr (fun k => by rw [if_neg (by decide)]) (davis_yes _ _ _)
end Go.Proofs.Ytaegldcifhgnmaa.Pure

/- FeudsDavis, as it is called. -/
namespace Go.Proofs.Ytaegldcifhgnmaa.B
open Go.Proofs.Ytaegldcifhgnmaa.A
open Go.RowKit Go.Proofs.YtaegldcifhgnmaaW.PrintWords Go.Proofs.YtaegldcifhgnmaaW.PrintMore
theorem davis_any (a0 : Int) (A1 : Option Addr) (c1 : Nat) (l1 : List S39) (A2 : Option Addr) (c2 : Nat) (l2 : List Int) (w : World) (hr1 : Kd.C k39 w A1 l1.length l1) (hc1 : l1.length ≤ c1) (hr2 : Kd.C (Kd.int .i64) w A2 l2.length l2) (hc2 : l2.length ≤ c2) :
    Calls Try.prog 10 #[.int .i64 a0, .slice A1 l1.length c1, .slice A2 l2.length c2] w fun e w' => e = .returned (.bool true) ∧ Below w.heap.size w w' := by
  obtain ⟨k, h⟩ := Pure.FeudsDavis a0 l1 l2
  exact PFeudsDavis.drovewaylaw09_FeudsDavis.calls k a0 A1 c1 l1 A2 c2 l2 true w hr1 hc1 hr2 hc2 h
end Go.Proofs.Ytaegldcifhgnmaa.B

/- An argument that is a slice of ties, opened to a row of cells. -/
namespace Go.Proofs.Ytaegldcifhgnmaa.A
open Go.ChangeShapes Go.WideShapes Go.Deep
open Go.RowKit Go.Proofs.YtaegldcifhgnmaaW.PrintWords

theorem list_of {α : Type} {P : Nat → α → Prop} : ∀ n, (∀ i, i < n → ∃ x, P i x) → ∃ l : List α, l.length = n ∧ ∀ (i : Nat) (x : α), l[i]? = some x → P i x := by
  intro n
  induction n with
  | zero => exact fun _ => ⟨[], rfl, fun i x h => by simp at h⟩
  | succ n ih =>
    intro h
    obtain ⟨l, hl, hp⟩ := ih (fun i hi => h i (by omega))
    obtain ⟨x, hx⟩ := h n (by omega)
    refine ⟨l ++ [x], by simp [hl], fun i y hy => ?_⟩
    by_cases hi : i < l.length
    · rw [List.getElem?_append_left hi] at hy
      exact hp i y hy
    · have e : i = n := by
        have := (List.getElem?_eq_some_iff.1 hy).1
        rw [List.length_append, List.length_singleton] at this
        omega
      subst e
      have : x = y := by simpa [← hl] using hy
      subst this
      exact hx

set_option maxRecDepth 100000 in
theorem open_ties {H : Type} {enc : TypeId × Value → H} {W : World} {a : Option Addr} {len cap : Nat} {d : DataW H} {p : List MemPlace} (h : DataW.Trod enc Try.prog W 0 (fun _ => true) true 22 (.slice a len cap) d p) :
    ∃ ps : List S39, ps.length = len ∧ len ≤ cap ∧ cap ≤ maxLen ∧ Kd.C k39 W a len ps := by
  obtain ⟨fuel, hf⟩ := h
  rcases open_slice Try.underlying22 hf with ⟨hcs, _⟩ | ⟨x, l, c, m, n, D, Pl, hcs, _, hl, hm, hmm, _, hi⟩
  · simp [Value.cells] at hcs
    obtain ⟨rfl, rfl, rfl⟩ := hcs
    exact ⟨[], rfl, Nat.le_refl _, Nat.zero_le _, rfl, by omega, fun h => absurd h (by omega)⟩
  · simp [Value.cells] at hcs
    obtain ⟨rfl, rfl, rfl⟩ := hcs
    have hC : Try.prog.cellsOf 39 = 3 := by kernel_rfl
    have he : ∀ i, i < len → ∃ q : S39, W.cell? (x.add (i * 3)) = some (.int .i64 q.f0) ∧ W.cell? (x.add (i * 3 + 1)) = some (.int .i64 q.f1) ∧ W.cell? (x.add (i * 3 + 2)) = some (.bool q.f2) := by
      intro i hil
      obtain ⟨cs', hc, ht'⟩ := hi i (by rw [hmm, if_pos rfl]; omega)
      rw [hC] at hc
      obtain ⟨ys, n', _, _, hlen, hyl, hfd⟩ := DataW.trod_struct Try.underlying39 ht'
      obtain ⟨_, hcl, hat⟩ := World.cells?_some hc
      have h0 := hfd 0 _ rfl
      have h1 := hfd 1 _ rfl
      have h2 := hfd 2 _ rfl
      match cs', hcl, ys, hyl with
      | [c0, c1, c2], _, [y0, y1, y2], _ =>
        have e0 : Try.prog.cellsOf 3 = 1 := by kernel_rfl
        have e4 : Try.prog.cellsOf 4 = 1 := by kernel_rfl
        simp [e0, e4] at h0 h1 h2
        obtain ⟨n0, hn0, _, _⟩ := DataW.trod_int Try.underlying3 h0
        obtain ⟨n1, hn1, _, _⟩ := DataW.trod_int Try.underlying3 h1
        obtain ⟨n2, hn2, _⟩ := DataW.trod_bool Try.underlying4 h2
        simp at hn0 hn1 hn2
        subst hn0 hn1 hn2
        refine ⟨⟨n0, n1, n2⟩, ?_, ?_, ?_⟩
        · have := hat 0 (by omega)
          rw [Go.Deep.add_add] at this
          exact this
        · have := hat 1 (by omega)
          rw [Go.Deep.add_add] at this
          exact this
        · have := hat 2 (by omega)
          rw [Go.Deep.add_add] at this
          exact this
    obtain ⟨ps, hps, hall⟩ := list_of len he
    refine ⟨ps, hps, hl, hm, hps, by unfold maxLen at hm; omega, fun _ => ⟨x, rfl, fun j q hj => ⟨[.int .i64 q.f0, .int .i64 q.f1, .bool q.f2], rfl, k39_mk W q, fun i u hu => ?_⟩⟩⟩
    obtain ⟨g0, g1, g2⟩ := hall j q hj
    match i, hu with
    | 0, hu => cases hu; exact g0
    | 1, hu => cases hu; exact g1
    | 2, hu => cases hu; exact g2
end Go.Proofs.Ytaegldcifhgnmaa.A

/- FeudsDavis holds: its code returns true and leaves what it was given as it was. Conditions: those of the given statement, none besides. -/
namespace Go.Proofs.Ytaegldcifhgnmaa.feudsDavis
open Go.ChangeShapes Go.WideShapes Go.ChangeAt Go.RowKit
open Go.ChangeMaps (open_string shut_string)
open Go.Proofs.YtaegldcifhgnmaaW.PrintWords
open Go.Proofs.Ytaegldcifhgnmaa.A Go.Proofs.Ytaegldcifhgnmaa.B
set_option linter.unusedVariables false
theorem own : ownKnob Try.prog.godebug = none := by kernel_rfl
theorem laidOut : laidOutB Try.prog = true := by kernel_rfl
def IsRow (k : IntKind) (w : World) (a : Option Addr) (len cap : Nat) (zs : List Int) : Prop :=
  (a = none ∧ len = 0 ∧ cap = 0 ∧ zs = []) ∨
  ∃ x, a = some x ∧ len ≤ cap ∧ cap ≤ maxLen ∧ zs.length = cap ∧ (∀ i, i < zs.length → w.cell? (x.add i) = some (.int k (zs.getD i 0))) ∧ ∀ n ∈ zs, (Lit.int k n).wf = true
set_option maxRecDepth 100000 in
theorem lifted (os : Os) (started : os.Started) (H : Type) (enc : TypeId × Value → H) :
    ReturnsInHanded {} Try.checked os 10 .any (Rows.feudsDavisSpec.pre6 enc Try.prog Try.f10 Rows.feudsDavisRow.domain false) (Rows.feudsDavisSpec.post enc Try.prog Try.f10 false true false false) := by
  refine returnsInHanded_of_change_sized (C := Try.checked) own started (by kernel_rfl) Try.func10
    (ChangeSpec.witness6 (enc := enc) (C := Try.checked) false ⟨#[], #[.int .i64 0, .slice none 0 0, .slice none 0 0], []⟩ 8 (by kernel_rfl) (by kernel_rfl) (by kernel_rfl) (by kernel_rfl)) ?_
  intro W base args ds gs before hval0 hW hcnd hsz0 _
  have hsz : (DataW.weightsEach Try.prog (Try.f10.params.toList ++ Rows.feudsDavisSpec.plain.varTypes Try.prog) (ds ++ gs)).all (· ≤ reachBytes) = true := hsz0
  have hval : ∀ (j : Nat) t v, Try.f10.params[j]? = some t → args[j]? = some v → Value.okWide Try.prog W .any base t v := hval0
  have hW' := hW
  obtain ⟨p, q, hA0, hV, rfl, hfz, hnd⟩ := hW
  have hA : DataW.TrodAll enc Try.prog W 0 (fun _ => true) true Try.f10.params.toList args.toList ds p := hA0
  rw [Try.params10] at hA hval hsz
  obtain ⟨v0, vs0, d0, ds0, p0, q0, hargs, rfl, rfl, h0, r0⟩ := trodAll_cons hA
  obtain ⟨v1, vs1, d1, ds1, p1, q1, rfl, rfl, rfl, h1, r1⟩ := trodAll_cons r0
  obtain ⟨v2, vs2, d2, ds2, p2, q2, rfl, rfl, rfl, h2, r2⟩ := trodAll_cons r1
  obtain ⟨rfl, rfl, rfl⟩ := trodAll_nil r2
  obtain rfl : args = #[v0, v1, v2] := by cases args; simp_all
  obtain ⟨rfl, rfl⟩ := trodVars_none hV
  obtain ⟨a0, rfl, rfl, rfl, w0⟩ := open_int Try.underlying3 (hval 0 3 v0 rfl rfl) h0
  obtain ⟨a1, len1, cap1, rfl⟩ := okWide_slice Try.underlying22 (hval 1 22 v1 rfl rfl)
  have k1 := h1
  have lt1 : ∀ x ∈ p1, x.block < W.heap.size := by obtain ⟨m, hm⟩ := k1; exact DataW.trod_lt m _ _ _ hm
  obtain ⟨l1, rfl, hc1, hm1, hr1⟩ := open_ties h1
  obtain ⟨a2, len2, cap2, rfl⟩ := okWide_slice Try.underlying28 (hval 2 28 v2 rfl rfl)
  have k2 := h2
  have lt2 : ∀ x ∈ p2, x.block < W.heap.size := by obtain ⟨m, hm⟩ := k2; exact DataW.trod_lt m _ _ _ hm
  obtain ⟨z2, w2⟩ : ∃ zs, IsRow .i64 W a2 len2 cap2 zs := by
    obtain ⟨fuel, hf⟩ := h2
    rcases open_ints Try.underlying28 Try.underlying3 (by kernel_rfl) hf with ⟨hcs, _⟩ | ⟨x, l, c, zs, hcs, _, hl, hm, hz, _, hcell, hwz⟩
    · simp [Value.cells] at hcs
      obtain ⟨rfl, rfl, rfl⟩ := hcs
      exact ⟨[], .inl ⟨rfl, rfl, rfl, rfl⟩⟩
    · simp [Value.cells] at hcs
      obtain ⟨rfl, rfl, rfl⟩ := hcs
      exact ⟨zs, .inr ⟨_, rfl, hl, hm, by simpa using hz, hcell, hwz⟩⟩
  have y2 : len2 * 8 ≤ 140737488351232 := Go.Proofs.YtaegldcifhgnmaaW.PrintWords.sized_ints hsz (j := 2) (t := 28) rfl rfl Try.underlying28 Try.underlying3 (by kernel_rfl) (by kernel_rfl) h2
  obtain ⟨l2, rfl, hr2, hm2, hw2, hc2⟩ := ReadsInt.ofRowC w2
  clear hA0 hval0 hsz0 hsz
  refine (davis_any a0 a1 cap1 l1 a2 cap2 l2 W hr1 hc1 (Kd.C_of_reads (d := (0 : Int)) (h1 := fun _ => rfl) hr2) hc2).mono fun e W' ⟨he, bel⟩ => ?_
  subst he
  exact ⟨_, rfl, _, _, _, [], _, [], hW', trodAll_mk1 (shut_bool Try.underlying4 _), (trodAll_cons_mk (shut_int Try.underlying3 w0) (trodAll_cons_mk (Below.trod laidOut (by kernel_rfl) (of_decide_eq_true (by kernel_rfl)) k1 bel lt1) (trodAll_cons_mk (Below.trod laidOut (by kernel_rfl) (of_decide_eq_true (by kernel_rfl)) k2 bel lt2) trodAll_mk0))), rfl, bel.frame _, fun h => by cases h⟩
theorem over : Rows.feudsDavisRow.holds Try.pinned (OpenSpec.ofChange Rows.feudsDavisSpec) :=
  OpenClaim.holds_of_wide 10 Try.f10 rfl rfl rfl rfl rfl rfl rfl ⟨rfl, rfl, rfl, rfl, rfl⟩ rfl rfl rfl rfl rfl (by kernel_rfl) Try.func10 (by kernel_rfl)
    (of_decide_eq_true (by kernel_rfl)) (by unfold Func.isWrapper; first | (rw [if_pos (by decide +kernel)]; kernel_rfl) | (rw [if_neg (by decide +kernel)]; exact ⟨rfl, rfl⟩))
    (fun os started H enc _ => lifted os started H enc)
theorem proved : Rows.FeudsDavisSaid := over
#print axioms proved
end Go.Proofs.Ytaegldcifhgnmaa.feudsDavis
namespace Go.Proofs.Ytaegldcifhgnmaa
/-- The row, under a short name, for the claim. -/
theorem feudsDavis_holds : Rows.FeudsDavisSaid := feudsDavis.proved
end Go.Proofs.Ytaegldcifhgnmaa
