/- AmbushGuards holds: its code returns true and leaves what it was given as it was. Conditions: those of the given statement, none besides. -/
import Derived.Test.YtbjpjjokamaliaaZAmbushGuards1
import Derived.KernelRfl
import Derived.Test.YtbjpjjokamaliaaRows
import Derived.WalkKit
import Derived.ProofKit
import Derived.OpenShut
import Derived.ShutString
import Derived.ChangeOld
import Derived.Below
import Derived.SizedLaws
import Derived.Test.YtbjpjjokamaliaaWSized
-- Printed by hprint.py (this claim's own program, over the kit's print.py) out of the translation and contracts by hand. Not trusted: Lean checks it.
namespace Go.Proofs.Ytbjpjjokamaliaa.PAmbushGuards
open Go.Proofs.Ytbjpjjokamaliaa.A Go.Proofs.Ytbjpjjokamaliaa.B
open Go.RowKit Go.Proofs.YtbjpjjokamaliaaW.PrintWords Go.Proofs.YtbjpjjokamaliaaW.PrintLast Go.Proofs.YtbjpjjokamaliaaW.PrintMore
attribute [local go_sem] max2_int min2_int max_two min_two max_three min_three max_four min_four   -- for this text's walks alone
set_option linter.unusedVariables false
set_option linter.unusedSimpArgs false

/-! ### drovewaylaw04_AmbushGuards: function 10 -/
mutual
def drovewaylaw04_AmbushGuards.j0 : Nat → Int → List Int → Bool → Option (Bool)
  | 0, _, _, _ => none
  | k + 1, x0, x1, x35 => if x35 = true then (some false) else ((ambush_Needs.f x0 x1).bind fun bt125 => ((drovewayref04_Needs.f x0 x1).bind fun bt127 => (if bt125.1 = bt127.1 then (drovewaylaw04_AmbushGuards.j1 k x0 x1 (bt125.2 != bt127.2)) else (drovewaylaw04_AmbushGuards.j1 k x0 x1 true))))
def drovewaylaw04_AmbushGuards.j1 : Nat → Int → List Int → Bool → Option (Bool)
  | 0, _, _, _ => none
  | k + 1, x0, x1, x55 => if x55 = true then (some false) else ((ambush_Least.f x0 x1).bind fun bt129 => ((drovewayref04_Least.f k x0 x1).bind fun bt133 => ((drovewaylaw04_same.f k bt129.1 bt133.1).bind fun t137 => (if t137 = true then (if bt129.2 = bt133.2 then ((drovewaylaw04_alive.f).bind fun t138 => (some t138)) else (some false)) else (some false)))))
end
def drovewaylaw04_AmbushGuards.f (k : Nat) (a0 : Int) (l1 : List Int) : Option (Bool) := (drovewaylaw04_few.f l1 (⟨#[]⟩ : ByteArray) (⟨#[]⟩ : ByteArray)).bind fun t114 => (if t114 = true then ((ambush_Guards.f a0 l1).bind fun bt116 => ((drovewayref04_Guards.f a0 l1).bind fun bt120 => ((drovewaylaw04_same.f k bt116.1 bt120.1).bind fun t124 => (if t124 = true then (drovewaylaw04_AmbushGuards.j0 k a0 l1 (bt116.2 != bt120.2)) else (drovewaylaw04_AmbushGuards.j0 k a0 l1 true))))) else ((drovewaylaw04_alive.f).bind fun t115 => (some t115)))
theorem drovewaylaw04_AmbushGuards.mono_l : ∀ k, (∀ y0 y1 y2, LeO (drovewaylaw04_AmbushGuards.j0 k y0 y1 y2) (drovewaylaw04_AmbushGuards.j0 (k + 1) y0 y1 y2)) ∧ (∀ y0 y1 y2, LeO (drovewaylaw04_AmbushGuards.j1 k y0 y1 y2) (drovewaylaw04_AmbushGuards.j1 (k + 1) y0 y1 y2))
  | 0 => ⟨fun _ _ _ r h => by simp [drovewaylaw04_AmbushGuards.j0] at h, fun _ _ _ r h => by simp [drovewaylaw04_AmbushGuards.j1] at h⟩
  | k + 1 => by
    obtain ⟨ih0, ih1⟩ := drovewaylaw04_AmbushGuards.mono_l k
    refine ⟨?_, ?_⟩
    · intro y0 y1 y2
      unfold drovewaylaw04_AmbushGuards.j0
      repeat' first
      | (with_reducible exact ih0 _ _ _)
      | (with_reducible exact ih1 _ _ _)
      | (with_reducible exact drovewaylaw04_same.mono _ _ _)
      | (with_reducible exact drovewayref04_Least.mono _ _ _)
      | (with_reducible exact LeO.refl _)
      | (with_reducible exact LeO.none _)
      | (with_reducible refine LeO.ite ?_ ?_)
      | (with_reducible refine LeO.bind ?_ (fun _ => ?_))
      | exact ih0 _ _ _
      | exact ih1 _ _ _
      | exact drovewaylaw04_same.mono _ _ _
      | exact drovewayref04_Least.mono _ _ _
      | exact LeO.none _
      | refine LeO.ite ?_ ?_
      | refine LeO.bind ?_ (fun _ => ?_)
    · intro y0 y1 y2
      unfold drovewaylaw04_AmbushGuards.j1
      repeat' first
      | (with_reducible exact ih0 _ _ _)
      | (with_reducible exact ih1 _ _ _)
      | (with_reducible exact drovewaylaw04_same.mono _ _ _)
      | (with_reducible exact drovewayref04_Least.mono _ _ _)
      | (with_reducible exact LeO.refl _)
      | (with_reducible exact LeO.none _)
      | (with_reducible refine LeO.ite ?_ ?_)
      | (with_reducible refine LeO.bind ?_ (fun _ => ?_))
      | exact ih0 _ _ _
      | exact ih1 _ _ _
      | exact drovewaylaw04_same.mono _ _ _
      | exact drovewayref04_Least.mono _ _ _
      | exact LeO.none _
      | refine LeO.ite ?_ ?_
      | refine LeO.bind ?_ (fun _ => ?_)
theorem drovewaylaw04_AmbushGuards.mono : ∀ a0 a1 k, LeO (drovewaylaw04_AmbushGuards.f k a0 a1) (drovewaylaw04_AmbushGuards.f (k + 1) a0 a1) := by
  intro a0 a1 k
  obtain ⟨ih0, ih1⟩ := drovewaylaw04_AmbushGuards.mono_l k
  unfold drovewaylaw04_AmbushGuards.f
  repeat' first
      | (with_reducible exact ih0 _ _ _)
      | (with_reducible exact ih1 _ _ _)
      | (with_reducible exact drovewaylaw04_same.mono _ _ _)
      | (with_reducible exact drovewayref04_Least.mono _ _ _)
      | (with_reducible exact LeO.refl _)
      | (with_reducible exact LeO.none _)
      | (with_reducible refine LeO.ite ?_ ?_)
      | (with_reducible refine LeO.bind ?_ (fun _ => ?_))
      | exact ih0 _ _ _
      | exact ih1 _ _ _
      | exact drovewaylaw04_same.mono _ _ _
      | exact drovewayref04_Least.mono _ _ _
      | exact LeO.none _
      | refine LeO.ite ?_ ?_
      | refine LeO.bind ?_ (fun _ => ?_)
set_option maxHeartbeats 8000000 in
set_option maxRecDepth 100000 in
theorem drovewaylaw04_AmbushGuards.calls (k : Nat) (a0 : Int) (A1 : Option Addr) (c1 : Nat) (l1 : List Int) (r : Bool) (w : World) (hr1 : Kd.C (Kd.int .i64) w A1 l1.length l1) (hc1 : l1.length ≤ c1) (h : drovewaylaw04_AmbushGuards.f k a0 l1 = some r) :
    Calls Try.prog 10 #[.int .i64 a0, .slice A1 l1.length c1] w fun e w' => e = .returned (.bool r) ∧ Below w.heap.size w w' := by
  have HR1 := Aside0.mk hr1
  have HC1 := Aside0.mk hc1
  clear hr1 hc1
  have HB := Aside0.mk (Below.refl w.heap.size w)
  have H : ((drovewaylaw04_few.f l1 (⟨#[]⟩ : ByteArray) (⟨#[]⟩ : ByteArray)).bind fun t114 => (if t114 = true then ((ambush_Guards.f a0 l1).bind fun bt116 => ((drovewayref04_Guards.f a0 l1).bind fun bt120 => ((drovewaylaw04_same.f k bt116.1 bt120.1).bind fun t124 => (if t124 = true then (drovewaylaw04_AmbushGuards.j0 k a0 l1 (bt116.2 != bt120.2)) else (drovewaylaw04_AmbushGuards.j0 k a0 l1 true))))) else ((drovewaylaw04_alive.f).bind fun t115 => (some t115)))) = some r := h
  clear h
  replace H := Option.bind_eq_some_iff.mp H
  obtain ⟨t114, A30, H⟩ := H
  replace H : (if t114 = true then ((ambush_Guards.f a0 l1).bind fun bt116 => ((drovewayref04_Guards.f a0 l1).bind fun bt120 => ((drovewaylaw04_same.f k bt116.1 bt120.1).bind fun t124 => (if t124 = true then (drovewaylaw04_AmbushGuards.j0 k a0 l1 (bt116.2 != bt120.2)) else (drovewaylaw04_AmbushGuards.j0 k a0 l1 true))))) else ((drovewaylaw04_alive.f).bind fun t115 => (some t115))) = some r := H
  have A3 := Aside0.mk A30
  clear A30
  by_cases c4 : t114 = true
  · subst c4
    have H1 : ((ambush_Guards.f a0 l1).bind fun bt116 => ((drovewayref04_Guards.f a0 l1).bind fun bt120 => ((drovewaylaw04_same.f k bt116.1 bt120.1).bind fun t124 => (if t124 = true then (drovewaylaw04_AmbushGuards.j0 k a0 l1 (bt116.2 != bt120.2)) else (drovewaylaw04_AmbushGuards.j0 k a0 l1 true))))) = some r := by rw [if_pos rfl] at H; exact H
    clear H
    have H := H1
    clear H1
    replace H := Option.bind_eq_some_iff.mp H
    obtain ⟨⟨t116, t117⟩, A50, H⟩ := H
    replace H : ((drovewayref04_Guards.f a0 l1).bind fun bt120 => ((drovewaylaw04_same.f k t116 bt120.1).bind fun t124 => (if t124 = true then (drovewaylaw04_AmbushGuards.j0 k a0 l1 (t117 != bt120.2)) else (drovewaylaw04_AmbushGuards.j0 k a0 l1 true)))) = some r := H
    have A5 := Aside0.mk A50
    clear A50
    replace H := Option.bind_eq_some_iff.mp H
    obtain ⟨⟨t120, t121⟩, A60, H⟩ := H
    replace H : ((drovewaylaw04_same.f k t116 t120).bind fun t124 => (if t124 = true then (drovewaylaw04_AmbushGuards.j0 k a0 l1 (t117 != t121)) else (drovewaylaw04_AmbushGuards.j0 k a0 l1 true))) = some r := H
    have A6 := Aside0.mk A60
    clear A60
    have HC7 := Aside0.mk H
    clear H
    go_enter Try.func10, Try.ntmps10
    go_upto_region 5 with (first | ((with_reducible refine gate_callee (f := 11) rfl ?_); refine goesL_ (some 12) rfl rfl Try.func11 (by kernel_rfl) rfl #[.slice A1 l1.length c1, .string (⟨#[]⟩ : ByteArray), .string (⟨#[]⟩ : ByteArray)] rfl (by (try simp only [List.map_toArray, List.map_cons, List.map_nil]); first | done | rfl | (simp only [List.length_drop, List.length_take]; rfl)) ?_; (with_reducible refine (drovewaylaw04_few.calls _ _ l1 (⟨#[]⟩ : ByteArray) (⟨#[]⟩ : ByteArray) true _ ?side1 ?side2 A3.out).mono ?_); (case side1 => repeat (first | exact HR1.out | (with_reducible refine Kd.C_alloc ?_ _) | (with_reducible refine Kd.C_drewN ?_ _) | (with_reducible refine Kd.C_drew ?_))); (case side2 => exact HC1.out); rintro e w' ⟨rfl, ⟨nd, rfl⟩⟩; refine ⟨_, rfl, ?_⟩) | ((with_reducible refine gate_callee (f := 19) rfl ?_); refine goesL_ (some 18) rfl rfl Try.func19 (by kernel_rfl) rfl #[.int .i64 a0, .slice A1 l1.length c1] rfl (by (try simp only [List.map_toArray, List.map_cons, List.map_nil]); first | done | rfl | (simp only [List.length_drop, List.length_take]; rfl)) ?_; (with_reducible refine (ambush_Guards.calls a0 _ _ l1 t116 t117 _ ?side1 ?side2 A5.out).mono ?_); (case side1 => repeat (first | exact HR1.out | (with_reducible refine Kd.C_alloc ?_ _) | (with_reducible refine Kd.C_drewN ?_ _) | (with_reducible refine Kd.C_drew ?_))); (case side2 => exact HC1.out); rintro e w8 ⟨v118, rfl, ho0, hb⟩; refine ⟨_, rfl, ?_⟩; have n0_ := Aside0.mk (Kd.R_lower ho0 (below_size (by repeat (first | (with_reducible first | exact HB.out | apply below_alloc | apply pw_below_drewN | apply below_drew1) | exact HB.out)))); have n1_ := Aside0.mk (below_step (by repeat (first | (with_reducible first | exact HB.out | apply below_alloc | apply pw_below_drewN | apply below_drew1) | exact HB.out)) hb); clear HB; have HO119 := n0_; have HB := n1_; clear n0_ n1_; (try clear hb); (try clear hb2); (try clear hk); (try clear hi); (try clear ho0)) | ((with_reducible refine gate_callee (f := 34) rfl ?_); refine goesL_ (some 24) rfl rfl Try.func34 (by kernel_rfl) rfl #[.int .i64 a0, .slice A1 l1.length c1] rfl (by (try simp only [List.map_toArray, List.map_cons, List.map_nil]); first | done | rfl | (simp only [List.length_drop, List.length_take]; rfl)) ?_; (with_reducible refine (drovewayref04_Guards.calls a0 _ _ l1 t120 t121 _ ?side1 ?side2 A6.out).mono ?_); (case side1 => repeat (first | exact (Kd.C_below HR1.out HB.out) | (with_reducible refine Kd.C_alloc ?_ _) | (with_reducible refine Kd.C_drewN ?_ _) | (with_reducible refine Kd.C_drew ?_))); (case side2 => exact HC1.out); rintro e w9 ⟨v122, rfl, ho0, hb⟩; refine ⟨_, rfl, ?_⟩; have n0_ := Aside0.mk (Kd.R_elder' (by (with_reducible repeat (first | apply Kd.R_alloc | apply Kd.R_drewN | apply Kd.R_drew)); exact HO119.out) (Kd.R_base ho0) hb); have n1_ := Aside0.mk (Kd.R_lower (Kd.R_new' ho0 (Kd.R_lt (by (with_reducible repeat (first | apply Kd.R_alloc | apply Kd.R_drewN | apply Kd.R_drew)); exact HO119.out))) (below_size (by repeat (first | (with_reducible first | exact HB.out | apply below_alloc | apply pw_below_drewN | apply below_drew1) | exact HB.out)))); have n2_ := Aside0.mk (below_step (by repeat (first | (with_reducible first | exact HB.out | apply below_alloc | apply pw_below_drewN | apply below_drew1) | exact HB.out)) hb); clear HO119; clear HB; have HO119 := n0_; have HO123 := n1_; have HB := n2_; clear n0_ n1_ n2_; (try clear hb); (try clear hb2); (try clear hk); (try clear hi); (try clear ho0)))
    (try simp only [Act.put, List.setIfInBounds_toArray, List.set_cons_zero, List.set_cons_succ])
    go_cut [35] (fun v35 wc => ∃ (kq : Nat) (x35_6 : Bool), v35 = .bool x35_6 ∧ Aside0 (drovewaylaw04_AmbushGuards.j0 kq a0 l1 x35_6 = some r) ∧ Aside0 (kq ≤ k) ∧ Aside0 (Below w.heap.size w wc))
    case first =>
      have H := HC7.out
      clear HC7
      replace H := Option.bind_eq_some_iff.mp H
      obtain ⟨t124, A100, H⟩ := H
      replace H : (if t124 = true then (drovewaylaw04_AmbushGuards.j0 k a0 l1 (t117 != t121)) else (drovewaylaw04_AmbushGuards.j0 k a0 l1 true)) = some r := H
      have A10 := Aside0.mk A100
      clear A100
      by_cases c11 : t124 = true
      · subst c11
        have H1 : (drovewaylaw04_AmbushGuards.j0 k a0 l1 (t117 != t121)) = some r := by rw [if_pos rfl] at H; exact H
        clear H
        have H := H1
        clear H1
        have H' := Aside0.mk H
        clear H
        obtain ⟨Ao12, co12, eo12⟩ := Kd.R_slice HO119.out
        subst eo12
        obtain ⟨Ao13, co13, eo13⟩ := Kd.R_slice HO123.out
        subst eo13
        go_wp2_with (first | ((with_reducible refine gate_callee (f := 35) rfl ?_); refine goesL_ (some 29) rfl rfl Try.func35 (by kernel_rfl) rfl #[.slice Ao12 t116.length co12, .slice Ao13 t120.length co13] rfl (by (try simp only [List.map_toArray, List.map_cons, List.map_nil]); first | done | rfl | (simp only [List.length_drop, List.length_take]; rfl)) ?_; (with_reducible refine (drovewaylaw04_same.calls k _ _ t116 _ _ t120 true _ ?side1 ?side2 ?side3 ?side4 A10.out).mono ?_); (case side1 => repeat (first | exact (Kd.R_reads' HO119.out).2.2 | (with_reducible refine Kd.C_alloc ?_ _) | (with_reducible refine Kd.C_drewN ?_ _) | (with_reducible refine Kd.C_drew ?_))); (case side2 => exact (Kd.R_reads' HO119.out).2.1); (case side3 => repeat (first | exact (Kd.R_reads' HO123.out).2.2 | (with_reducible refine Kd.C_alloc ?_ _) | (with_reducible refine Kd.C_drewN ?_ _) | (with_reducible refine Kd.C_drew ?_))); (case side4 => exact (Kd.R_reads' HO123.out).2.1); rintro e w' ⟨rfl, ⟨nd, rfl⟩⟩; refine ⟨_, rfl, ?_⟩))
        go_meet
        case rel => exact ⟨_, ((t117 != t121)), (by first | rfl | (simp; done) | (simp [*]; done) | (simp; exact beq_not_bne _ _)), H', ⟨by first | omega | exact Nat.le_refl _⟩, ⟨by repeat (first | (with_reducible first | exact HB.out | apply below_alloc | apply pw_below_drewN | apply below_drew1) | exact HB.out)⟩⟩
      · replace c11 := Bool.eq_false_iff.mpr c11
        subst c11
        have H1 : (drovewaylaw04_AmbushGuards.j0 k a0 l1 true) = some r := by rw [if_neg (show ¬ (false = true) by decide)] at H; exact H
        clear H
        have H := H1
        clear H1
        have H' := Aside0.mk H
        clear H
        obtain ⟨Ao14, co14, eo14⟩ := Kd.R_slice HO119.out
        subst eo14
        obtain ⟨Ao15, co15, eo15⟩ := Kd.R_slice HO123.out
        subst eo15
        go_wp2_with (first | ((with_reducible refine gate_callee (f := 35) rfl ?_); refine goesL_ (some 29) rfl rfl Try.func35 (by kernel_rfl) rfl #[.slice Ao14 t116.length co14, .slice Ao15 t120.length co15] rfl (by (try simp only [List.map_toArray, List.map_cons, List.map_nil]); first | done | rfl | (simp only [List.length_drop, List.length_take]; rfl)) ?_; (with_reducible refine (drovewaylaw04_same.calls k _ _ t116 _ _ t120 false _ ?side1 ?side2 ?side3 ?side4 A10.out).mono ?_); (case side1 => repeat (first | exact (Kd.R_reads' HO119.out).2.2 | (with_reducible refine Kd.C_alloc ?_ _) | (with_reducible refine Kd.C_drewN ?_ _) | (with_reducible refine Kd.C_drew ?_))); (case side2 => exact (Kd.R_reads' HO119.out).2.1); (case side3 => repeat (first | exact (Kd.R_reads' HO123.out).2.2 | (with_reducible refine Kd.C_alloc ?_ _) | (with_reducible refine Kd.C_drewN ?_ _) | (with_reducible refine Kd.C_drew ?_))); (case side4 => exact (Kd.R_reads' HO123.out).2.1); rintro e w' ⟨rfl, ⟨nd, rfl⟩⟩; refine ⟨_, rfl, ?_⟩))
        go_meet
        case rel => exact ⟨_, (true), (by first | rfl | (simp; done) | (simp [*]; done) | (simp; exact beq_not_bne _ _)), H', ⟨by first | omega | exact Nat.le_refl _⟩, ⟨by repeat (first | (with_reducible first | exact HB.out | apply below_alloc | apply pw_below_drewN | apply below_drew1) | exact HB.out)⟩⟩
    case rest =>
      clear HC7
      try clear c1
      try clear p2
      try clear c3
      try clear c4
      try clear c10
      try clear c11
      obtain ⟨kq, x35_6, rfl, HA, HJ6, HB⟩ := hcut
      cases kq with
      | zero => exact absurd HA.out (by simp [drovewaylaw04_AmbushGuards.j0])
      | succ kj6 =>
        have H := HA.out
        clear HA
        simp only [drovewaylaw04_AmbushGuards.j0] at H
        by_cases c16 : x35_6 = true
        · subst c16
          have H1 : (some false) = some r := by rw [if_pos rfl] at H; exact H
          clear H
          have H := H1
          clear H1
          obtain rfl := Option.some.inj H
          go_wp2
          go_ret
          exact ⟨by first | rfl | (simp [errW_none, errW_some] <;> rfl) | (simp [*, errW_none, errW_some] <;> rfl), by repeat (first | (with_reducible first | exact HB.out | apply below_alloc | apply pw_below_drewN | apply below_drew1) | exact HB.out)⟩
        · replace c16 := Bool.eq_false_iff.mpr c16
          subst c16
          have H1 : ((ambush_Needs.f a0 l1).bind fun bt125 => ((drovewayref04_Needs.f a0 l1).bind fun bt127 => (if bt125.1 = bt127.1 then (drovewaylaw04_AmbushGuards.j1 kj6 a0 l1 (bt125.2 != bt127.2)) else (drovewaylaw04_AmbushGuards.j1 kj6 a0 l1 true)))) = some r := by rw [if_neg (show ¬ (false = true) by decide)] at H; exact H
          clear H
          have H := H1
          clear H1
          replace H := Option.bind_eq_some_iff.mp H
          obtain ⟨⟨t125, t126⟩, A170, H⟩ := H
          replace H : ((drovewayref04_Needs.f a0 l1).bind fun bt127 => (if t125 = bt127.1 then (drovewaylaw04_AmbushGuards.j1 kj6 a0 l1 (t126 != bt127.2)) else (drovewaylaw04_AmbushGuards.j1 kj6 a0 l1 true))) = some r := H
          have A17 := Aside0.mk A170
          clear A170
          replace H := Option.bind_eq_some_iff.mp H
          obtain ⟨⟨t127, t128⟩, A180, H⟩ := H
          replace H : (if t125 = t127 then (drovewaylaw04_AmbushGuards.j1 kj6 a0 l1 (t126 != t128)) else (drovewaylaw04_AmbushGuards.j1 kj6 a0 l1 true)) = some r := H
          have A18 := Aside0.mk A180
          clear A180
          have HC19 := Aside0.mk H
          clear H
          go_upto_region 9 with (first | ((with_reducible refine gate_callee (f := 20) rfl ?_); refine goesL_ (some 39) rfl rfl Try.func20 (by kernel_rfl) rfl #[.int .i64 a0, .slice A1 l1.length c1] rfl (by (try simp only [List.map_toArray, List.map_cons, List.map_nil]); first | done | rfl | (simp only [List.length_drop, List.length_take]; rfl)) ?_; (with_reducible refine (ambush_Needs.calls a0 _ _ l1 t125 t126 _ ?side1 ?side2 A17.out).mono ?_); (case side1 => repeat (first | exact (Kd.C_below HR1.out HB.out) | (with_reducible refine Kd.C_alloc ?_ _) | (with_reducible refine Kd.C_drewN ?_ _) | (with_reducible refine Kd.C_drew ?_))); (case side2 => exact HC1.out); rintro e w20 ⟨rfl, hb⟩; refine ⟨_, rfl, ?_⟩; have n0_ := Aside0.mk (below_step (by repeat (first | (with_reducible first | exact HB.out | apply below_alloc | apply pw_below_drewN | apply below_drew1) | exact HB.out)) hb); clear HB; have HB := n0_; clear n0_; (try clear hb); (try clear hb2); (try clear hk); (try clear hi)) | ((with_reducible refine gate_callee (f := 36) rfl ?_); refine goesL_ (some 45) rfl rfl Try.func36 (by kernel_rfl) rfl #[.int .i64 a0, .slice A1 l1.length c1] rfl (by (try simp only [List.map_toArray, List.map_cons, List.map_nil]); first | done | rfl | (simp only [List.length_drop, List.length_take]; rfl)) ?_; (with_reducible refine (drovewayref04_Needs.calls a0 _ _ l1 t127 t128 _ ?side1 ?side2 A18.out).mono ?_); (case side1 => repeat (first | exact (Kd.C_below HR1.out HB.out) | (with_reducible refine Kd.C_alloc ?_ _) | (with_reducible refine Kd.C_drewN ?_ _) | (with_reducible refine Kd.C_drew ?_))); (case side2 => exact HC1.out); rintro e w21 ⟨rfl, hb⟩; refine ⟨_, rfl, ?_⟩; have n0_ := Aside0.mk (below_step (by repeat (first | (with_reducible first | exact HB.out | apply below_alloc | apply pw_below_drewN | apply below_drew1) | exact HB.out)) hb); clear HB; have HB := n0_; clear n0_; (try clear hb); (try clear hb2); (try clear hk); (try clear hi)))
          (try simp only [Act.put, List.setIfInBounds_toArray, List.set_cons_zero, List.set_cons_succ])
          go_cut [55] (fun v55 wc => ∃ (kq : Nat) (x55_18 : Bool), v55 = .bool x55_18 ∧ Aside0 (drovewaylaw04_AmbushGuards.j1 kq a0 l1 x55_18 = some r) ∧ Aside0 (kq ≤ kj6) ∧ Aside0 (Below w.heap.size w wc))
          case first =>
            have H := HC19.out
            clear HC19
            by_cases c22 : t125 = t127
            · rw [if_pos c22] at H
              have c22b0 : (t125 == t127) = true := beq_iff_eq.mpr c22
              have c22b1 : (t125 != t127) = false := bne_eq_false_iff_eq.mpr c22
              clear c22
              (first | rw [c22b0] | (simp only [i64_w, i32_w]; rw [c22b0]) | skip)
              have H' := Aside0.mk H
              clear H
              go_wp2
              go_meet
              case rel => exact ⟨_, ((t126 != t128)), (by first | rfl | (simp; done) | (simp [*]; done) | (simp; exact beq_not_bne _ _)), H', ⟨by have := HJ6.out; first | omega | exact Nat.le_refl _⟩, ⟨by repeat (first | (with_reducible first | exact HB.out | apply below_alloc | apply pw_below_drewN | apply below_drew1) | exact HB.out)⟩⟩
            · rw [if_neg c22] at H
              have c22b0 : (t125 == t127) = false := beq_eq_false_iff_ne.mpr c22
              have c22b1 : (t125 != t127) = true := bne_iff_ne.mpr c22
              (first | rw [c22b0] | (simp only [i64_w, i32_w]; rw [c22b0]) | skip)
              have H' := Aside0.mk H
              clear H
              go_wp2
              go_meet
              case rel => exact ⟨_, (true), (by first | rfl | (simp; done) | (simp [*]; done) | (simp; exact beq_not_bne _ _)), H', ⟨by have := HJ6.out; first | omega | exact Nat.le_refl _⟩, ⟨by repeat (first | (with_reducible first | exact HB.out | apply below_alloc | apply pw_below_drewN | apply below_drew1) | exact HB.out)⟩⟩
          case rest =>
            clear HC19
            try clear c1
            try clear c2
            try clear p2
            try clear c3
            try clear c4
            try clear c10
            try clear c11
            try clear c16
            try clear c19
            try clear c20
            try clear c22
            try clear c22b0
            try clear c22b1
            try clear p2
            obtain ⟨kq, x55_18, rfl, HA, HJ18, HB⟩ := hcut
            cases kq with
            | zero => exact absurd HA.out (by simp [drovewaylaw04_AmbushGuards.j1])
            | succ kj18 =>
              have H := HA.out
              clear HA
              simp only [drovewaylaw04_AmbushGuards.j1] at H
              by_cases c23 : x55_18 = true
              · subst c23
                have H1 : (some false) = some r := by rw [if_pos rfl] at H; exact H
                clear H
                have H := H1
                clear H1
                obtain rfl := Option.some.inj H
                go_wp2
                go_ret
                exact ⟨by first | rfl | (simp [errW_none, errW_some] <;> rfl) | (simp [*, errW_none, errW_some] <;> rfl), by repeat (first | (with_reducible first | exact HB.out | apply below_alloc | apply pw_below_drewN | apply below_drew1) | exact HB.out)⟩
              · replace c23 := Bool.eq_false_iff.mpr c23
                subst c23
                have H1 : ((ambush_Least.f a0 l1).bind fun bt129 => ((drovewayref04_Least.f kj18 a0 l1).bind fun bt133 => ((drovewaylaw04_same.f kj18 bt129.1 bt133.1).bind fun t137 => (if t137 = true then (if bt129.2 = bt133.2 then ((drovewaylaw04_alive.f).bind fun t138 => (some t138)) else (some false)) else (some false))))) = some r := by rw [if_neg (show ¬ (false = true) by decide)] at H; exact H
                clear H
                have H := H1
                clear H1
                replace H := Option.bind_eq_some_iff.mp H
                obtain ⟨⟨t129, t130⟩, A240, H⟩ := H
                replace H : ((drovewayref04_Least.f kj18 a0 l1).bind fun bt133 => ((drovewaylaw04_same.f kj18 t129 bt133.1).bind fun t137 => (if t137 = true then (if t130 = bt133.2 then ((drovewaylaw04_alive.f).bind fun t138 => (some t138)) else (some false)) else (some false)))) = some r := H
                have A24 := Aside0.mk A240
                clear A240
                replace H := Option.bind_eq_some_iff.mp H
                obtain ⟨⟨t133, t134⟩, A250, H⟩ := H
                replace H : ((drovewaylaw04_same.f kj18 t129 t133).bind fun t137 => (if t137 = true then (if t130 = t134 then ((drovewaylaw04_alive.f).bind fun t138 => (some t138)) else (some false)) else (some false))) = some r := H
                have A25 := Aside0.mk A250
                clear A250
                replace H := Option.bind_eq_some_iff.mp H
                obtain ⟨t137, A260, H⟩ := H
                replace H : (if t137 = true then (if t130 = t134 then ((drovewaylaw04_alive.f).bind fun t138 => (some t138)) else (some false)) else (some false)) = some r := H
                have A26 := Aside0.mk A260
                clear A260
                by_cases c27 : t137 = true
                · subst c27
                  have H1 : (if t130 = t134 then ((drovewaylaw04_alive.f).bind fun t138 => (some t138)) else (some false)) = some r := by rw [if_pos rfl] at H; exact H
                  clear H
                  have H := H1
                  clear H1
                  by_cases c28 : t130 = t134
                  · rw [if_pos c28] at H
                    have c28b0 : (t130 == t134) = true := beq_iff_eq.mpr c28
                    have c28b1 : (t130 != t134) = false := bne_eq_false_iff_eq.mpr c28
                    clear c28
                    replace H := Option.bind_eq_some_iff.mp H
                    obtain ⟨t138, A290, H⟩ := H
                    replace H : (some t138) = some r := H
                    have A29 := Aside0.mk A290
                    clear A290
                    obtain rfl := Option.some.inj H
                    go_wp2_with (first | ((with_reducible refine gate_callee (f := 33) rfl ?_); refine goesL_ (some 59) rfl rfl Try.func33 (by kernel_rfl) rfl #[.int .i64 a0, .slice A1 l1.length c1] rfl (by (try simp only [List.map_toArray, List.map_cons, List.map_nil]); first | done | rfl | (simp only [List.length_drop, List.length_take]; rfl)) ?_; (with_reducible refine (ambush_Least.calls a0 _ _ l1 t129 t130 _ ?side1 ?side2 A24.out).mono ?_); (case side1 => repeat (first | exact (Kd.C_below HR1.out HB.out) | (with_reducible refine Kd.C_alloc ?_ _) | (with_reducible refine Kd.C_drewN ?_ _) | (with_reducible refine Kd.C_drew ?_))); (case side2 => exact HC1.out); rintro e w30 ⟨v131, rfl, ho0, hb⟩; refine ⟨_, rfl, ?_⟩; have n0_ := Aside0.mk (Kd.R_lower ho0 (below_size (by repeat (first | (with_reducible first | exact HB.out | apply below_alloc | apply pw_below_drewN | apply below_drew1) | exact HB.out)))); have n1_ := Aside0.mk (below_step (by repeat (first | (with_reducible first | exact HB.out | apply below_alloc | apply pw_below_drewN | apply below_drew1) | exact HB.out)) hb); clear HB; have HO132 := n0_; have HB := n1_; clear n0_ n1_; (try clear hb); (try clear hb2); (try clear hk); (try clear hi); (try clear ho0)) | ((with_reducible refine gate_callee (f := 37) rfl ?_); refine goesL_ (some 65) rfl rfl Try.func37 (by kernel_rfl) rfl #[.int .i64 a0, .slice A1 l1.length c1] rfl (by (try simp only [List.map_toArray, List.map_cons, List.map_nil]); first | done | rfl | (simp only [List.length_drop, List.length_take]; rfl)) ?_; (with_reducible refine (drovewayref04_Least.calls kj18 a0 _ _ l1 t133 t134 _ ?side1 ?side2 A25.out).mono ?_); (case side1 => repeat (first | exact (Kd.C_below HR1.out HB.out) | (with_reducible refine Kd.C_alloc ?_ _) | (with_reducible refine Kd.C_drewN ?_ _) | (with_reducible refine Kd.C_drew ?_))); (case side2 => exact HC1.out); rintro e w31 ⟨v135, rfl, ho0, hb⟩; refine ⟨_, rfl, ?_⟩; have n0_ := Aside0.mk (Kd.R_elder' (by (with_reducible repeat (first | apply Kd.R_alloc | apply Kd.R_drewN | apply Kd.R_drew)); exact HO132.out) (Kd.R_base ho0) hb); have n1_ := Aside0.mk (Kd.R_lower (Kd.R_new' ho0 (Kd.R_lt (by (with_reducible repeat (first | apply Kd.R_alloc | apply Kd.R_drewN | apply Kd.R_drew)); exact HO132.out))) (below_size (by repeat (first | (with_reducible first | exact HB.out | apply below_alloc | apply pw_below_drewN | apply below_drew1) | exact HB.out)))); have n2_ := Aside0.mk (below_step (by repeat (first | (with_reducible first | exact HB.out | apply below_alloc | apply pw_below_drewN | apply below_drew1) | exact HB.out)) hb); clear HO132; clear HB; have HO132 := n0_; have HO136 := n1_; have HB := n2_; clear n0_ n1_ n2_; (try clear hb); (try clear hb2); (try clear hk); (try clear hi); (try clear ho0); obtain ⟨Ao32, co32, eo32⟩ := Kd.R_slice HO132.out; subst eo32; obtain ⟨Ao33, co33, eo33⟩ := Kd.R_slice HO136.out; subst eo33) | ((with_reducible refine gate_callee (f := 35) rfl ?_); refine goesL_ (some 70) rfl rfl Try.func35 (by kernel_rfl) rfl #[.slice Ao32 t129.length co32, .slice Ao33 t133.length co33] rfl (by (try simp only [List.map_toArray, List.map_cons, List.map_nil]); first | done | rfl | (simp only [List.length_drop, List.length_take]; rfl)) ?_; (with_reducible refine (drovewaylaw04_same.calls kj18 _ _ t129 _ _ t133 true _ ?side1 ?side2 ?side3 ?side4 A26.out).mono ?_); (case side1 => repeat (first | exact (Kd.R_reads' HO132.out).2.2 | (with_reducible refine Kd.C_alloc ?_ _) | (with_reducible refine Kd.C_drewN ?_ _) | (with_reducible refine Kd.C_drew ?_))); (case side2 => exact (Kd.R_reads' HO132.out).2.1); (case side3 => repeat (first | exact (Kd.R_reads' HO136.out).2.2 | (with_reducible refine Kd.C_alloc ?_ _) | (with_reducible refine Kd.C_drewN ?_ _) | (with_reducible refine Kd.C_drew ?_))); (case side4 => exact (Kd.R_reads' HO136.out).2.1); rintro e w' ⟨rfl, ⟨nd, rfl⟩⟩; refine ⟨_, rfl, ?_⟩) | (go_at_call 12; (with_reducible refine (drovewaylaw04_alive.calls  t138 _ A29.out).mono ?_); rintro e w34 ⟨rfl, hb⟩; have n0_ := Aside0.mk (Kd.R_below (by (with_reducible repeat (first | apply Kd.R_alloc | apply Kd.R_drewN | apply Kd.R_drew)); exact HO132.out) hb); have n1_ := Aside0.mk (Kd.R_below (by (with_reducible repeat (first | apply Kd.R_alloc | apply Kd.R_drewN | apply Kd.R_drew)); exact HO136.out) hb); have n2_ := Aside0.mk (below_step (by repeat (first | (with_reducible first | exact HB.out | apply below_alloc | apply pw_below_drewN | apply below_drew1) | exact HB.out)) hb); clear HO132; clear HO136; clear HB; have HO132 := n0_; have HO136 := n1_; have HB := n2_; clear n0_ n1_ n2_; (try clear hb); (try clear hb2); (try clear hk); (try clear hi)))
                    go_ret
                    exact ⟨by first | rfl | (simp [errW_none, errW_some] <;> rfl) | (simp [*, errW_none, errW_some] <;> rfl), by repeat (first | (with_reducible first | exact HB.out | apply below_alloc | apply pw_below_drewN | apply below_drew1) | exact HB.out)⟩
                  · rw [if_neg c28] at H
                    have c28b0 : (t130 == t134) = false := beq_eq_false_iff_ne.mpr c28
                    have c28b1 : (t130 != t134) = true := bne_iff_ne.mpr c28
                    obtain rfl := Option.some.inj H
                    go_wp2_with (first | ((with_reducible refine gate_callee (f := 33) rfl ?_); refine goesL_ (some 59) rfl rfl Try.func33 (by kernel_rfl) rfl #[.int .i64 a0, .slice A1 l1.length c1] rfl (by (try simp only [List.map_toArray, List.map_cons, List.map_nil]); first | done | rfl | (simp only [List.length_drop, List.length_take]; rfl)) ?_; (with_reducible refine (ambush_Least.calls a0 _ _ l1 t129 t130 _ ?side1 ?side2 A24.out).mono ?_); (case side1 => repeat (first | exact (Kd.C_below HR1.out HB.out) | (with_reducible refine Kd.C_alloc ?_ _) | (with_reducible refine Kd.C_drewN ?_ _) | (with_reducible refine Kd.C_drew ?_))); (case side2 => exact HC1.out); rintro e w35 ⟨v131, rfl, ho0, hb⟩; refine ⟨_, rfl, ?_⟩; have n0_ := Aside0.mk (Kd.R_lower ho0 (below_size (by repeat (first | (with_reducible first | exact HB.out | apply below_alloc | apply pw_below_drewN | apply below_drew1) | exact HB.out)))); have n1_ := Aside0.mk (below_step (by repeat (first | (with_reducible first | exact HB.out | apply below_alloc | apply pw_below_drewN | apply below_drew1) | exact HB.out)) hb); clear HB; have HO132 := n0_; have HB := n1_; clear n0_ n1_; (try clear hb); (try clear hb2); (try clear hk); (try clear hi); (try clear ho0)) | ((with_reducible refine gate_callee (f := 37) rfl ?_); refine goesL_ (some 65) rfl rfl Try.func37 (by kernel_rfl) rfl #[.int .i64 a0, .slice A1 l1.length c1] rfl (by (try simp only [List.map_toArray, List.map_cons, List.map_nil]); first | done | rfl | (simp only [List.length_drop, List.length_take]; rfl)) ?_; (with_reducible refine (drovewayref04_Least.calls kj18 a0 _ _ l1 t133 t134 _ ?side1 ?side2 A25.out).mono ?_); (case side1 => repeat (first | exact (Kd.C_below HR1.out HB.out) | (with_reducible refine Kd.C_alloc ?_ _) | (with_reducible refine Kd.C_drewN ?_ _) | (with_reducible refine Kd.C_drew ?_))); (case side2 => exact HC1.out); rintro e w36 ⟨v135, rfl, ho0, hb⟩; refine ⟨_, rfl, ?_⟩; have n0_ := Aside0.mk (Kd.R_elder' (by (with_reducible repeat (first | apply Kd.R_alloc | apply Kd.R_drewN | apply Kd.R_drew)); exact HO132.out) (Kd.R_base ho0) hb); have n1_ := Aside0.mk (Kd.R_lower (Kd.R_new' ho0 (Kd.R_lt (by (with_reducible repeat (first | apply Kd.R_alloc | apply Kd.R_drewN | apply Kd.R_drew)); exact HO132.out))) (below_size (by repeat (first | (with_reducible first | exact HB.out | apply below_alloc | apply pw_below_drewN | apply below_drew1) | exact HB.out)))); have n2_ := Aside0.mk (below_step (by repeat (first | (with_reducible first | exact HB.out | apply below_alloc | apply pw_below_drewN | apply below_drew1) | exact HB.out)) hb); clear HO132; clear HB; have HO132 := n0_; have HO136 := n1_; have HB := n2_; clear n0_ n1_ n2_; (try clear hb); (try clear hb2); (try clear hk); (try clear hi); (try clear ho0); obtain ⟨Ao37, co37, eo37⟩ := Kd.R_slice HO132.out; subst eo37; obtain ⟨Ao38, co38, eo38⟩ := Kd.R_slice HO136.out; subst eo38) | ((with_reducible refine gate_callee (f := 35) rfl ?_); refine goesL_ (some 70) rfl rfl Try.func35 (by kernel_rfl) rfl #[.slice Ao37 t129.length co37, .slice Ao38 t133.length co38] rfl (by (try simp only [List.map_toArray, List.map_cons, List.map_nil]); first | done | rfl | (simp only [List.length_drop, List.length_take]; rfl)) ?_; (with_reducible refine (drovewaylaw04_same.calls kj18 _ _ t129 _ _ t133 true _ ?side1 ?side2 ?side3 ?side4 A26.out).mono ?_); (case side1 => repeat (first | exact (Kd.R_reads' HO132.out).2.2 | (with_reducible refine Kd.C_alloc ?_ _) | (with_reducible refine Kd.C_drewN ?_ _) | (with_reducible refine Kd.C_drew ?_))); (case side2 => exact (Kd.R_reads' HO132.out).2.1); (case side3 => repeat (first | exact (Kd.R_reads' HO136.out).2.2 | (with_reducible refine Kd.C_alloc ?_ _) | (with_reducible refine Kd.C_drewN ?_ _) | (with_reducible refine Kd.C_drew ?_))); (case side4 => exact (Kd.R_reads' HO136.out).2.1); rintro e w' ⟨rfl, ⟨nd, rfl⟩⟩; refine ⟨_, rfl, ?_⟩))
                    go_ret
                    exact ⟨by first | rfl | (simp [errW_none, errW_some] <;> rfl) | (simp [*, errW_none, errW_some] <;> rfl), by repeat (first | (with_reducible first | exact HB.out | apply below_alloc | apply pw_below_drewN | apply below_drew1) | exact HB.out)⟩
                · replace c27 := Bool.eq_false_iff.mpr c27
                  subst c27
                  have H1 : (some false) = some r := by rw [if_neg (show ¬ (false = true) by decide)] at H; exact H
                  clear H
                  have H := H1
                  clear H1
                  obtain rfl := Option.some.inj H
                  go_wp2_with (first | ((with_reducible refine gate_callee (f := 33) rfl ?_); refine goesL_ (some 59) rfl rfl Try.func33 (by kernel_rfl) rfl #[.int .i64 a0, .slice A1 l1.length c1] rfl (by (try simp only [List.map_toArray, List.map_cons, List.map_nil]); first | done | rfl | (simp only [List.length_drop, List.length_take]; rfl)) ?_; (with_reducible refine (ambush_Least.calls a0 _ _ l1 t129 t130 _ ?side1 ?side2 A24.out).mono ?_); (case side1 => repeat (first | exact (Kd.C_below HR1.out HB.out) | (with_reducible refine Kd.C_alloc ?_ _) | (with_reducible refine Kd.C_drewN ?_ _) | (with_reducible refine Kd.C_drew ?_))); (case side2 => exact HC1.out); rintro e w39 ⟨v131, rfl, ho0, hb⟩; refine ⟨_, rfl, ?_⟩; have n0_ := Aside0.mk (Kd.R_lower ho0 (below_size (by repeat (first | (with_reducible first | exact HB.out | apply below_alloc | apply pw_below_drewN | apply below_drew1) | exact HB.out)))); have n1_ := Aside0.mk (below_step (by repeat (first | (with_reducible first | exact HB.out | apply below_alloc | apply pw_below_drewN | apply below_drew1) | exact HB.out)) hb); clear HB; have HO132 := n0_; have HB := n1_; clear n0_ n1_; (try clear hb); (try clear hb2); (try clear hk); (try clear hi); (try clear ho0)) | ((with_reducible refine gate_callee (f := 37) rfl ?_); refine goesL_ (some 65) rfl rfl Try.func37 (by kernel_rfl) rfl #[.int .i64 a0, .slice A1 l1.length c1] rfl (by (try simp only [List.map_toArray, List.map_cons, List.map_nil]); first | done | rfl | (simp only [List.length_drop, List.length_take]; rfl)) ?_; (with_reducible refine (drovewayref04_Least.calls kj18 a0 _ _ l1 t133 t134 _ ?side1 ?side2 A25.out).mono ?_); (case side1 => repeat (first | exact (Kd.C_below HR1.out HB.out) | (with_reducible refine Kd.C_alloc ?_ _) | (with_reducible refine Kd.C_drewN ?_ _) | (with_reducible refine Kd.C_drew ?_))); (case side2 => exact HC1.out); rintro e w40 ⟨v135, rfl, ho0, hb⟩; refine ⟨_, rfl, ?_⟩; have n0_ := Aside0.mk (Kd.R_elder' (by (with_reducible repeat (first | apply Kd.R_alloc | apply Kd.R_drewN | apply Kd.R_drew)); exact HO132.out) (Kd.R_base ho0) hb); have n1_ := Aside0.mk (Kd.R_lower (Kd.R_new' ho0 (Kd.R_lt (by (with_reducible repeat (first | apply Kd.R_alloc | apply Kd.R_drewN | apply Kd.R_drew)); exact HO132.out))) (below_size (by repeat (first | (with_reducible first | exact HB.out | apply below_alloc | apply pw_below_drewN | apply below_drew1) | exact HB.out)))); have n2_ := Aside0.mk (below_step (by repeat (first | (with_reducible first | exact HB.out | apply below_alloc | apply pw_below_drewN | apply below_drew1) | exact HB.out)) hb); clear HO132; clear HB; have HO132 := n0_; have HO136 := n1_; have HB := n2_; clear n0_ n1_ n2_; (try clear hb); (try clear hb2); (try clear hk); (try clear hi); (try clear ho0); obtain ⟨Ao41, co41, eo41⟩ := Kd.R_slice HO132.out; subst eo41; obtain ⟨Ao42, co42, eo42⟩ := Kd.R_slice HO136.out; subst eo42) | ((with_reducible refine gate_callee (f := 35) rfl ?_); refine goesL_ (some 70) rfl rfl Try.func35 (by kernel_rfl) rfl #[.slice Ao41 t129.length co41, .slice Ao42 t133.length co42] rfl (by (try simp only [List.map_toArray, List.map_cons, List.map_nil]); first | done | rfl | (simp only [List.length_drop, List.length_take]; rfl)) ?_; (with_reducible refine (drovewaylaw04_same.calls kj18 _ _ t129 _ _ t133 false _ ?side1 ?side2 ?side3 ?side4 A26.out).mono ?_); (case side1 => repeat (first | exact (Kd.R_reads' HO132.out).2.2 | (with_reducible refine Kd.C_alloc ?_ _) | (with_reducible refine Kd.C_drewN ?_ _) | (with_reducible refine Kd.C_drew ?_))); (case side2 => exact (Kd.R_reads' HO132.out).2.1); (case side3 => repeat (first | exact (Kd.R_reads' HO136.out).2.2 | (with_reducible refine Kd.C_alloc ?_ _) | (with_reducible refine Kd.C_drewN ?_ _) | (with_reducible refine Kd.C_drew ?_))); (case side4 => exact (Kd.R_reads' HO136.out).2.1); rintro e w' ⟨rfl, ⟨nd, rfl⟩⟩; refine ⟨_, rfl, ?_⟩))
                  go_ret
                  exact ⟨by first | rfl | (simp [errW_none, errW_some] <;> rfl) | (simp [*, errW_none, errW_some] <;> rfl), by repeat (first | (with_reducible first | exact HB.out | apply below_alloc | apply pw_below_drewN | apply below_drew1) | exact HB.out)⟩
  · replace c4 := Bool.eq_false_iff.mpr c4
    subst c4
    have H1 : ((drovewaylaw04_alive.f).bind fun t115 => (some t115)) = some r := by rw [if_neg (show ¬ (false = true) by decide)] at H; exact H
    clear H
    have H := H1
    clear H1
    replace H := Option.bind_eq_some_iff.mp H
    obtain ⟨t115, A430, H⟩ := H
    replace H : (some t115) = some r := H
    have A43 := Aside0.mk A430
    clear A430
    obtain rfl := Option.some.inj H
    go_enter Try.func10, Try.ntmps10
    go_wp2_with (first | ((with_reducible refine gate_callee (f := 11) rfl ?_); refine goesL_ (some 12) rfl rfl Try.func11 (by kernel_rfl) rfl #[.slice A1 l1.length c1, .string (⟨#[]⟩ : ByteArray), .string (⟨#[]⟩ : ByteArray)] rfl (by (try simp only [List.map_toArray, List.map_cons, List.map_nil]); first | done | rfl | (simp only [List.length_drop, List.length_take]; rfl)) ?_; (with_reducible refine (drovewaylaw04_few.calls _ _ l1 (⟨#[]⟩ : ByteArray) (⟨#[]⟩ : ByteArray) false _ ?side1 ?side2 A3.out).mono ?_); (case side1 => repeat (first | exact HR1.out | (with_reducible refine Kd.C_alloc ?_ _) | (with_reducible refine Kd.C_drewN ?_ _) | (with_reducible refine Kd.C_drew ?_))); (case side2 => exact HC1.out); rintro e w' ⟨rfl, ⟨nd, rfl⟩⟩; refine ⟨_, rfl, ?_⟩) | ((with_reducible refine gate_callee (f := 12) rfl ?_); refine goesL_ (some 14) rfl rfl Try.func12 (by kernel_rfl) rfl #[] rfl (by (try simp only [List.map_toArray, List.map_cons, List.map_nil]); first | done | rfl | (simp only [List.length_drop, List.length_take]; rfl)) ?_; (with_reducible refine (drovewaylaw04_alive.calls  t115 _ A43.out).mono ?_); rintro e w44 ⟨rfl, hb⟩; refine ⟨_, rfl, ?_⟩; have n0_ := Aside0.mk (below_step (by repeat (first | (with_reducible first | exact HB.out | apply below_alloc | apply pw_below_drewN | apply below_drew1) | exact HB.out)) hb); clear HB; have HB := n0_; clear n0_; (try clear hb); (try clear hb2); (try clear hk); (try clear hi)))
    go_ret
    exact ⟨by first | rfl | (simp [errW_none, errW_some] <;> rfl) | (simp [*, errW_none, errW_some] <;> rfl), by repeat (first | (with_reducible first | exact HB.out | apply below_alloc | apply pw_below_drewN | apply below_drew1) | exact HB.out)⟩

/-- THE ONE PURE STATEMENT of drovewaylaw04_AmbushGuards: yours. -/
def drovewaylaw04_AmbushGuards.Pure : Prop := ∀ (a0 : Int) (l1 : List Int), (Lit.int .i64 a0).wf = true → l1.length ≤ maxLen → l1.length * 8 ≤ 140737488351232 → (∀ x ∈ l1, (Lit.int .i64 x).wf = true) → ∃ k, drovewaylaw04_AmbushGuards.f k a0 l1 = some true
theorem drovewaylaw04_AmbushGuards.walk (P : drovewaylaw04_AmbushGuards.Pure) (a0 : Int) (a1 : Option Addr) (len1 cap1 : Nat) (z1 : List Int) (w : World) (w0 : (Lit.int .i64 a0).wf = true) (w1 : (a1 = none ∧ len1 = 0 ∧ cap1 = 0 ∧ z1 = []) ∨ ∃ x, a1 = some x ∧ len1 ≤ cap1 ∧ cap1 ≤ maxLen ∧ z1.length = cap1 ∧ (∀ i, i < z1.length → w.cell? (x.add i) = some (.int .i64 (z1.getD i 0))) ∧ ∀ n ∈ z1, (Lit.int .i64 n).wf = true) (y1 : len1 * 8 ≤ 140737488351232) :
    Calls Try.prog 10 #[.int .i64 a0, .slice a1 len1 cap1] w fun e w' => e = .returned (.bool true) ∧ Below w.heap.size w w' := by
  obtain ⟨l1, rfl, hr1, hm1, hw1, hc1⟩ := ReadsInt.ofRowC w1
  obtain ⟨k, h⟩ := P a0 l1 w0 hm1 y1 hw1
  refine (drovewaylaw04_AmbushGuards.calls k a0 _ _ l1 true w (Kd.C_of_reads (d := (0 : Int)) (h1 := fun _ => rfl) hr1) hc1 h).mono ?_
  rintro e w' ⟨rfl, hd⟩
  exact ⟨rfl, hd⟩

end Go.Proofs.Ytbjpjjokamaliaa.PAmbushGuards

-- Printed by hprint.py (this claim's own program, over the kit's print.py) out of the translation and contracts by hand. Not trusted: Lean checks it.
namespace Go.Proofs.Ytbjpjjokamaliaa.PAmbushGuards
open Go.Proofs.Ytbjpjjokamaliaa.A Go.Proofs.Ytbjpjjokamaliaa.B
open Go.RowKit Go.Proofs.YtbjpjjokamaliaaW.PrintWords Go.Proofs.YtbjpjjokamaliaaW.PrintLast Go.Proofs.YtbjpjjokamaliaaW.PrintMore
attribute [local go_sem] max2_int min2_int max_two min_two max_three min_three max_four min_four   -- for this text's walks alone
set_option linter.unusedVariables false
set_option linter.unusedSimpArgs false

end Go.Proofs.Ytbjpjjokamaliaa.PAmbushGuards

/- What the law package's own functions and the reference's small ones compute (plain). -/
namespace Go.Proofs.Ytbjpjjokamaliaa.PAmbushGuards
open Go.Proofs.Ytbjpjjokamaliaa.A
open Go.RowKit Go.Proofs.YtbjpjjokamaliaaW.PrintWords Go.Proofs.YtbjpjjokamaliaaW.PrintLast

theorem few_eq (l : List Int) (s t : ByteArray) : drovewaylaw04_few.f l s t = some (decide ((l.length : Int) ≤ 40 ∧ (s.size : Int) ≤ 40 ∧ (t.size : Int) ≤ 40)) := by
  unfold drovewaylaw04_few.f
  by_cases h1 : (l.length : Int) ≤ 40
  · by_cases h2 : (s.size : Int) ≤ 40
    · rw [if_pos h1, if_pos h2]; simp [h1, h2]
    · rw [if_pos h1, if_neg h2]; simp [h2]
  · rw [if_neg h1]; simp [h1]
theorem shl_two {m : Nat} (h1 : 1 ≤ m) (h9 : m ≤ 9) : shl .i64 1 (m : Int) = 2 ^ m := by
  have : ∀ m : Nat, m < 10 → shl .i64 1 (m : Int) = (2 : Int) ^ m := by decide +kernel
  exact this m (by omega)
def bad (m : Nat) (x : Int) : Bool := decide (x < 1) || decide (2 ^ m ≤ x)
theorem Field_l0 {m : Nat} (h1 : 1 ≤ m) (h9 : m ≤ 9) (l : List Int) (h12 : l.length ≤ 12) : ∀ n i, l.length - i = n → i ≤ l.length →
    Ev (fun k => drovewayref04_Field.l0 k m l (i : Int)) (if ((l.drop i).any (bad m)) = true then 2 else 0) := by
  intro n
  induction n with
  | zero =>
    intro i hn hi
    have e : l.drop i = [] := List.drop_eq_nil_of_le (by omega)
    rw [e]
    refine Ev.step (f := fun _ => some 0) (fun k => ?_) (Ev.now _)
    rw [drovewayref04_Field.l0, if_neg (by omega)]
  | succ n ih =>
    intro i hn hi
    have hlt : i < l.length := by omega
    have ed : l.drop i = l[i] :: l.drop (i + 1) := List.drop_eq_getElem_cons hlt
    have er : rd l (i : Int) = l[i] := by simp [rd, List.getD_eq_getElem?_getD, hlt]
    have ew : wrap64 ((i : Int) + 1) = ((i + 1 : Nat) : Int) := by rw [wrap64_id] <;> omega
    rw [ed]
    have ih' := ih (i + 1) (by omega) (by omega)
    clear ed ih
    generalize l.drop (i + 1) = t at *
    have hun : ∀ k, drovewayref04_Field.l0 (k + 1) m l (i : Int) = if l[i] < 1 then some 2 else if l[i] ≥ 2 ^ m then some 2 else drovewayref04_Field.l0 k m l ((i + 1 : Nat) : Int) := by
      intro k
      rw [drovewayref04_Field.l0, if_pos (by omega), if_pos (by omega), er, shl_two h1 h9, ew, if_pos (show (0 : Int) ≤ m by omega)]
    by_cases b1 : l[i] < 1
    · refine Ev.step (f := fun _ => some 2) (fun k => by rw [hun, if_pos b1]) ?_
      have : ((l[i] :: t).any (bad m)) = true := by simp [List.any_cons, bad, b1]
      rw [if_pos this]
      exact Ev.now _
    · by_cases b2 : l[i] ≥ 2 ^ m
      · refine Ev.step (f := fun _ => some 2) (fun k => by rw [hun, if_neg b1, if_pos b2]) ?_
        have : ((l[i] :: t).any (bad m)) = true := by
          have b2' : 2 ^ m ≤ l[i] := b2
          simp [List.any_cons, bad, b2']
        rw [if_pos this]
        exact Ev.now _
      · refine Ev.step (fun k => by rw [hun, if_neg b1, if_neg b2]) ?_
        have : ((l[i] :: t).any (bad m)) = (t.any (bad m)) := by
          have b2' : ¬ 2 ^ m ≤ l[i] := b2
          simp [List.any_cons, bad, b1, b2']
        rw [this]
        exact ih'
theorem Field_ev (m : Int) (l : List Int) : Ev (fun k => drovewayref04_Field.f k m l) (okF m l) := by
  by_cases h1 : m < 1 ∨ 9 < m
  · have : okF m l = 2 := by unfold okF; rw [if_pos h1]
    rw [this]
    refine Ev.congr (f := fun k => drovewayref04_Field.j0 k m l true) (fun k => ?_) (Ev.step (f := fun _ => some 2) (fun k => ?_) (Ev.now _))
    · unfold drovewayref04_Field.f
      by_cases h : m < 1
      · rw [if_pos h]
      · rw [if_neg h]
        have : m > 9 := by omega
        simp [this]
    · rw [drovewayref04_Field.j0, if_pos rfl]
  · have hc : Ev (fun k => drovewayref04_Field.j0 k m l false) (okF m l) := by
      by_cases h12 : 12 < l.length
      · have : okF m l = 3 := by unfold okF; rw [if_neg h1, if_pos h12]
        rw [this]
        refine Ev.step (f := fun _ => some 3) (fun k => ?_) (Ev.now _)
        rw [drovewayref04_Field.j0, if_neg (by decide), if_pos (by omega)]
      · obtain ⟨n, rfl⟩ : ∃ n : Nat, m = n := ⟨m.toNat, by omega⟩
        have hb := Field_l0 (m := n) (by omega) (by omega) l (by omega) _ 0 rfl (by omega)
        have : okF (n : Int) l = if ((l.drop 0).any (bad n)) = true then 2 else 0 := by unfold okF; rw [if_neg h1, if_neg h12]; rfl
        rw [this]
        refine Ev.step (fun k => ?_) hb
        rw [drovewayref04_Field.j0, if_neg (by decide), if_neg (by omega)]
        rfl
    refine Ev.congr (fun k => ?_) hc
    unfold drovewayref04_Field.f
    rw [if_neg (by omega)]
    have : ¬ m > 9 := by omega
    simp [this]
theorem same_l0 (l : List Int) (hl : l.length ≤ 140737488351232) : ∀ n i, l.length - i = n → i ≤ l.length → Ev (fun k => drovewaylaw04_same.l0 k l l (i : Int)) true := by
  intro n
  induction n with
  | zero =>
    intro i hn hi
    refine Ev.step (f := fun _ => some true) (fun k => ?_) (Ev.now _)
    rw [drovewaylaw04_same.l0, if_neg (by omega)]
  | succ n ih =>
    intro i hn hi
    have ew : wrap64 ((i : Int) + 1) = ((i + 1 : Nat) : Int) := by rw [wrap64_id] <;> omega
    refine Ev.step (fun k => ?_) (ih (i + 1) (by omega) (by omega))
    rw [drovewaylaw04_same.l0, if_pos (by omega), if_pos (by omega), if_pos (by omega), if_pos rfl, ew]
theorem same_ev (l : List Int) (hl : l.length ≤ 140737488351232) : Ev (fun k => drovewaylaw04_same.f k l l) true := by
  refine Ev.congr (fun k => ?_) (same_l0 l hl _ 0 rfl (Nat.zero_le _))
  unfold drovewaylaw04_same.f
  rw [if_pos rfl]
  rfl
end Go.Proofs.Ytbjpjjokamaliaa.PAmbushGuards

/- Lists of whole numbers: ascending ones with the same numbers are one; what compact does with a sorted list. -/
namespace Go.Proofs.Ytbjpjjokamaliaa.A
open Go.RowKit Go.Proofs.YtbjpjjokamaliaaW.PrintWords

theorem asc_ext : ∀ {l1 l2 : List Int}, l1.Pairwise (· < ·) → l2.Pairwise (· < ·) → (∀ x, x ∈ l1 ↔ x ∈ l2) → l1 = l2
  | [], [], _, _, _ => rfl
  | [], b :: l2, _, _, h => by have := (h b).2 (by simp); cases this
  | a :: l1, [], _, _, h => by have := (h a).1 (by simp); cases this
  | a :: l1, b :: l2, h1, h2, h => by
    rw [List.pairwise_cons] at h1 h2
    have hab : a = b := by
      rcases List.mem_cons.1 ((h a).1 (by simp)) with e | ha
      · exact e
      rcases List.mem_cons.1 ((h b).2 (by simp)) with e | hb
      · exact e.symm
      have := h2.1 a ha
      have := h1.1 b hb
      omega
    subst hab
    have : l1 = l2 := asc_ext h1.2 h2.2 fun x => by
      constructor
      · intro hx
        rcases List.mem_cons.1 ((h x).1 (List.mem_cons_of_mem _ hx)) with e | hq
        · have := h1.1 x hx; omega
        · exact hq
      · intro hx
        rcases List.mem_cons.1 ((h x).2 (List.mem_cons_of_mem _ hx)) with e | hq
        · have := h2.1 x hx; omega
        · exact hq
    rw [this]

theorem sortI_asc (l : List Int) : (sortI l).Pairwise (· ≤ ·) := by
  have := List.pairwise_mergeSort (le := fun x y : Int => decide (x ≤ y)) (fun a b c h1 h2 => by simp at *; omega) (fun a b => by simp; omega) l
  exact this.imp (fun h => by simpa using h)
theorem get_arr (l : List Int) (i : Nat) (h : i < l.length) : l.toArray[i]! = l[i] := by
  rw [getElem!_pos l.toArray i (by simpa using h)]; simp
theorem compact_asc {l : List Int} (h : l.Pairwise (· ≤ ·)) : (Lib.compact l).Pairwise (· < ·) := by
  unfold Lib.compact Lib.compactUpTo
  rw [List.pairwise_map, List.pairwise_filter]
  have hr := List.pairwise_lt_range (n := l.length)
  refine List.Pairwise.imp_of_mem (fun {i j} hi hj hij _ hk => ?_) hr
  have hj' := List.mem_range.1 hj
  have hi' := List.mem_range.1 hi
  have hk' : j = 0 ∨ l.toArray[j]! ≠ l.toArray[j - 1]! := by simpa [Lib.keeps] using hk
  have hne := hk'.resolve_left (by omega)
  rw [get_arr l j hj', get_arr l (j - 1) (by omega)] at hne
  rw [get_arr l i hi', get_arr l j hj']
  rw [List.pairwise_iff_getElem] at h
  have h1 := h (j - 1) j (by omega) hj' (by omega)
  by_cases e : i = j - 1
  · subst e; omega
  · have h2 := h i (j - 1) hi' (by omega) (by omega)
    omega
theorem compact_mem (l : List Int) (x : Int) : x ∈ Lib.compact l ↔ x ∈ l := by
  refine ⟨mem_compact, fun h => ?_⟩
  have key : ∀ i, (h : i < l.length) → l[i] ∈ Lib.compact l := by
    intro i
    induction i with
    | zero =>
      intro h
      unfold Lib.compact Lib.compactUpTo
      exact List.mem_map.2 ⟨0, List.mem_filter.2 ⟨List.mem_range.2 h, by simp [Lib.keeps]⟩, get_arr l 0 h⟩
    | succ i ih =>
      intro h
      by_cases e : l[i + 1] = l[i]
      · rw [e]; exact ih (by omega)
      · unfold Lib.compact Lib.compactUpTo
        refine List.mem_map.2 ⟨i + 1, List.mem_filter.2 ⟨List.mem_range.2 h, ?_⟩, get_arr l (i + 1) h⟩
        unfold Lib.keeps
        rw [decide_eq_true_iff, Nat.add_sub_cancel, get_arr l (i + 1) h, get_arr l i (by omega)]
        exact .inr e
  obtain ⟨i, hi, rfl⟩ := List.getElem_of_mem h
  exact key i hi
theorem leastL_asc (l : List Int) : (leastL l).Pairwise (· < ·) := (compact_asc (sortI_asc l)).filter _
theorem leastL_mem (l : List Int) (x : Int) : x ∈ leastL l ↔ x ∈ l ∧ holdsOther l x = false := by
  unfold leastL
  rw [List.mem_filter, compact_mem, mem_sortI]
  simp
end Go.Proofs.Ytbjpjjokamaliaa.A

/- AmbushGuards, plain: the spots, the number and the lines are those of the specification. -/
namespace Go.Proofs.Ytbjpjjokamaliaa.Pure
open Go.Proofs.Ytbjpjjokamaliaa.A Go.Proofs.Ytbjpjjokamaliaa.B
open Go.RowKit Go.Proofs.Ytbjpjjokamaliaa.PAmbushGuards Go.Proofs.YtbjpjjokamaliaaW.PrintWords Go.Proofs.YtbjpjjokamaliaaW.PrintLast

/-- Does no other line lie in s? -/
def alone (s y : Int) : Bool := (y == s) || (Go.bits .andNot .i64 y s != 0)
/-- The least lines among the sets below b. -/
def leastR (l : List Int) : Nat → List Int
  | 0 => []
  | b + 1 => if (l.any (· == ((b + 1 : Nat) : Int)) && l.all (alone ((b + 1 : Nat) : Int))) = true then leastR l b ++ [((b + 1 : Nat) : Int)] else leastR l b
theorem leastR_len (l : List Int) : ∀ b, (leastR l b).length ≤ b
  | 0 => Nat.le_refl _
  | b + 1 => by
    have := leastR_len l b
    rw [leastR]
    split
    · rw [List.length_append]; simp; omega
    · omega

theorem least_l1 {m : Nat} (l : List Int) (hl : l.length ≤ 12) (s : Nat) (hs : s ≤ 512) (out : List Int) (ho : out.length ≤ 512) (R : List Int × Int) :
    ∀ n i inb leb, l.length - i = n → i ≤ l.length →
    Ev (fun k => drovewayref04_Least.l0 k m l (if ((inb || (l.drop i).any (· == (s : Int))) && (leb && (l.drop i).all (alone s))) = true then out ++ [(s : Int)] else out) ((s + 1 : Nat) : Int)) R →
    Ev (fun k => drovewayref04_Least.l1 k m l out (s : Int) inb leb (i : Int)) R := by
  have ews : wrap64 ((s : Int) + 1) = ((s + 1 : Nat) : Int) := by rw [wrap64_id] <;> omega
  intro n
  induction n with
  | zero =>
    intro i inb leb hn hi h
    have e : l.drop i = [] := List.drop_eq_nil_of_le (by omega)
    rw [e] at h
    simp only [List.any_nil, List.all_nil, Bool.or_false, Bool.and_true] at h
    refine Ev.step (fun k => ?_) h
    rw [drovewayref04_Least.l1, if_neg (by omega), ews]
    cases inb <;> cases leb <;> simp
    intro hh
    omega
  | succ n ih =>
    intro i inb leb hn hi h
    have hlt : i < l.length := by omega
    have ed : l.drop i = l[i] :: l.drop (i + 1) := List.drop_eq_getElem_cons hlt
    have er : rd l (i : Int) = l[i] := by simp [rd, List.getD_eq_getElem?_getD, hlt]
    have ew : wrap64 ((i : Int) + 1) = ((i + 1 : Nat) : Int) := by rw [wrap64_id] <;> omega
    rw [ed, List.any_cons, List.all_cons] at h
    have ih' := ih (i + 1) (inb || (l[i] == (s : Int))) (leb && alone s l[i]) (by omega) (by omega) (by
      rw [Bool.or_assoc, Bool.and_assoc]; exact h)
    refine Ev.step (fun k => ?_) ih'
    rw [drovewayref04_Least.l1, if_pos (by omega), er, ew]
    have h0 : (0 : Int) ≤ (i : Int) := by omega
    unfold alone
    generalize l[i] = y
    by_cases hy : y = (s : Int)
    · have hb : (y == (s : Int)) = true := beq_iff_eq.2 hy
      cases inb <;> cases leb <;> simp [h0, hy]
    · have hb : (y == (s : Int)) = false := beq_eq_false_iff_ne.2 hy
      cases inb <;> cases leb <;> simp [h0, hy, hb]

theorem least_l0 {m : Nat} (h1 : 1 ≤ m) (h9 : m ≤ 9) (l : List Int) (hl : l.length ≤ 12) : ∀ n b, 2 ^ m - 1 - b = n → b ≤ 2 ^ m - 1 →
    Ev (fun k => drovewayref04_Least.l0 k m l (leastR l b) ((b + 1 : Nat) : Int)) (leastR l (2 ^ m - 1), 0) := by
  have h512 : 2 ^ m ≤ 512 := Nat.pow_le_pow_right (show 0 < 2 by decide) h9
  have e : ((2 ^ m : Nat) : Int) = (2 : Int) ^ m := by simp
  intro n
  induction n with
  | zero =>
    intro b hn hb
    have hb : b = 2 ^ m - 1 := by omega
    refine Ev.step (f := fun _ => some (leastR l (2 ^ m - 1), 0)) (fun k => ?_) (Ev.now _)
    have := Nat.two_pow_pos m
    rw [drovewayref04_Least.l0, if_pos (by omega), PAmbushGuards.shl_two h1 h9, if_neg (by rw [← e]; omega), hb]
  | succ n ih =>
    intro b hn hb
    have ih' := ih (b + 1) (by omega) (by omega)
    have hlen := leastR_len l b
    refine Ev.step (fun k => ?_) (least_l1 (m := m) l hl (b + 1) (by omega) (leastR l b) (by omega) _ _ 0 false true rfl (Nat.zero_le _) ?_)
    · rw [drovewayref04_Least.l0, if_pos (by omega), PAmbushGuards.shl_two h1 h9, if_pos (by rw [← e]; omega)]
      rfl
    · simp only [Bool.false_or, Bool.true_and, List.drop_zero]
      rw [leastR] at ih'
      exact ih'

theorem leastR_asc (l : List Int) : ∀ b, (leastR l b).Pairwise (· < ·) ∧ ∀ x ∈ leastR l b, x ≤ b
  | 0 => ⟨List.Pairwise.nil, fun x h => by cases h⟩
  | b + 1 => by
    obtain ⟨h1, h2⟩ := leastR_asc l b
    rw [leastR]
    split
    · refine ⟨List.pairwise_append.2 ⟨h1, List.pairwise_singleton _ _, fun x hx y hy => ?_⟩, fun x hx => ?_⟩
      · have := h2 x hx
        have e : y = ((b + 1 : Nat) : Int) := by simpa using hy
        omega
      · rcases List.mem_append.1 hx with hx | hx
        · have := h2 x hx; omega
        · have e : x = ((b + 1 : Nat) : Int) := by simpa using hx
          omega
    · exact ⟨h1, fun x hx => by have := h2 x hx; omega⟩
theorem leastR_mem (l : List Int) (x : Int) : ∀ b : Nat, x ∈ leastR l b ↔ (1 ≤ x ∧ x ≤ b) ∧ (l.any (· == x) && l.all (alone x)) = true
  | 0 => by
    constructor
    · intro h; cases h
    · intro h; omega
  | b + 1 => by
    have ih := leastR_mem l x b
    rw [leastR]
    by_cases e : x = ((b + 1 : Nat) : Int)
    · subst e
      by_cases hc : (l.any (· == ((b + 1 : Nat) : Int)) && l.all (alone ((b + 1 : Nat) : Int))) = true
      · rw [if_pos hc]
        exact ⟨fun _ => ⟨by omega, hc⟩, fun _ => by simp⟩
      · rw [if_neg hc]
        refine ⟨fun h => ?_, fun h => absurd h.2 hc⟩
        have := ih.1 h
        omega
    · have hstep : x ∈ (if (l.any (· == ((b + 1 : Nat) : Int)) && l.all (alone ((b + 1 : Nat) : Int))) = true then leastR l b ++ [((b + 1 : Nat) : Int)] else leastR l b) ↔ x ∈ leastR l b := by
        split
        · rw [List.mem_append, List.mem_singleton]
          exact ⟨fun h => h.resolve_right e, .inl⟩
        · exact Iff.rfl
      rw [hstep, ih]
      constructor
      · intro h; exact ⟨by omega, h.2⟩
      · intro h; exact ⟨by omega, h.2⟩
theorem alone_inside {m : Nat} (h9 : m ≤ 9) {x y : Int} (hx : 1 ≤ x ∧ x < 2 ^ m) (hy : 1 ≤ y ∧ y < 2 ^ m) : alone x y = !inside x y := by
  unfold alone inside
  rw [← andNotZ h9 hx hy]
  cases h : (y == x) <;> cases h2 : (bits .andNot .i64 y x == 0) <;> simp_all
theorem least_same {m : Nat} {l : List Int} (hF : okF m l = 0) : leastL l = leastR l (2 ^ m - 1) := by
  have h9 : m ≤ 9 := by have := okF_m hF; omega
  have hl := okF_L hF
  refine asc_ext (leastL_asc l) (leastR_asc l _).1 fun x => ?_
  rw [leastL_mem, leastR_mem, Bool.and_eq_true, List.any_eq_true, List.all_eq_true]
  have e : ((2 ^ m : Nat) : Int) = (2 : Int) ^ m := by simp
  have hp := Nat.two_pow_pos m
  unfold holdsOther
  rw [List.any_eq_false]
  constructor
  · rintro ⟨h1, h2⟩
    have hx := hl x h1
    refine ⟨⟨hx.1, by have h3 : x < 2 ^ m := hx.2; rw [← e] at h3; omega⟩, ⟨x, h1, by simp⟩, fun y hy => ?_⟩
    rw [alone_inside h9 hx (hl y hy)]
    have := h2 y hy
    cases hq : inside x y with
    | true => exact absurd hq this
    | false => rfl
  · rintro ⟨_, ⟨y, hy, hxy⟩, h2⟩
    have hxy : y = x := by simpa using hxy
    subst hxy
    refine ⟨hy, fun z hz => ?_⟩
    have := h2 z hz
    rw [alone_inside h9 (hl y hy) (hl z hz)] at this
    intro h
    rw [h] at this
    cases this
theorem refLeast_ev (m : Int) (l : List Int) : ∃ r e, ambush_Least.f m l = some (r, e) ∧ r.length ≤ 512 ∧ Ev (fun k => drovewayref04_Least.f k m l) (r, e) := by
  by_cases h0 : okF m l = 0
  · have h1 := (okF_m h0).1
    obtain ⟨n, rfl⟩ : ∃ n : Nat, m = n := ⟨m.toNat, by omega⟩
    have h9 : n ≤ 9 := by have := okF_m h0; omega
    have h512 : 2 ^ n ≤ 512 := Nat.pow_le_pow_right (show 0 < 2 by decide) h9
    refine ⟨leastL l, 0, by unfold ambush_Least.f; rw [if_pos h0], by rw [least_same h0]; have := leastR_len l (2 ^ n - 1); omega, ?_⟩
    refine Ev.bind (f := fun k t105 => if t105 = 0 then (drovewayref04_Least.l0 k n l ([] : List Int) 1) else (some (([] : List Int), t105))) (PAmbushGuards.Field_ev n l) ?_
    rw [h0, least_same h0]
    exact Ev.congr (fun k => by rw [if_pos rfl]; rfl) (least_l0 (by omega) h9 l (okF_len h0) _ 0 rfl (Nat.zero_le _))
  · refine ⟨[], okF m l, by unfold ambush_Least.f; rw [if_neg h0], by simp, ?_⟩
    refine Ev.bind (f := fun k t105 => if t105 = 0 then (drovewayref04_Least.l0 k m l ([] : List Int) 1) else (some (([] : List Int), t105))) (PAmbushGuards.Field_ev m l) ?_
    exact Ev.congr (fun k => by rw [if_neg h0]) (Ev.now _)

theorem gua_j1 (m : Int) (l : List Int) : Ev (fun k => drovewaylaw04_AmbushGuards.j1 k m l false) true := by
  obtain ⟨r, e, h1, h2, h3⟩ := refLeast_ev m l
  refine Ev.step (f := fun k => (drovewayref04_Least.f k m l).bind fun bt133 => ((drovewaylaw04_same.f k r bt133.1).bind fun t137 => (if t137 = true then (if e = bt133.2 then ((drovewaylaw04_alive.f).bind fun t138 => (some t138)) else (some false)) else (some false)))) (fun k => ?_) ?_
  · rw [drovewaylaw04_AmbushGuards.j1, if_neg (by decide), h1]
    rfl
  · refine Ev.bind h3 ?_
    refine Ev.bind (f := fun _ t137 => (if t137 = true then (if e = e then ((drovewaylaw04_alive.f).bind fun t138 => (some t138)) else (some false)) else (some false))) (same_ev r (by omega)) ?_
    exact Ev.congr (fun k => by rw [if_pos rfl, if_pos rfl]; rfl) (Ev.now _)
theorem gua_j0 (m : Int) (l : List Int) : Ev (fun k => drovewaylaw04_AmbushGuards.j0 k m l false) true := by
  refine Ev.step (fun k => ?_) (gua_j1 m l)
  rw [drovewaylaw04_AmbushGuards.j0, if_neg (by decide)]
  unfold ambush_Needs.f drovewayref04_Needs.f
  simp only [Option.bind_some, if_true]
  rw [bne_self_eq_false]
theorem guardL_any (m : Int) (l : List Int) : ∃ r e, ambush_Guards.f m l = some (r, e) ∧ drovewayref04_Guards.f m l = some (r, e) ∧ r.length ≤ 140737488351232 := by
  unfold ambush_Guards.f drovewayref04_Guards.f
  by_cases h : okF m l = 0
  · rw [if_pos h]
    have := guardL_len l m.toNat m.toNat
    have := okF_m h
    exact ⟨_, _, rfl, rfl, by omega⟩
  · rw [if_neg h]
    exact ⟨_, _, rfl, rfl, by simp⟩

/-- AmbushGuards, plain. -/
theorem AmbushGuards : drovewaylaw04_AmbushGuards.Pure := by
  intro m l _ _ _ _
  refine Ev.rounds (g := fun k => drovewaylaw04_AmbushGuards.f k m l) ?_
  unfold drovewaylaw04_AmbushGuards.f
  rw [PAmbushGuards.few_eq]
  simp only [Option.bind_some]
  by_cases hf : ((l.length : Int) ≤ 40 ∧ ((⟨#[]⟩ : ByteArray).size : Int) ≤ 40 ∧ ((⟨#[]⟩ : ByteArray).size : Int) ≤ 40)
  · simp only [decide_eq_true hf, if_true]
    obtain ⟨r, e, h1, h2, h3⟩ := guardL_any m l
    rw [h1, h2]
    simp only [Option.bind_some]
    refine Ev.bind (f := fun k t124 => if t124 = true then (drovewaylaw04_AmbushGuards.j0 k m l (e != e)) else (drovewaylaw04_AmbushGuards.j0 k m l true)) (same_ev r h3) ?_
    rw [bne_self_eq_false]
    exact Ev.congr (fun k => by rw [if_pos rfl]) (gua_j0 m l)
  · simp only [decide_eq_false hf]
    exact Ev.congr (fun k => by rw [if_neg (by decide)]; rfl) (Ev.now true)
end Go.Proofs.Ytbjpjjokamaliaa.Pure

/- AmbushGuards holds: its code returns true and leaves what it was given as it was. Conditions: those of the given statement, none besides. -/
-- Printed by hprint.py (this claim's own program, over the kit's print.py) out of the translation and contracts by hand. Not trusted: Lean checks it.
namespace Go.Proofs.Ytbjpjjokamaliaa.ambushGuards
open Go.ChangeShapes Go.WideShapes Go.ChangeAt Go.RowKit
open Go.ChangeMaps (open_string shut_string)
set_option linter.unusedVariables false
theorem own : ownKnob Try.prog.godebug = none := by kernel_rfl
theorem laidOut : laidOutB Try.prog = true := by kernel_rfl
def IsRow (k : IntKind) (w : World) (a : Option Addr) (len cap : Nat) (zs : List Int) : Prop :=
  (a = none ∧ len = 0 ∧ cap = 0 ∧ zs = []) ∨
  ∃ x, a = some x ∧ len ≤ cap ∧ cap ≤ maxLen ∧ zs.length = cap ∧ (∀ i, i < zs.length → w.cell? (x.add i) = some (.int k (zs.getD i 0))) ∧ ∀ n ∈ zs, (Lit.int k n).wf = true
set_option maxRecDepth 100000 in
theorem lifted (os : Os) (started : os.Started) (H : Type) (enc : TypeId × Value → H) :
    ReturnsInHanded {} Try.checked os 10 .any (Rows.ambushGuardsSpec.pre6 enc Try.prog Try.f10 Rows.ambushGuardsRow.domain false) (Rows.ambushGuardsSpec.post enc Try.prog Try.f10 false true false false) := by
  refine returnsInHanded_of_change_sized (C := Try.checked) own started (by kernel_rfl) Try.func10
    (ChangeSpec.witness6 (enc := enc) (C := Try.checked) false ⟨#[], #[.int .i64 0, .slice none 0 0], []⟩ 8 (by kernel_rfl) (by kernel_rfl) (by kernel_rfl) (by kernel_rfl)) ?_
  intro W base args ds gs before hval0 hW hcnd hsz0 _
  have hsz : (DataW.weightsEach Try.prog (Try.f10.params.toList ++ Rows.ambushGuardsSpec.plain.varTypes Try.prog) (ds ++ gs)).all (· ≤ reachBytes) = true := hsz0
  have hval : ∀ (j : Nat) t v, Try.f10.params[j]? = some t → args[j]? = some v → Value.okWide Try.prog W .any base t v := hval0
  have hW' := hW
  obtain ⟨p, q, hA0, hV, rfl, hfz, hnd⟩ := hW
  have hA : DataW.TrodAll enc Try.prog W 0 (fun _ => true) true Try.f10.params.toList args.toList ds p := hA0
  rw [Try.params10] at hA hval hsz
  obtain ⟨v0, vs0, d0, ds0, p0, q0, hargs, rfl, rfl, h0, r0⟩ := trodAll_cons hA
  obtain ⟨v1, vs1, d1, ds1, p1, q1, rfl, rfl, rfl, h1, r1⟩ := trodAll_cons r0
  obtain ⟨rfl, rfl, rfl⟩ := trodAll_nil r1
  obtain rfl : args = #[v0, v1] := by cases args; simp_all
  obtain ⟨rfl, rfl⟩ := trodVars_none hV
  obtain ⟨a0, rfl, rfl, rfl, w0⟩ := open_int Try.underlying3 (hval 0 3 v0 rfl rfl) h0
  obtain ⟨a1, len1, cap1, rfl⟩ := okWide_slice Try.underlying22 (hval 1 22 v1 rfl rfl)
  have k1 := h1
  have lt1 : ∀ x ∈ p1, x.block < W.heap.size := by obtain ⟨m, hm⟩ := k1; exact DataW.trod_lt m _ _ _ hm
  obtain ⟨z1, w1⟩ : ∃ zs, IsRow .i64 W a1 len1 cap1 zs := by
    obtain ⟨fuel, hf⟩ := h1
    rcases open_ints Try.underlying22 Try.underlying3 (by kernel_rfl) hf with ⟨hcs, _⟩ | ⟨x, l, c, zs, hcs, _, hl, hm, hz, _, hcell, hwz⟩
    · simp [Value.cells] at hcs
      obtain ⟨rfl, rfl, rfl⟩ := hcs
      exact ⟨[], .inl ⟨rfl, rfl, rfl, rfl⟩⟩
    · simp [Value.cells] at hcs
      obtain ⟨rfl, rfl, rfl⟩ := hcs
      exact ⟨zs, .inr ⟨_, rfl, hl, hm, by simpa using hz, hcell, hwz⟩⟩
  have y1 : len1 * 8 ≤ 140737488351232 := Go.Proofs.YtbjpjjokamaliaaW.PrintWords.sized_ints hsz (j := 1) (t := 22) rfl rfl Try.underlying22 Try.underlying3 (by kernel_rfl) (by kernel_rfl) h1
  clear hA0 hval0 hsz0 hsz
  refine (PAmbushGuards.drovewaylaw04_AmbushGuards.walk Pure.AmbushGuards a0 a1 len1 cap1 z1 W w0 w1 y1).mono fun e W' ⟨he, bel⟩ => ?_
  subst he
  exact ⟨_, rfl, _, _, _, [], _, [], hW', trodAll_mk1 (shut_bool Try.underlying4 _), (trodAll_cons_mk (shut_int Try.underlying3 w0) (trodAll_cons_mk (Below.trod laidOut (by kernel_rfl) (of_decide_eq_true (by kernel_rfl)) k1 bel lt1) trodAll_mk0)), rfl, bel.frame _, fun h => by cases h⟩
theorem over : Rows.ambushGuardsRow.holds Try.pinned (OpenSpec.ofChange Rows.ambushGuardsSpec) :=
  OpenClaim.holds_of_wide 10 Try.f10 rfl rfl rfl rfl rfl rfl rfl ⟨rfl, rfl, rfl, rfl, rfl⟩ rfl rfl rfl rfl rfl (by kernel_rfl) Try.func10 (by kernel_rfl)
    (of_decide_eq_true (by kernel_rfl)) (by unfold Func.isWrapper; first | (rw [if_pos (by decide +kernel)]; kernel_rfl) | (rw [if_neg (by decide +kernel)]; exact ⟨rfl, rfl⟩))
    (fun os started H enc _ => lifted os started H enc)
theorem proved : Rows.AmbushGuardsSaid := over
#print axioms proved
end Go.Proofs.Ytbjpjjokamaliaa.ambushGuards
namespace Go.Proofs.Ytbjpjjokamaliaa
/-- The row, under a short name, for the claim. -/
theorem ambushGuards_holds : Rows.AmbushGuardsSaid := ambushGuards.proved
end Go.Proofs.Ytbjpjjokamaliaa
