/- AmbushMoves holds: its code returns true and leaves what it was given as it was. Conditions: those of the given statement, none besides. -/
import Derived.Test.YtbjpjjokamaliaaDoorZMo1
import Derived.KernelRfl
import Derived.Test.YtbjpjjokamaliaaDoorRows
import Derived.Test.YtbjpjjokamaliaaDoorCards
import Derived.Test.YtbjpjjokamaliaaDoorTie
import Derived.LaidMore
import Derived.Stop.Joined
import Derived.SevenTiedAt
import Derived.WalkKit
import Derived.ProofKit
import Derived.OpenShut
import Derived.ShutString
import Derived.ChangeOld
import Derived.Below
import Derived.SizedLaws
import Derived.Test.YtbjpjjokamaliaaDoorWSized
-- Printed by hprint.py (this claim's own program, over the kit's print.py) out of the translation and contracts by hand. Not trusted: Lean checks it.
namespace Go.Proofs.YtbjpjjokamaliaaDoor.PAmbushMoves
open Go.Proofs.YtbjpjjokamaliaaDoor.A Go.Proofs.YtbjpjjokamaliaaDoor.B
open Go.RowKit Go.Proofs.YtbjpjjokamaliaaDoorW.PrintWords Go.Proofs.YtbjpjjokamaliaaDoorW.PrintLast Go.Proofs.YtbjpjjokamaliaaDoorW.PrintMore
attribute [local go_sem] max2_int min2_int max_two min_two max_three min_three max_four min_four   -- for this text's walks alone
set_option linter.unusedVariables false
set_option linter.unusedSimpArgs false

/-! ### drovewaylaw04_AmbushMoves: function 4 -/
mutual
def drovewaylaw04_AmbushMoves.j0 : Nat → Int → List Int → ByteArray → Int → ByteArray → ByteArray → Int → Option (Bool)
  | 0, _, _, _, _, _, _, _ => none
  | k + 1, x0, x1, x2, x4, x14, x15, x16 => (ambush_Winner.f x0 x1 x2 x14).bind fun bt110 => ((ambush_Move.f x0 x1 x2 x14).bind fun bt112 => (if bt112.2 = 0 then (if bt110.2 = 0 then (if bt112.1 < 0 then (drovewaylaw04_AmbushMoves.j1 k x0 x1 x2 x4 x14 x15 x16 bt110.1 bt112.1 true) else (if bt112.1 ≥ x0 then (drovewaylaw04_AmbushMoves.j1 k x0 x1 x2 x4 x14 x15 x16 bt110.1 bt112.1 true) else (if 0 ≤ bt112.1 then (if bt112.1 < (x2.size : Int) then (drovewaylaw04_AmbushMoves.j1 k x0 x1 x2 x4 x14 x15 x16 bt110.1 bt112.1 ((bt x2 bt112.1) != 46)) else (none)) else (none)))) else (drovewaylaw04_AmbushMoves.j1 k x0 x1 x2 x4 x14 x15 x16 bt110.1 bt112.1 true)) else (if bt110.2 = 0 then (if bt112.2 = 9 then (if bt112.1 = 0 then ((drovewaylaw04_alive.f).bind fun t114 => (some t114)) else (some false)) else (some false)) else (some false))))
def drovewaylaw04_AmbushMoves.j1 : Nat → Int → List Int → ByteArray → Int → ByteArray → ByteArray → Int → ByteArray → Int → Bool → Option (Bool)
  | 0, _, _, _, _, _, _, _, _, _, _ => none
  | k + 1, x0, x1, x2, x4, x14, x15, x16, x17, x18, x89 => if x89 = true then (some false) else ((drovewaylaw04_placed.f x2 x18 x16).bind fun t115 => ((ambush_Winner.f x0 x1 t115 x15).bind fun bt116 => (if x0 = 0 then (none) else (if bt116.2 = 0 then (drovewaylaw04_AmbushMoves.j2 k x0 x1 x2 x14 x15 x16 x17 x18 (Int.tmod (wrap64 (x4)) x0) ((x17.toList == x14.toList) != (bt116.1.toList == x14.toList))) else (drovewaylaw04_AmbushMoves.j2 k x0 x1 x2 x14 x15 x16 x17 x18 (Int.tmod (wrap64 (x4)) x0) true)))))
def drovewaylaw04_AmbushMoves.j2 : Nat → Int → List Int → ByteArray → ByteArray → ByteArray → Int → ByteArray → Int → Int → Bool → Option (Bool)
  | 0, _, _, _, _, _, _, _, _, _, _ => none
  | k + 1, x0, x1, x2, x14, x15, x16, x17, x18, x22, x115 => if x115 = true then (some false) else (if 0 ≤ x22 then (if x22 < (x2.size : Int) then (if (bt x2 x22) = 46 then ((drovewaylaw04_placed.f x2 x22 x16).bind fun t118 => ((ambush_Winner.f x0 x1 t118 x15).bind fun bt119 => (if bt119.2 = 0 then (if bt119.1.toList = x14.toList then (if x17.toList = x14.toList then (if x22 ≥ x18 then ((drovewaylaw04_alive.f).bind fun t121 => (some t121)) else (some false)) else (some false)) else ((drovewaylaw04_alive.f).bind fun t122 => (some t122))) else (some false)))) else ((drovewaylaw04_alive.f).bind fun t123 => (some t123))) else (none)) else (none))
end
def drovewaylaw04_AmbushMoves.f (k : Nat) (a0 : Int) (l1 : List Int) (a2 : ByteArray) (a3 : Bool) (a4 : Int) : Option (Bool) := (drovewaylaw04_few.f l1 a2 (⟨#[]⟩ : ByteArray)).bind fun t104 => (if t104 = true then ((drovewayref04_Placed.f k a0 l1 a2).bind fun bt106 => (if bt106.2.2 = 0 then (if a3 = true then (drovewaylaw04_AmbushMoves.j0 k a0 l1 a2 a4 (⟨#[119]⟩ : ByteArray) (⟨#[100]⟩ : ByteArray) 119) else (drovewaylaw04_AmbushMoves.j0 k a0 l1 a2 a4 (⟨#[100]⟩ : ByteArray) (⟨#[119]⟩ : ByteArray) 100)) else ((drovewaylaw04_alive.f).bind fun t109 => (some t109)))) else ((drovewaylaw04_alive.f).bind fun t105 => (some t105)))
theorem drovewaylaw04_AmbushMoves.mono_l : ∀ k, (∀ y0 y1 y2 y3 y4 y5 y6, LeO (drovewaylaw04_AmbushMoves.j0 k y0 y1 y2 y3 y4 y5 y6) (drovewaylaw04_AmbushMoves.j0 (k + 1) y0 y1 y2 y3 y4 y5 y6)) ∧ (∀ y0 y1 y2 y3 y4 y5 y6 y7 y8 y9, LeO (drovewaylaw04_AmbushMoves.j1 k y0 y1 y2 y3 y4 y5 y6 y7 y8 y9) (drovewaylaw04_AmbushMoves.j1 (k + 1) y0 y1 y2 y3 y4 y5 y6 y7 y8 y9)) ∧ (∀ y0 y1 y2 y3 y4 y5 y6 y7 y8 y9, LeO (drovewaylaw04_AmbushMoves.j2 k y0 y1 y2 y3 y4 y5 y6 y7 y8 y9) (drovewaylaw04_AmbushMoves.j2 (k + 1) y0 y1 y2 y3 y4 y5 y6 y7 y8 y9))
  | 0 => ⟨fun _ _ _ _ _ _ _ r h => by simp [drovewaylaw04_AmbushMoves.j0] at h, fun _ _ _ _ _ _ _ _ _ _ r h => by simp [drovewaylaw04_AmbushMoves.j1] at h, fun _ _ _ _ _ _ _ _ _ _ r h => by simp [drovewaylaw04_AmbushMoves.j2] at h⟩
  | k + 1 => by
    obtain ⟨ih0, ih1, ih2⟩ := drovewaylaw04_AmbushMoves.mono_l k
    refine ⟨?_, ?_, ?_⟩
    · intro y0 y1 y2 y3 y4 y5 y6
      unfold drovewaylaw04_AmbushMoves.j0
      repeat' first
      | (with_reducible exact ih0 _ _ _ _ _ _ _)
      | (with_reducible exact ih1 _ _ _ _ _ _ _ _ _ _)
      | (with_reducible exact ih2 _ _ _ _ _ _ _ _ _ _)
      | (with_reducible exact drovewayref04_Placed.mono _ _ _ _)
      | (with_reducible exact LeO.refl _)
      | (with_reducible exact LeO.none _)
      | (with_reducible refine LeO.ite ?_ ?_)
      | (with_reducible refine LeO.bind ?_ (fun _ => ?_))
      | exact ih0 _ _ _ _ _ _ _
      | exact ih1 _ _ _ _ _ _ _ _ _ _
      | exact ih2 _ _ _ _ _ _ _ _ _ _
      | exact drovewayref04_Placed.mono _ _ _ _
      | exact LeO.none _
      | refine LeO.ite ?_ ?_
      | refine LeO.bind ?_ (fun _ => ?_)
    · intro y0 y1 y2 y3 y4 y5 y6 y7 y8 y9
      unfold drovewaylaw04_AmbushMoves.j1
      repeat' first
      | (with_reducible exact ih0 _ _ _ _ _ _ _)
      | (with_reducible exact ih1 _ _ _ _ _ _ _ _ _ _)
      | (with_reducible exact ih2 _ _ _ _ _ _ _ _ _ _)
      | (with_reducible exact drovewayref04_Placed.mono _ _ _ _)
      | (with_reducible exact LeO.refl _)
      | (with_reducible exact LeO.none _)
      | (with_reducible refine LeO.ite ?_ ?_)
      | (with_reducible refine LeO.bind ?_ (fun _ => ?_))
      | exact ih0 _ _ _ _ _ _ _
      | exact ih1 _ _ _ _ _ _ _ _ _ _
      | exact ih2 _ _ _ _ _ _ _ _ _ _
      | exact drovewayref04_Placed.mono _ _ _ _
      | exact LeO.none _
      | refine LeO.ite ?_ ?_
      | refine LeO.bind ?_ (fun _ => ?_)
    · intro y0 y1 y2 y3 y4 y5 y6 y7 y8 y9
      unfold drovewaylaw04_AmbushMoves.j2
      repeat' first
      | (with_reducible exact ih0 _ _ _ _ _ _ _)
      | (with_reducible exact ih1 _ _ _ _ _ _ _ _ _ _)
      | (with_reducible exact ih2 _ _ _ _ _ _ _ _ _ _)
      | (with_reducible exact drovewayref04_Placed.mono _ _ _ _)
      | (with_reducible exact LeO.refl _)
      | (with_reducible exact LeO.none _)
      | (with_reducible refine LeO.ite ?_ ?_)
      | (with_reducible refine LeO.bind ?_ (fun _ => ?_))
      | exact ih0 _ _ _ _ _ _ _
      | exact ih1 _ _ _ _ _ _ _ _ _ _
      | exact ih2 _ _ _ _ _ _ _ _ _ _
      | exact drovewayref04_Placed.mono _ _ _ _
      | exact LeO.none _
      | refine LeO.ite ?_ ?_
      | refine LeO.bind ?_ (fun _ => ?_)
theorem drovewaylaw04_AmbushMoves.mono : ∀ a0 a1 a2 a3 a4 k, LeO (drovewaylaw04_AmbushMoves.f k a0 a1 a2 a3 a4) (drovewaylaw04_AmbushMoves.f (k + 1) a0 a1 a2 a3 a4) := by
  intro a0 a1 a2 a3 a4 k
  obtain ⟨ih0, ih1, ih2⟩ := drovewaylaw04_AmbushMoves.mono_l k
  unfold drovewaylaw04_AmbushMoves.f
  repeat' first
      | (with_reducible exact ih0 _ _ _ _ _ _ _)
      | (with_reducible exact ih1 _ _ _ _ _ _ _ _ _ _)
      | (with_reducible exact ih2 _ _ _ _ _ _ _ _ _ _)
      | (with_reducible exact drovewayref04_Placed.mono _ _ _ _)
      | (with_reducible exact LeO.refl _)
      | (with_reducible exact LeO.none _)
      | (with_reducible refine LeO.ite ?_ ?_)
      | (with_reducible refine LeO.bind ?_ (fun _ => ?_))
      | exact ih0 _ _ _ _ _ _ _
      | exact ih1 _ _ _ _ _ _ _ _ _ _
      | exact ih2 _ _ _ _ _ _ _ _ _ _
      | exact drovewayref04_Placed.mono _ _ _ _
      | exact LeO.none _
      | refine LeO.ite ?_ ?_
      | refine LeO.bind ?_ (fun _ => ?_)
set_option maxHeartbeats 8000000 in
set_option maxRecDepth 100000 in
theorem drovewaylaw04_AmbushMoves.calls (k : Nat) (a0 : Int) (A1 : Option Addr) (c1 : Nat) (l1 : List Int) (a2 : ByteArray) (a3 : Bool) (a4 : Int) (r : Bool) (w : World) (hT : TabAt w) (hr1 : Kd.C (Kd.int .i64) w A1 l1.length l1) (hc1 : l1.length ≤ c1) (h : drovewaylaw04_AmbushMoves.f k a0 l1 a2 a3 a4 = some r) :
    Calls Tryd.prog 4 #[.int .i64 a0, .slice A1 l1.length c1, .string a2, .bool a3, .int .u8 a4] w fun e w' => e = .returned (.bool r) ∧ Below w.heap.size w w' := by
  have HT := Aside0.mk hT
  clear hT
  have HR1 := Aside0.mk hr1
  have HC1 := Aside0.mk hc1
  clear hr1 hc1
  have HB := Aside0.mk (Below.refl w.heap.size w)
  have H : ((drovewaylaw04_few.f l1 a2 (⟨#[]⟩ : ByteArray)).bind fun t104 => (if t104 = true then ((drovewayref04_Placed.f k a0 l1 a2).bind fun bt106 => (if bt106.2.2 = 0 then (if a3 = true then (drovewaylaw04_AmbushMoves.j0 k a0 l1 a2 a4 (⟨#[119]⟩ : ByteArray) (⟨#[100]⟩ : ByteArray) 119) else (drovewaylaw04_AmbushMoves.j0 k a0 l1 a2 a4 (⟨#[100]⟩ : ByteArray) (⟨#[119]⟩ : ByteArray) 100)) else ((drovewaylaw04_alive.f).bind fun t109 => (some t109)))) else ((drovewaylaw04_alive.f).bind fun t105 => (some t105)))) = some r := h
  clear h
  replace H := Option.bind_eq_some_iff.mp H
  obtain ⟨t104, A60, H⟩ := H
  replace H : (if t104 = true then ((drovewayref04_Placed.f k a0 l1 a2).bind fun bt106 => (if bt106.2.2 = 0 then (if a3 = true then (drovewaylaw04_AmbushMoves.j0 k a0 l1 a2 a4 (⟨#[119]⟩ : ByteArray) (⟨#[100]⟩ : ByteArray) 119) else (drovewaylaw04_AmbushMoves.j0 k a0 l1 a2 a4 (⟨#[100]⟩ : ByteArray) (⟨#[119]⟩ : ByteArray) 100)) else ((drovewaylaw04_alive.f).bind fun t109 => (some t109)))) else ((drovewaylaw04_alive.f).bind fun t105 => (some t105))) = some r := H
  have A6 := Aside0.mk A60
  clear A60
  by_cases c7 : t104 = true
  · subst c7
    have H1 : ((drovewayref04_Placed.f k a0 l1 a2).bind fun bt106 => (if bt106.2.2 = 0 then (if a3 = true then (drovewaylaw04_AmbushMoves.j0 k a0 l1 a2 a4 (⟨#[119]⟩ : ByteArray) (⟨#[100]⟩ : ByteArray) 119) else (drovewaylaw04_AmbushMoves.j0 k a0 l1 a2 a4 (⟨#[100]⟩ : ByteArray) (⟨#[119]⟩ : ByteArray) 100)) else ((drovewaylaw04_alive.f).bind fun t109 => (some t109)))) = some r := by rw [if_pos rfl] at H; exact H
    clear H
    have H := H1
    clear H1
    replace H := Option.bind_eq_some_iff.mp H
    obtain ⟨⟨t106, t107, t108⟩, A80, H⟩ := H
    replace H : (if t108 = 0 then (if a3 = true then (drovewaylaw04_AmbushMoves.j0 k a0 l1 a2 a4 (⟨#[119]⟩ : ByteArray) (⟨#[100]⟩ : ByteArray) 119) else (drovewaylaw04_AmbushMoves.j0 k a0 l1 a2 a4 (⟨#[100]⟩ : ByteArray) (⟨#[119]⟩ : ByteArray) 100)) else ((drovewaylaw04_alive.f).bind fun t109 => (some t109))) = some r := H
    have A8 := Aside0.mk A80
    clear A80
    by_cases c9 : t108 = 0
    · rw [if_pos c9] at H
      have c9b0 : (t108 == 0) = true := beq_iff_eq.mpr c9
      have c9b1 : (t108 != 0) = false := bne_eq_false_iff_eq.mpr c9
      clear c9
      have HC10 := Aside0.mk H
      clear H
      go_enter Tryd.func4, Tryd.ntmps4
      go_upto_if 41 with (first | ((with_reducible refine gate_callee (f := 5) rfl ?_); refine goesL_ (some 27) rfl rfl Tryd.func5 (by kernel_rfl) rfl #[.slice A1 l1.length c1, .string a2, .string (⟨#[]⟩ : ByteArray)] rfl (by (try simp only [List.map_toArray, List.map_cons, List.map_nil]); first | done | rfl | (simp only [List.length_drop, List.length_take]; rfl)) ?_; (with_reducible refine (drovewaylaw04_few.calls _ _ l1 a2 (⟨#[]⟩ : ByteArray) true _ ?side1 ?side2 A6.out).mono ?_); (case side1 => repeat (first | exact HR1.out | (with_reducible refine Kd.C_alloc ?_ _) | (with_reducible refine Kd.C_drewN ?_ _) | (with_reducible refine Kd.C_drew ?_))); (case side2 => exact HC1.out); rintro e w' ⟨rfl, ⟨nd, rfl⟩⟩; refine ⟨_, rfl, ?_⟩) | ((with_reducible refine gate_callee (f := 12) rfl ?_); refine goesL_ (some 34) rfl rfl Tryd.func12 (by kernel_rfl) rfl #[.int .i64 a0, .slice A1 l1.length c1, .string a2] rfl (by (try simp only [List.map_toArray, List.map_cons, List.map_nil]); first | done | rfl | (simp only [List.length_drop, List.length_take]; rfl)) ?_; (with_reducible refine (drovewayref04_Placed.calls k a0 _ _ l1 a2 t106 t107 t108 _ ?side1 ?side2 A8.out).mono ?_); (case side1 => repeat (first | exact HR1.out | (with_reducible refine Kd.C_alloc ?_ _) | (with_reducible refine Kd.C_drewN ?_ _) | (with_reducible refine Kd.C_drew ?_))); (case side2 => exact HC1.out); rintro e w' ⟨rfl, ⟨nd, rfl⟩⟩; refine ⟨_, rfl, ?_⟩))
      (try simp only [Act.put, List.setIfInBounds_toArray, List.set_cons_zero, List.set_cons_succ])
      go_cut [14, 15, 16] (fun v14 v15 v16 wc => ∃ (kq : Nat) (x14_9 : ByteArray) (x15_9 : ByteArray) (x16_9 : Int), v14 = .string x14_9 ∧ v15 = .string x15_9 ∧ v16 = .int .u8 x16_9 ∧ Aside0 (drovewaylaw04_AmbushMoves.j0 kq a0 l1 a2 a4 x14_9 x15_9 x16_9 = some r) ∧ Aside0 (kq ≤ k) ∧ Aside0 (Below w.heap.size w wc))
      case first =>
        have H := HC10.out
        clear HC10
        by_cases c11 : a3 = true
        · subst c11
          have H1 : (drovewaylaw04_AmbushMoves.j0 k a0 l1 a2 a4 (⟨#[119]⟩ : ByteArray) (⟨#[100]⟩ : ByteArray) 119) = some r := by rw [if_pos rfl] at H; exact H
          clear H
          have H := H1
          clear H1
          have H' := Aside0.mk H
          clear H
          go_wp2
          go_meet
          case rel => exact ⟨_, ((⟨#[119]⟩ : ByteArray)), ((⟨#[100]⟩ : ByteArray)), (119), (by first | rfl | (simp; done) | (simp [*]; done) | (simp; exact beq_not_bne _ _)), (by first | rfl | (simp; done) | (simp [*]; done)), (by first | rfl | (simp; done) | (simp [*]; done)), H', ⟨by first | omega | exact Nat.le_refl _⟩, ⟨by repeat (first | (with_reducible first | exact HB.out | apply below_alloc | apply pw_below_drewN | apply below_drew1) | exact HB.out)⟩⟩
        · replace c11 := Bool.eq_false_iff.mpr c11
          subst c11
          have H1 : (drovewaylaw04_AmbushMoves.j0 k a0 l1 a2 a4 (⟨#[100]⟩ : ByteArray) (⟨#[119]⟩ : ByteArray) 100) = some r := by rw [if_neg (show ¬ (false = true) by decide)] at H; exact H
          clear H
          have H := H1
          clear H1
          have H' := Aside0.mk H
          clear H
          go_wp2
          go_meet
          case rel => exact ⟨_, ((⟨#[100]⟩ : ByteArray)), ((⟨#[119]⟩ : ByteArray)), (100), (by first | rfl | (simp; done) | (simp [*]; done) | (simp; exact beq_not_bne _ _)), (by first | rfl | (simp; done) | (simp [*]; done)), (by first | rfl | (simp; done) | (simp [*]; done)), H', ⟨by first | omega | exact Nat.le_refl _⟩, ⟨by repeat (first | (with_reducible first | exact HB.out | apply below_alloc | apply pw_below_drewN | apply below_drew1) | exact HB.out)⟩⟩
      case rest =>
        clear HC10
        try clear c1
        try clear p2
        try clear c4
        try clear c5
        try clear c7
        try clear c9
        try clear c9b0
        try clear c9b1
        try clear c11
        obtain ⟨kq, x14_9, x15_9, x16_9, rfl, rfl, rfl, HA, HJ9, HB⟩ := hcut
        cases kq with
        | zero => exact absurd HA.out (by simp [drovewaylaw04_AmbushMoves.j0])
        | succ kj9 =>
          have H := HA.out
          clear HA
          simp only [drovewaylaw04_AmbushMoves.j0] at H
          replace H := Option.bind_eq_some_iff.mp H
          obtain ⟨⟨t110, t111⟩, A120, H⟩ := H
          replace H : ((ambush_Move.f a0 l1 a2 x14_9).bind fun bt112 => (if bt112.2 = 0 then (if t111 = 0 then (if bt112.1 < 0 then (drovewaylaw04_AmbushMoves.j1 kj9 a0 l1 a2 a4 x14_9 x15_9 x16_9 t110 bt112.1 true) else (if bt112.1 ≥ a0 then (drovewaylaw04_AmbushMoves.j1 kj9 a0 l1 a2 a4 x14_9 x15_9 x16_9 t110 bt112.1 true) else (if 0 ≤ bt112.1 then (if bt112.1 < (a2.size : Int) then (drovewaylaw04_AmbushMoves.j1 kj9 a0 l1 a2 a4 x14_9 x15_9 x16_9 t110 bt112.1 ((bt a2 bt112.1) != 46)) else (none)) else (none)))) else (drovewaylaw04_AmbushMoves.j1 kj9 a0 l1 a2 a4 x14_9 x15_9 x16_9 t110 bt112.1 true)) else (if t111 = 0 then (if bt112.2 = 9 then (if bt112.1 = 0 then ((drovewaylaw04_alive.f).bind fun t114 => (some t114)) else (some false)) else (some false)) else (some false)))) = some r := H
          have A12 := Aside0.mk A120
          clear A120
          replace H := Option.bind_eq_some_iff.mp H
          obtain ⟨⟨t112, t113⟩, A130, H⟩ := H
          replace H : (if t113 = 0 then (if t111 = 0 then (if t112 < 0 then (drovewaylaw04_AmbushMoves.j1 kj9 a0 l1 a2 a4 x14_9 x15_9 x16_9 t110 t112 true) else (if t112 ≥ a0 then (drovewaylaw04_AmbushMoves.j1 kj9 a0 l1 a2 a4 x14_9 x15_9 x16_9 t110 t112 true) else (if 0 ≤ t112 then (if t112 < (a2.size : Int) then (drovewaylaw04_AmbushMoves.j1 kj9 a0 l1 a2 a4 x14_9 x15_9 x16_9 t110 t112 ((bt a2 t112) != 46)) else (none)) else (none)))) else (drovewaylaw04_AmbushMoves.j1 kj9 a0 l1 a2 a4 x14_9 x15_9 x16_9 t110 t112 true)) else (if t111 = 0 then (if t113 = 9 then (if t112 = 0 then ((drovewaylaw04_alive.f).bind fun t114 => (some t114)) else (some false)) else (some false)) else (some false))) = some r := H
          have A13 := Aside0.mk A130
          clear A130
          by_cases c14 : t113 = 0
          · rw [if_pos c14] at H
            have c14b0 : (t113 == 0) = true := beq_iff_eq.mpr c14
            have c14b1 : (t113 != 0) = false := bne_eq_false_iff_eq.mpr c14
            clear c14
            have HC15 := Aside0.mk H
            clear H
            go_upto_region 15 with (first | ((with_reducible refine gate_callee (f := 7) rfl ?_); refine goesL_ (some 47) rfl rfl Tryd.func7 (by kernel_rfl) rfl #[.int .i64 a0, .slice A1 l1.length c1, .string a2, .string x14_9] rfl (by (try simp only [List.map_toArray, List.map_cons, List.map_nil]); first | done | rfl | (simp only [List.length_drop, List.length_take]; rfl)) ?_; (with_reducible refine (ambush_Winner.calls a0 _ _ l1 a2 x14_9 t110 t111 _ ?side1 ?side2 A12.out).mono ?_); (case side1 => repeat (first | exact (Kd.C_below HR1.out HB.out) | (with_reducible refine Kd.C_alloc ?_ _) | (with_reducible refine Kd.C_drewN ?_ _) | (with_reducible refine Kd.C_drew ?_))); (case side2 => exact HC1.out); rintro e w16 ⟨rfl, hb⟩; refine ⟨_, rfl, ?_⟩; have n0_ := Aside0.mk (below_step (by repeat (first | (with_reducible first | exact HB.out | apply below_alloc | apply pw_below_drewN | apply below_drew1) | exact HB.out)) hb); clear HB; have HB := n0_; clear n0_; (try clear hb); (try clear hb2); (try clear hk); (try clear hi)) | ((with_reducible refine gate_callee (f := 9) rfl ?_); refine goesL_ (some 55) rfl rfl Tryd.func9 (by kernel_rfl) rfl #[.int .i64 a0, .slice A1 l1.length c1, .string a2, .string x14_9] rfl (by (try simp only [List.map_toArray, List.map_cons, List.map_nil]); first | done | rfl | (simp only [List.length_drop, List.length_take]; rfl)) ?_; (with_reducible refine (ambush_Move.calls a0 _ _ l1 a2 x14_9 t112 t113 _ ?sideT ?side1 ?side2 A13.out).mono ?_); (case sideT => exact TabAt.next HT.out (by repeat (first | (with_reducible first | exact HB.out | apply below_alloc | apply pw_below_drewN | apply below_drew1) | exact HB.out))); (case side1 => repeat (first | exact (Kd.C_below HR1.out HB.out) | (with_reducible refine Kd.C_alloc ?_ _) | (with_reducible refine Kd.C_drewN ?_ _) | (with_reducible refine Kd.C_drew ?_))); (case side2 => exact HC1.out); rintro e w17 ⟨rfl, hb⟩; refine ⟨_, rfl, ?_⟩; have n0_ := Aside0.mk (below_step (by repeat (first | (with_reducible first | exact HB.out | apply below_alloc | apply pw_below_drewN | apply below_drew1) | exact HB.out)) hb); clear HB; have HB := n0_; clear n0_; (try clear hb); (try clear hb2); (try clear hk); (try clear hi)))
            (try simp only [Act.put, List.setIfInBounds_toArray, List.set_cons_zero, List.set_cons_succ])
            go_cut [89] (fun v89 wc => ∃ (kq : Nat) (x89_14 : Bool), v89 = .bool x89_14 ∧ Aside0 (drovewaylaw04_AmbushMoves.j1 kq a0 l1 a2 a4 x14_9 x15_9 x16_9 t110 t112 x89_14 = some r) ∧ Aside0 (kq ≤ kj9) ∧ Aside0 (Below w.heap.size w wc))
            case first =>
              have H := HC15.out
              clear HC15
              by_cases c18 : t111 = 0
              · rw [if_pos c18] at H
                have c18b0 : (t111 == 0) = true := beq_iff_eq.mpr c18
                have c18b1 : (t111 != 0) = false := bne_eq_false_iff_eq.mpr c18
                clear c18
                (first | rw [c18b0] | (simp only [i64_w, i32_w]; rw [c18b0]) | skip)
                by_cases c19 : t112 < 0
                · rw [if_pos c19] at H
                  have c19b0 : decide (t112 < 0) = true := decide_eq_true c19
                  clear c19
                  have H' := Aside0.mk H
                  clear H
                  go_wp2
                  go_meet
                  case rel => exact ⟨_, (true), (by first | rfl | (simp; done) | (simp [*]; done) | (simp; exact beq_not_bne _ _)), H', ⟨by have := HJ9.out; first | omega | exact Nat.le_refl _⟩, ⟨by repeat (first | (with_reducible first | exact HB.out | apply below_alloc | apply pw_below_drewN | apply below_drew1) | exact HB.out)⟩⟩
                · rw [if_neg c19] at H
                  have c19b0 : decide (t112 < 0) = false := decide_eq_false c19
                  clear c19
                  by_cases c20 : t112 ≥ a0
                  · rw [if_pos c20] at H
                    have c20b0 : decide (a0 ≤ t112) = true := decide_eq_true c20
                    clear c20
                    have H' := Aside0.mk H
                    clear H
                    go_wp2
                    go_meet
                    case rel => exact ⟨_, (true), (by first | rfl | (simp; done) | (simp [*]; done) | (simp; exact beq_not_bne _ _)), H', ⟨by have := HJ9.out; first | omega | exact Nat.le_refl _⟩, ⟨by repeat (first | (with_reducible first | exact HB.out | apply below_alloc | apply pw_below_drewN | apply below_drew1) | exact HB.out)⟩⟩
                  · rw [if_neg c20] at H
                    have c20b0 : decide (a0 ≤ t112) = false := decide_eq_false c20
                    clear c20
                    by_cases c21 : 0 ≤ t112
                    · rw [if_pos c21] at H
                      have c21b0 : decide (0 ≤ t112) = true := decide_eq_true c21
                      clear c21
                      by_cases c22 : t112 < (a2.size : Int)
                      · rw [if_pos c22] at H
                        have c22b0 : decide (t112 < (a2.size : Int)) = true := decide_eq_true c22
                        clear c22
                        have H' := Aside0.mk H
                        clear H
                        have p23 : 0 ≤ (t112 : Int) := of_decide_eq_true (by first | (with_reducible assumption) | assumption)
                        have q23 : t112 < (a2.size : Int) := of_decide_eq_true (by first | (with_reducible assumption) | assumption)
                        have hx23 := bt_at a2 t112
                        replace p23 := eq_true p23
                        replace q23 := eq_true q23
                        go_wp2
                        go_meet
                        case rel => exact ⟨_, (((bt a2 t112) != 46)), (by first | rfl | (simp; done) | (simp [*]; done) | (simp; exact beq_not_bne _ _)), H', ⟨by have := HJ9.out; first | omega | exact Nat.le_refl _⟩, ⟨by repeat (first | (with_reducible first | exact HB.out | apply below_alloc | apply pw_below_drewN | apply below_drew1) | exact HB.out)⟩⟩
                      · rw [if_neg c22] at H
                        exact absurd H (by simp)
                    · rw [if_neg c21] at H
                      exact absurd H (by simp)
              · rw [if_neg c18] at H
                have c18b0 : (t111 == 0) = false := beq_eq_false_iff_ne.mpr c18
                have c18b1 : (t111 != 0) = true := bne_iff_ne.mpr c18
                (first | rw [c18b0] | (simp only [i64_w, i32_w]; rw [c18b0]) | skip)
                have H' := Aside0.mk H
                clear H
                go_wp2
                go_meet
                case rel => exact ⟨_, (true), (by first | rfl | (simp; done) | (simp [*]; done) | (simp; exact beq_not_bne _ _)), H', ⟨by have := HJ9.out; first | omega | exact Nat.le_refl _⟩, ⟨by repeat (first | (with_reducible first | exact HB.out | apply below_alloc | apply pw_below_drewN | apply below_drew1) | exact HB.out)⟩⟩
            case rest =>
              clear HC15
              try clear c1
              try clear c2
              try clear p2
              try clear q2
              try clear hx2
              try clear c4
              try clear c5
              try clear c7
              try clear c9
              try clear c9b0
              try clear c9b1
              try clear c11
              try clear c12
              try clear c14
              try clear c14b0
              try clear c14b1
              try clear c18
              try clear c18b0
              try clear c18b1
              try clear c19
              try clear c19b0
              try clear c20
              try clear c20b0
              try clear c21
              try clear c21b0
              try clear c22
              try clear c22b0
              try clear p23
              try clear q23
              try clear hx23
              try clear p2
              try clear p23
              try clear q23
              obtain ⟨kq, x89_14, rfl, HA, HJ14, HB⟩ := hcut
              cases kq with
              | zero => exact absurd HA.out (by simp [drovewaylaw04_AmbushMoves.j1])
              | succ kj14 =>
                have H := HA.out
                clear HA
                simp only [drovewaylaw04_AmbushMoves.j1] at H
                by_cases c24 : x89_14 = true
                · subst c24
                  have H1 : (some false) = some r := by rw [if_pos rfl] at H; exact H
                  clear H
                  have H := H1
                  clear H1
                  obtain rfl := Option.some.inj H
                  go_wp2
                  go_ret
                  exact ⟨by first | rfl | (simp [errW_none, errW_some] <;> rfl) | (simp [*, errW_none, errW_some] <;> rfl), by repeat (first | (with_reducible first | exact HB.out | apply below_alloc | apply pw_below_drewN | apply below_drew1) | exact HB.out)⟩
                · replace c24 := Bool.eq_false_iff.mpr c24
                  subst c24
                  have H1 : ((drovewaylaw04_placed.f a2 t112 x16_9).bind fun t115 => ((ambush_Winner.f a0 l1 t115 x15_9).bind fun bt116 => (if a0 = 0 then (none) else (if bt116.2 = 0 then (drovewaylaw04_AmbushMoves.j2 kj14 a0 l1 a2 x14_9 x15_9 x16_9 t110 t112 (Int.tmod (wrap64 (a4)) a0) ((t110.toList == x14_9.toList) != (bt116.1.toList == x14_9.toList))) else (drovewaylaw04_AmbushMoves.j2 kj14 a0 l1 a2 x14_9 x15_9 x16_9 t110 t112 (Int.tmod (wrap64 (a4)) a0) true))))) = some r := by rw [if_neg (show ¬ (false = true) by decide)] at H; exact H
                  clear H
                  have H := H1
                  clear H1
                  replace H := Option.bind_eq_some_iff.mp H
                  obtain ⟨t115, A250, H⟩ := H
                  replace H : ((ambush_Winner.f a0 l1 t115 x15_9).bind fun bt116 => (if a0 = 0 then (none) else (if bt116.2 = 0 then (drovewaylaw04_AmbushMoves.j2 kj14 a0 l1 a2 x14_9 x15_9 x16_9 t110 t112 (Int.tmod (wrap64 (a4)) a0) ((t110.toList == x14_9.toList) != (bt116.1.toList == x14_9.toList))) else (drovewaylaw04_AmbushMoves.j2 kj14 a0 l1 a2 x14_9 x15_9 x16_9 t110 t112 (Int.tmod (wrap64 (a4)) a0) true)))) = some r := H
                  have A25 := Aside0.mk A250
                  clear A250
                  replace H := Option.bind_eq_some_iff.mp H
                  obtain ⟨⟨t116, t117⟩, A260, H⟩ := H
                  replace H : (if a0 = 0 then (none) else (if t117 = 0 then (drovewaylaw04_AmbushMoves.j2 kj14 a0 l1 a2 x14_9 x15_9 x16_9 t110 t112 (Int.tmod (wrap64 (a4)) a0) ((t110.toList == x14_9.toList) != (t116.toList == x14_9.toList))) else (drovewaylaw04_AmbushMoves.j2 kj14 a0 l1 a2 x14_9 x15_9 x16_9 t110 t112 (Int.tmod (wrap64 (a4)) a0) true))) = some r := H
                  have A26 := Aside0.mk A260
                  clear A260
                  by_cases c27 : a0 = 0
                  · rw [if_pos c27] at H
                    exact absurd H (by simp)
                  · rw [if_neg c27] at H
                    have c27b0 : (a0 == 0) = false := beq_eq_false_iff_ne.mpr c27
                    have c27b1 : (a0 != 0) = true := bne_iff_ne.mpr c27
                    have HC28 := Aside0.mk H
                    clear H
                    go_upto_region 19 with (first | ((with_reducible refine gate_callee (f := 13) rfl ?_); refine goesL_ (some 96) rfl rfl Tryd.func13 (by kernel_rfl) rfl #[.string a2, .int .i64 t112, .int .u8 x16_9] rfl (by (try simp only [List.map_toArray, List.map_cons, List.map_nil]); first | done | rfl | (simp only [List.length_drop, List.length_take]; rfl)) ?_; (with_reducible refine (drovewaylaw04_placed.calls a2 t112 x16_9 t115 _ A25.out).mono ?_); rintro e w29 ⟨rfl, hb⟩; refine ⟨_, rfl, ?_⟩; have n0_ := Aside0.mk (below_step (by repeat (first | (with_reducible first | exact HB.out | apply below_alloc | apply pw_below_drewN | apply below_drew1) | exact HB.out)) hb); clear HB; have HB := n0_; clear n0_; (try clear hb); (try clear hb2); (try clear hk); (try clear hi)) | ((with_reducible refine gate_callee (f := 7) rfl ?_); refine goesL_ (some 98) rfl rfl Tryd.func7 (by kernel_rfl) rfl #[.int .i64 a0, .slice A1 l1.length c1, .string t115, .string x15_9] rfl (by (try simp only [List.map_toArray, List.map_cons, List.map_nil]); first | done | rfl | (simp only [List.length_drop, List.length_take]; rfl)) ?_; (with_reducible refine (ambush_Winner.calls a0 _ _ l1 t115 x15_9 t116 t117 _ ?side1 ?side2 A26.out).mono ?_); (case side1 => repeat (first | exact (Kd.C_below HR1.out HB.out) | (with_reducible refine Kd.C_alloc ?_ _) | (with_reducible refine Kd.C_drewN ?_ _) | (with_reducible refine Kd.C_drew ?_))); (case side2 => exact HC1.out); rintro e w30 ⟨rfl, hb⟩; refine ⟨_, rfl, ?_⟩; have n0_ := Aside0.mk (below_step (by repeat (first | (with_reducible first | exact HB.out | apply below_alloc | apply pw_below_drewN | apply below_drew1) | exact HB.out)) hb); clear HB; have HB := n0_; clear n0_; (try clear hb); (try clear hb2); (try clear hk); (try clear hi)))
                    (try simp only [Act.put, List.setIfInBounds_toArray, List.set_cons_zero, List.set_cons_succ])
                    go_cut [115] (fun v115 wc => ∃ (kq : Nat) (x115_27 : Bool), v115 = .bool x115_27 ∧ Aside0 (drovewaylaw04_AmbushMoves.j2 kq a0 l1 a2 x14_9 x15_9 x16_9 t110 t112 (Int.tmod (wrap64 (a4)) a0) x115_27 = some r) ∧ Aside0 (kq ≤ kj14) ∧ Aside0 (Below w.heap.size w wc))
                    case first =>
                      have H := HC28.out
                      clear HC28
                      by_cases c31 : t117 = 0
                      · rw [if_pos c31] at H
                        have c31b0 : (t117 == 0) = true := beq_iff_eq.mpr c31
                        have c31b1 : (t117 != 0) = false := bne_eq_false_iff_eq.mpr c31
                        clear c31
                        (first | rw [c31b0] | (simp only [i64_w, i32_w]; rw [c31b0]) | skip)
                        have H' := Aside0.mk H
                        clear H
                        go_wp2
                        go_meet
                        case rel => exact ⟨_, (((t110.toList == x14_9.toList) != (t116.toList == x14_9.toList))), (by first | rfl | (simp; done) | (simp [*]; done) | (simp; exact beq_not_bne _ _)), H', ⟨by have := HJ9.out; have := HJ14.out; first | omega | exact Nat.le_refl _⟩, ⟨by repeat (first | (with_reducible first | exact HB.out | apply below_alloc | apply pw_below_drewN | apply below_drew1) | exact HB.out)⟩⟩
                      · rw [if_neg c31] at H
                        have c31b0 : (t117 == 0) = false := beq_eq_false_iff_ne.mpr c31
                        have c31b1 : (t117 != 0) = true := bne_iff_ne.mpr c31
                        (first | rw [c31b0] | (simp only [i64_w, i32_w]; rw [c31b0]) | skip)
                        have H' := Aside0.mk H
                        clear H
                        go_wp2
                        go_meet
                        case rel => exact ⟨_, (true), (by first | rfl | (simp; done) | (simp [*]; done) | (simp; exact beq_not_bne _ _)), H', ⟨by have := HJ9.out; have := HJ14.out; first | omega | exact Nat.le_refl _⟩, ⟨by repeat (first | (with_reducible first | exact HB.out | apply below_alloc | apply pw_below_drewN | apply below_drew1) | exact HB.out)⟩⟩
                    case rest =>
                      clear HC28
                      try clear c1
                      try clear c2
                      try clear p2
                      try clear q2
                      try clear hx2
                      try clear c3
                      try clear c4
                      try clear c5
                      try clear p6
                      try clear c7
                      try clear c9
                      try clear c9b0
                      try clear c9b1
                      try clear c11
                      try clear c12
                      try clear c13
                      try clear c14
                      try clear c14b0
                      try clear c14b1
                      try clear c18
                      try clear c18b0
                      try clear c18b1
                      try clear c19
                      try clear c19b0
                      try clear c20
                      try clear c20b0
                      try clear c21
                      try clear c21b0
                      try clear c22
                      try clear c22b0
                      try clear p23
                      try clear q23
                      try clear hx23
                      try clear c24
                      try clear c27
                      try clear c27b0
                      try clear c27b1
                      try clear c31
                      try clear c31b0
                      try clear c31b1
                      try clear p2
                      try clear p23
                      try clear q2
                      try clear q23
                      obtain ⟨kq, x115_27, rfl, HA, HJ27, HB⟩ := hcut
                      cases kq with
                      | zero => exact absurd HA.out (by simp [drovewaylaw04_AmbushMoves.j2])
                      | succ kj27 =>
                        have H := HA.out
                        clear HA
                        simp only [drovewaylaw04_AmbushMoves.j2] at H
                        by_cases c32 : x115_27 = true
                        · subst c32
                          have H1 : (some false) = some r := by rw [if_pos rfl] at H; exact H
                          clear H
                          have H := H1
                          clear H1
                          obtain rfl := Option.some.inj H
                          go_wp2
                          go_ret
                          exact ⟨by first | rfl | (simp [errW_none, errW_some] <;> rfl) | (simp [*, errW_none, errW_some] <;> rfl), by repeat (first | (with_reducible first | exact HB.out | apply below_alloc | apply pw_below_drewN | apply below_drew1) | exact HB.out)⟩
                        · replace c32 := Bool.eq_false_iff.mpr c32
                          subst c32
                          have H1 : (if 0 ≤ (Int.tmod (wrap64 (a4)) a0) then (if (Int.tmod (wrap64 (a4)) a0) < (a2.size : Int) then (if (bt a2 (Int.tmod (wrap64 (a4)) a0)) = 46 then ((drovewaylaw04_placed.f a2 (Int.tmod (wrap64 (a4)) a0) x16_9).bind fun t118 => ((ambush_Winner.f a0 l1 t118 x15_9).bind fun bt119 => (if bt119.2 = 0 then (if bt119.1.toList = x14_9.toList then (if t110.toList = x14_9.toList then (if (Int.tmod (wrap64 (a4)) a0) ≥ t112 then ((drovewaylaw04_alive.f).bind fun t121 => (some t121)) else (some false)) else (some false)) else ((drovewaylaw04_alive.f).bind fun t122 => (some t122))) else (some false)))) else ((drovewaylaw04_alive.f).bind fun t123 => (some t123))) else (none)) else (none)) = some r := by rw [if_neg (show ¬ (false = true) by decide)] at H; exact H
                          clear H
                          have H := H1
                          clear H1
                          obtain ⟨ji33, hji33⟩ : ∃ j_ : Int, (Int.tmod (wrap64 (a4)) a0) = j_ := ⟨_, rfl⟩
                          replace H : (if 0 ≤ (ji33) then (if (ji33) < (a2.size : Int) then (if (bt a2 (ji33)) = 46 then ((drovewaylaw04_placed.f a2 (ji33) x16_9).bind fun t118 => ((ambush_Winner.f a0 l1 t118 x15_9).bind fun bt119 => (if bt119.2 = 0 then (if bt119.1.toList = x14_9.toList then (if t110.toList = x14_9.toList then (if (ji33) ≥ t112 then ((drovewaylaw04_alive.f).bind fun t121 => (some t121)) else (some false)) else (some false)) else ((drovewaylaw04_alive.f).bind fun t122 => (some t122))) else (some false)))) else ((drovewaylaw04_alive.f).bind fun t123 => (some t123))) else (none)) else (none)) = some r := by first | (rw [hji33] at H; exact H) | (simp only [hji33] at H ⊢; exact H)
                          by_cases c34 : 0 ≤ (ji33)
                          · rw [if_pos c34] at H
                            have c34b0 : decide (0 ≤ (ji33)) = true := decide_eq_true c34
                            clear c34
                            by_cases c35 : (ji33) < (a2.size : Int)
                            · rw [if_pos c35] at H
                              have c35b0 : decide ((ji33) < (a2.size : Int)) = true := decide_eq_true c35
                              clear c35
                              by_cases c37 : (bt a2 (ji33)) = 46
                              · rw [if_pos c37] at H
                                have c37b0 : ((bt a2 (ji33)) == 46) = true := beq_iff_eq.mpr c37
                                have c37b1 : ((bt a2 (ji33)) != 46) = false := bne_eq_false_iff_eq.mpr c37
                                clear c37
                                replace H := Option.bind_eq_some_iff.mp H
                                obtain ⟨t118, A380, H⟩ := H
                                replace H : ((ambush_Winner.f a0 l1 t118 x15_9).bind fun bt119 => (if bt119.2 = 0 then (if bt119.1.toList = x14_9.toList then (if t110.toList = x14_9.toList then (if (ji33) ≥ t112 then ((drovewaylaw04_alive.f).bind fun t121 => (some t121)) else (some false)) else (some false)) else ((drovewaylaw04_alive.f).bind fun t122 => (some t122))) else (some false))) = some r := H
                                have A38 := Aside0.mk A380
                                clear A380
                                replace H := Option.bind_eq_some_iff.mp H
                                obtain ⟨⟨t119, t120⟩, A390, H⟩ := H
                                replace H : (if t120 = 0 then (if t119.toList = x14_9.toList then (if t110.toList = x14_9.toList then (if (ji33) ≥ t112 then ((drovewaylaw04_alive.f).bind fun t121 => (some t121)) else (some false)) else (some false)) else ((drovewaylaw04_alive.f).bind fun t122 => (some t122))) else (some false)) = some r := H
                                have A39 := Aside0.mk A390
                                clear A390
                                by_cases c40 : t120 = 0
                                · rw [if_pos c40] at H
                                  have c40b0 : (t120 == 0) = true := beq_iff_eq.mpr c40
                                  have c40b1 : (t120 != 0) = false := bne_eq_false_iff_eq.mpr c40
                                  clear c40
                                  by_cases c41 : t119.toList = x14_9.toList
                                  · rw [if_pos c41] at H
                                    have c41b0 : (t119.toList == x14_9.toList) = true := beq_iff_eq.mpr c41
                                    have c41b1 : (t119.toList != x14_9.toList) = false := bne_eq_false_iff_eq.mpr c41
                                    clear c41
                                    by_cases c42 : t110.toList = x14_9.toList
                                    · rw [if_pos c42] at H
                                      have c42b0 : (t110.toList == x14_9.toList) = true := beq_iff_eq.mpr c42
                                      have c42b1 : (t110.toList != x14_9.toList) = false := bne_eq_false_iff_eq.mpr c42
                                      clear c42
                                      by_cases c43 : (ji33) ≥ t112
                                      · rw [if_pos c43] at H
                                        have c43b0 : decide (t112 ≤ (ji33)) = true := decide_eq_true c43
                                        clear c43
                                        replace H := Option.bind_eq_some_iff.mp H
                                        obtain ⟨t121, A440, H⟩ := H
                                        replace H : (some t121) = some r := H
                                        have A44 := Aside0.mk A440
                                        clear A440
                                        obtain rfl := Option.some.inj H
                                        have p36 : 0 ≤ ((ji33) : Int) := of_decide_eq_true (by first | (with_reducible assumption) | assumption)
                                        have q36 : (ji33) < (a2.size : Int) := of_decide_eq_true (by first | (with_reducible assumption) | assumption)
                                        have hx36 := bt_at a2 (ji33)
                                        replace p36 := eq_true p36
                                        replace q36 := eq_true q36
                                        go_wp2_with (first | ((with_reducible refine gate_callee (f := 13) rfl ?_); refine goesL_ (some 127) rfl rfl Tryd.func13 (by kernel_rfl) rfl #[.string a2, .int .i64 (ji33), .int .u8 x16_9] rfl (by (try simp only [List.map_toArray, List.map_cons, List.map_nil]); first | done | (simp only [hji33]; rfl) | rfl | (simp only [List.length_drop, List.length_take]; rfl)) ?_; (with_reducible refine (drovewaylaw04_placed.calls a2 (ji33) x16_9 t118 _ A38.out).mono ?_); rintro e w45 ⟨rfl, hb⟩; refine ⟨_, rfl, ?_⟩; have n0_ := Aside0.mk (below_step (by repeat (first | (with_reducible first | exact HB.out | apply below_alloc | apply pw_below_drewN | apply below_drew1) | exact HB.out)) hb); clear HB; have HB := n0_; clear n0_; (try clear hb); (try clear hb2); (try clear hk); (try clear hi)) | ((with_reducible refine gate_callee (f := 7) rfl ?_); refine goesL_ (some 129) rfl rfl Tryd.func7 (by kernel_rfl) rfl #[.int .i64 a0, .slice A1 l1.length c1, .string t118, .string x15_9] rfl (by (try simp only [List.map_toArray, List.map_cons, List.map_nil]); first | done | rfl | (simp only [List.length_drop, List.length_take]; rfl)) ?_; (with_reducible refine (ambush_Winner.calls a0 _ _ l1 t118 x15_9 t119 t120 _ ?side1 ?side2 A39.out).mono ?_); (case side1 => repeat (first | exact (Kd.C_below HR1.out HB.out) | (with_reducible refine Kd.C_alloc ?_ _) | (with_reducible refine Kd.C_drewN ?_ _) | (with_reducible refine Kd.C_drew ?_))); (case side2 => exact HC1.out); rintro e w46 ⟨rfl, hb⟩; refine ⟨_, rfl, ?_⟩; have n0_ := Aside0.mk (below_step (by repeat (first | (with_reducible first | exact HB.out | apply below_alloc | apply pw_below_drewN | apply below_drew1) | exact HB.out)) hb); clear HB; have HB := n0_; clear n0_; (try clear hb); (try clear hb2); (try clear hk); (try clear hi)) | (go_at_call 6; (with_reducible refine (drovewaylaw04_alive.calls  t121 _ A44.out).mono ?_); rintro e w47 ⟨rfl, hb⟩; have n0_ := Aside0.mk (below_step (by repeat (first | (with_reducible first | exact HB.out | apply below_alloc | apply pw_below_drewN | apply below_drew1) | exact HB.out)) hb); clear HB; have HB := n0_; clear n0_; (try clear hb); (try clear hb2); (try clear hk); (try clear hi)))
                                        go_ret
                                        exact ⟨by first | rfl | (simp [errW_none, errW_some] <;> rfl) | (simp only [← hji33]; first | rfl | (simp [errW_none, errW_some] <;> rfl)) | (simp [*, errW_none, errW_some] <;> rfl), by repeat (first | (with_reducible first | exact HB.out | apply below_alloc | apply pw_below_drewN | apply below_drew1) | exact HB.out)⟩
                                      · rw [if_neg c43] at H
                                        have c43b0 : decide (t112 ≤ (ji33)) = false := decide_eq_false c43
                                        clear c43
                                        obtain rfl := Option.some.inj H
                                        have p36 : 0 ≤ ((ji33) : Int) := of_decide_eq_true (by first | (with_reducible assumption) | assumption)
                                        have q36 : (ji33) < (a2.size : Int) := of_decide_eq_true (by first | (with_reducible assumption) | assumption)
                                        have hx36 := bt_at a2 (ji33)
                                        replace p36 := eq_true p36
                                        replace q36 := eq_true q36
                                        go_wp2_with (first | ((with_reducible refine gate_callee (f := 13) rfl ?_); refine goesL_ (some 127) rfl rfl Tryd.func13 (by kernel_rfl) rfl #[.string a2, .int .i64 (ji33), .int .u8 x16_9] rfl (by (try simp only [List.map_toArray, List.map_cons, List.map_nil]); first | done | (simp only [hji33]; rfl) | rfl | (simp only [List.length_drop, List.length_take]; rfl)) ?_; (with_reducible refine (drovewaylaw04_placed.calls a2 (ji33) x16_9 t118 _ A38.out).mono ?_); rintro e w48 ⟨rfl, hb⟩; refine ⟨_, rfl, ?_⟩; have n0_ := Aside0.mk (below_step (by repeat (first | (with_reducible first | exact HB.out | apply below_alloc | apply pw_below_drewN | apply below_drew1) | exact HB.out)) hb); clear HB; have HB := n0_; clear n0_; (try clear hb); (try clear hb2); (try clear hk); (try clear hi)) | ((with_reducible refine gate_callee (f := 7) rfl ?_); refine goesL_ (some 129) rfl rfl Tryd.func7 (by kernel_rfl) rfl #[.int .i64 a0, .slice A1 l1.length c1, .string t118, .string x15_9] rfl (by (try simp only [List.map_toArray, List.map_cons, List.map_nil]); first | done | rfl | (simp only [List.length_drop, List.length_take]; rfl)) ?_; (with_reducible refine (ambush_Winner.calls a0 _ _ l1 t118 x15_9 t119 t120 _ ?side1 ?side2 A39.out).mono ?_); (case side1 => repeat (first | exact (Kd.C_below HR1.out HB.out) | (with_reducible refine Kd.C_alloc ?_ _) | (with_reducible refine Kd.C_drewN ?_ _) | (with_reducible refine Kd.C_drew ?_))); (case side2 => exact HC1.out); rintro e w49 ⟨rfl, hb⟩; refine ⟨_, rfl, ?_⟩; have n0_ := Aside0.mk (below_step (by repeat (first | (with_reducible first | exact HB.out | apply below_alloc | apply pw_below_drewN | apply below_drew1) | exact HB.out)) hb); clear HB; have HB := n0_; clear n0_; (try clear hb); (try clear hb2); (try clear hk); (try clear hi)))
                                        go_ret
                                        exact ⟨by first | rfl | (simp [errW_none, errW_some] <;> rfl) | (simp only [← hji33]; first | rfl | (simp [errW_none, errW_some] <;> rfl)) | (simp [*, errW_none, errW_some] <;> rfl), by repeat (first | (with_reducible first | exact HB.out | apply below_alloc | apply pw_below_drewN | apply below_drew1) | exact HB.out)⟩
                                    · rw [if_neg c42] at H
                                      have c42b0 : (t110.toList == x14_9.toList) = false := beq_eq_false_iff_ne.mpr c42
                                      have c42b1 : (t110.toList != x14_9.toList) = true := bne_iff_ne.mpr c42
                                      obtain rfl := Option.some.inj H
                                      have p36 : 0 ≤ ((ji33) : Int) := of_decide_eq_true (by first | (with_reducible assumption) | assumption)
                                      have q36 : (ji33) < (a2.size : Int) := of_decide_eq_true (by first | (with_reducible assumption) | assumption)
                                      have hx36 := bt_at a2 (ji33)
                                      replace p36 := eq_true p36
                                      replace q36 := eq_true q36
                                      go_wp2_with (first | ((with_reducible refine gate_callee (f := 13) rfl ?_); refine goesL_ (some 127) rfl rfl Tryd.func13 (by kernel_rfl) rfl #[.string a2, .int .i64 (ji33), .int .u8 x16_9] rfl (by (try simp only [List.map_toArray, List.map_cons, List.map_nil]); first | done | (simp only [hji33]; rfl) | rfl | (simp only [List.length_drop, List.length_take]; rfl)) ?_; (with_reducible refine (drovewaylaw04_placed.calls a2 (ji33) x16_9 t118 _ A38.out).mono ?_); rintro e w50 ⟨rfl, hb⟩; refine ⟨_, rfl, ?_⟩; have n0_ := Aside0.mk (below_step (by repeat (first | (with_reducible first | exact HB.out | apply below_alloc | apply pw_below_drewN | apply below_drew1) | exact HB.out)) hb); clear HB; have HB := n0_; clear n0_; (try clear hb); (try clear hb2); (try clear hk); (try clear hi)) | ((with_reducible refine gate_callee (f := 7) rfl ?_); refine goesL_ (some 129) rfl rfl Tryd.func7 (by kernel_rfl) rfl #[.int .i64 a0, .slice A1 l1.length c1, .string t118, .string x15_9] rfl (by (try simp only [List.map_toArray, List.map_cons, List.map_nil]); first | done | rfl | (simp only [List.length_drop, List.length_take]; rfl)) ?_; (with_reducible refine (ambush_Winner.calls a0 _ _ l1 t118 x15_9 t119 t120 _ ?side1 ?side2 A39.out).mono ?_); (case side1 => repeat (first | exact (Kd.C_below HR1.out HB.out) | (with_reducible refine Kd.C_alloc ?_ _) | (with_reducible refine Kd.C_drewN ?_ _) | (with_reducible refine Kd.C_drew ?_))); (case side2 => exact HC1.out); rintro e w51 ⟨rfl, hb⟩; refine ⟨_, rfl, ?_⟩; have n0_ := Aside0.mk (below_step (by repeat (first | (with_reducible first | exact HB.out | apply below_alloc | apply pw_below_drewN | apply below_drew1) | exact HB.out)) hb); clear HB; have HB := n0_; clear n0_; (try clear hb); (try clear hb2); (try clear hk); (try clear hi)))
                                      go_ret
                                      exact ⟨by first | rfl | (simp [errW_none, errW_some] <;> rfl) | (simp only [← hji33]; first | rfl | (simp [errW_none, errW_some] <;> rfl)) | (simp [*, errW_none, errW_some] <;> rfl), by repeat (first | (with_reducible first | exact HB.out | apply below_alloc | apply pw_below_drewN | apply below_drew1) | exact HB.out)⟩
                                  · rw [if_neg c41] at H
                                    have c41b0 : (t119.toList == x14_9.toList) = false := beq_eq_false_iff_ne.mpr c41
                                    have c41b1 : (t119.toList != x14_9.toList) = true := bne_iff_ne.mpr c41
                                    replace H := Option.bind_eq_some_iff.mp H
                                    obtain ⟨t122, A520, H⟩ := H
                                    replace H : (some t122) = some r := H
                                    have A52 := Aside0.mk A520
                                    clear A520
                                    obtain rfl := Option.some.inj H
                                    have p36 : 0 ≤ ((ji33) : Int) := of_decide_eq_true (by first | (with_reducible assumption) | assumption)
                                    have q36 : (ji33) < (a2.size : Int) := of_decide_eq_true (by first | (with_reducible assumption) | assumption)
                                    have hx36 := bt_at a2 (ji33)
                                    replace p36 := eq_true p36
                                    replace q36 := eq_true q36
                                    go_wp2_with (first | ((with_reducible refine gate_callee (f := 13) rfl ?_); refine goesL_ (some 127) rfl rfl Tryd.func13 (by kernel_rfl) rfl #[.string a2, .int .i64 (ji33), .int .u8 x16_9] rfl (by (try simp only [List.map_toArray, List.map_cons, List.map_nil]); first | done | (simp only [hji33]; rfl) | rfl | (simp only [List.length_drop, List.length_take]; rfl)) ?_; (with_reducible refine (drovewaylaw04_placed.calls a2 (ji33) x16_9 t118 _ A38.out).mono ?_); rintro e w53 ⟨rfl, hb⟩; refine ⟨_, rfl, ?_⟩; have n0_ := Aside0.mk (below_step (by repeat (first | (with_reducible first | exact HB.out | apply below_alloc | apply pw_below_drewN | apply below_drew1) | exact HB.out)) hb); clear HB; have HB := n0_; clear n0_; (try clear hb); (try clear hb2); (try clear hk); (try clear hi)) | ((with_reducible refine gate_callee (f := 7) rfl ?_); refine goesL_ (some 129) rfl rfl Tryd.func7 (by kernel_rfl) rfl #[.int .i64 a0, .slice A1 l1.length c1, .string t118, .string x15_9] rfl (by (try simp only [List.map_toArray, List.map_cons, List.map_nil]); first | done | rfl | (simp only [List.length_drop, List.length_take]; rfl)) ?_; (with_reducible refine (ambush_Winner.calls a0 _ _ l1 t118 x15_9 t119 t120 _ ?side1 ?side2 A39.out).mono ?_); (case side1 => repeat (first | exact (Kd.C_below HR1.out HB.out) | (with_reducible refine Kd.C_alloc ?_ _) | (with_reducible refine Kd.C_drewN ?_ _) | (with_reducible refine Kd.C_drew ?_))); (case side2 => exact HC1.out); rintro e w54 ⟨rfl, hb⟩; refine ⟨_, rfl, ?_⟩; have n0_ := Aside0.mk (below_step (by repeat (first | (with_reducible first | exact HB.out | apply below_alloc | apply pw_below_drewN | apply below_drew1) | exact HB.out)) hb); clear HB; have HB := n0_; clear n0_; (try clear hb); (try clear hb2); (try clear hk); (try clear hi)) | (go_at_call 6; (with_reducible refine (drovewaylaw04_alive.calls  t122 _ A52.out).mono ?_); rintro e w55 ⟨rfl, hb⟩; have n0_ := Aside0.mk (below_step (by repeat (first | (with_reducible first | exact HB.out | apply below_alloc | apply pw_below_drewN | apply below_drew1) | exact HB.out)) hb); clear HB; have HB := n0_; clear n0_; (try clear hb); (try clear hb2); (try clear hk); (try clear hi)))
                                    go_ret
                                    exact ⟨by first | rfl | (simp [errW_none, errW_some] <;> rfl) | (simp only [← hji33]; first | rfl | (simp [errW_none, errW_some] <;> rfl)) | (simp [*, errW_none, errW_some] <;> rfl), by repeat (first | (with_reducible first | exact HB.out | apply below_alloc | apply pw_below_drewN | apply below_drew1) | exact HB.out)⟩
                                · rw [if_neg c40] at H
                                  have c40b0 : (t120 == 0) = false := beq_eq_false_iff_ne.mpr c40
                                  have c40b1 : (t120 != 0) = true := bne_iff_ne.mpr c40
                                  obtain rfl := Option.some.inj H
                                  have p36 : 0 ≤ ((ji33) : Int) := of_decide_eq_true (by first | (with_reducible assumption) | assumption)
                                  have q36 : (ji33) < (a2.size : Int) := of_decide_eq_true (by first | (with_reducible assumption) | assumption)
                                  have hx36 := bt_at a2 (ji33)
                                  replace p36 := eq_true p36
                                  replace q36 := eq_true q36
                                  go_wp2_with (first | ((with_reducible refine gate_callee (f := 13) rfl ?_); refine goesL_ (some 127) rfl rfl Tryd.func13 (by kernel_rfl) rfl #[.string a2, .int .i64 (ji33), .int .u8 x16_9] rfl (by (try simp only [List.map_toArray, List.map_cons, List.map_nil]); first | done | (simp only [hji33]; rfl) | rfl | (simp only [List.length_drop, List.length_take]; rfl)) ?_; (with_reducible refine (drovewaylaw04_placed.calls a2 (ji33) x16_9 t118 _ A38.out).mono ?_); rintro e w56 ⟨rfl, hb⟩; refine ⟨_, rfl, ?_⟩; have n0_ := Aside0.mk (below_step (by repeat (first | (with_reducible first | exact HB.out | apply below_alloc | apply pw_below_drewN | apply below_drew1) | exact HB.out)) hb); clear HB; have HB := n0_; clear n0_; (try clear hb); (try clear hb2); (try clear hk); (try clear hi)) | ((with_reducible refine gate_callee (f := 7) rfl ?_); refine goesL_ (some 129) rfl rfl Tryd.func7 (by kernel_rfl) rfl #[.int .i64 a0, .slice A1 l1.length c1, .string t118, .string x15_9] rfl (by (try simp only [List.map_toArray, List.map_cons, List.map_nil]); first | done | rfl | (simp only [List.length_drop, List.length_take]; rfl)) ?_; (with_reducible refine (ambush_Winner.calls a0 _ _ l1 t118 x15_9 t119 t120 _ ?side1 ?side2 A39.out).mono ?_); (case side1 => repeat (first | exact (Kd.C_below HR1.out HB.out) | (with_reducible refine Kd.C_alloc ?_ _) | (with_reducible refine Kd.C_drewN ?_ _) | (with_reducible refine Kd.C_drew ?_))); (case side2 => exact HC1.out); rintro e w57 ⟨rfl, hb⟩; refine ⟨_, rfl, ?_⟩; have n0_ := Aside0.mk (below_step (by repeat (first | (with_reducible first | exact HB.out | apply below_alloc | apply pw_below_drewN | apply below_drew1) | exact HB.out)) hb); clear HB; have HB := n0_; clear n0_; (try clear hb); (try clear hb2); (try clear hk); (try clear hi)))
                                  go_ret
                                  exact ⟨by first | rfl | (simp [errW_none, errW_some] <;> rfl) | (simp only [← hji33]; first | rfl | (simp [errW_none, errW_some] <;> rfl)) | (simp [*, errW_none, errW_some] <;> rfl), by repeat (first | (with_reducible first | exact HB.out | apply below_alloc | apply pw_below_drewN | apply below_drew1) | exact HB.out)⟩
                              · rw [if_neg c37] at H
                                have c37b0 : ((bt a2 (ji33)) == 46) = false := beq_eq_false_iff_ne.mpr c37
                                have c37b1 : ((bt a2 (ji33)) != 46) = true := bne_iff_ne.mpr c37
                                replace H := Option.bind_eq_some_iff.mp H
                                obtain ⟨t123, A580, H⟩ := H
                                replace H : (some t123) = some r := H
                                have A58 := Aside0.mk A580
                                clear A580
                                obtain rfl := Option.some.inj H
                                have p36 : 0 ≤ ((ji33) : Int) := of_decide_eq_true (by first | (with_reducible assumption) | assumption)
                                have q36 : (ji33) < (a2.size : Int) := of_decide_eq_true (by first | (with_reducible assumption) | assumption)
                                have hx36 := bt_at a2 (ji33)
                                replace p36 := eq_true p36
                                replace q36 := eq_true q36
                                go_wp2_with (first | ((with_reducible refine gate_callee (f := 6) rfl ?_); refine goesL_ (some 120) rfl rfl Tryd.func6 (by kernel_rfl) rfl #[] rfl (by (try simp only [List.map_toArray, List.map_cons, List.map_nil]); first | done | rfl | (simp only [List.length_drop, List.length_take]; rfl)) ?_; (with_reducible refine (drovewaylaw04_alive.calls  t123 _ A58.out).mono ?_); rintro e w59 ⟨rfl, hb⟩; refine ⟨_, rfl, ?_⟩; have n0_ := Aside0.mk (below_step (by repeat (first | (with_reducible first | exact HB.out | apply below_alloc | apply pw_below_drewN | apply below_drew1) | exact HB.out)) hb); clear HB; have HB := n0_; clear n0_; (try clear hb); (try clear hb2); (try clear hk); (try clear hi)))
                                go_ret
                                exact ⟨by first | rfl | (simp [errW_none, errW_some] <;> rfl) | (simp only [← hji33]; first | rfl | (simp [errW_none, errW_some] <;> rfl)) | (simp [*, errW_none, errW_some] <;> rfl), by repeat (first | (with_reducible first | exact HB.out | apply below_alloc | apply pw_below_drewN | apply below_drew1) | exact HB.out)⟩
                            · rw [if_neg c35] at H
                              exact absurd H (by simp)
                          · rw [if_neg c34] at H
                            exact absurd H (by simp)
          · rw [if_neg c14] at H
            have c14b0 : (t113 == 0) = false := beq_eq_false_iff_ne.mpr c14
            have c14b1 : (t113 != 0) = true := bne_iff_ne.mpr c14
            by_cases c60 : t111 = 0
            · rw [if_pos c60] at H
              have c60b0 : (t111 == 0) = true := beq_iff_eq.mpr c60
              have c60b1 : (t111 != 0) = false := bne_eq_false_iff_eq.mpr c60
              clear c60
              by_cases c61 : t113 = 9
              · rw [if_pos c61] at H
                have c61b0 : (t113 == 9) = true := beq_iff_eq.mpr c61
                have c61b1 : (t113 != 9) = false := bne_eq_false_iff_eq.mpr c61
                clear c61
                by_cases c62 : t112 = 0
                · rw [if_pos c62] at H
                  have c62b0 : (t112 == 0) = true := beq_iff_eq.mpr c62
                  have c62b1 : (t112 != 0) = false := bne_eq_false_iff_eq.mpr c62
                  clear c62
                  replace H := Option.bind_eq_some_iff.mp H
                  obtain ⟨t114, A630, H⟩ := H
                  replace H : (some t114) = some r := H
                  have A63 := Aside0.mk A630
                  clear A630
                  obtain rfl := Option.some.inj H
                  go_wp2_with (first | ((with_reducible refine gate_callee (f := 7) rfl ?_); refine goesL_ (some 47) rfl rfl Tryd.func7 (by kernel_rfl) rfl #[.int .i64 a0, .slice A1 l1.length c1, .string a2, .string x14_9] rfl (by (try simp only [List.map_toArray, List.map_cons, List.map_nil]); first | done | rfl | (simp only [List.length_drop, List.length_take]; rfl)) ?_; (with_reducible refine (ambush_Winner.calls a0 _ _ l1 a2 x14_9 t110 t111 _ ?side1 ?side2 A12.out).mono ?_); (case side1 => repeat (first | exact (Kd.C_below HR1.out HB.out) | (with_reducible refine Kd.C_alloc ?_ _) | (with_reducible refine Kd.C_drewN ?_ _) | (with_reducible refine Kd.C_drew ?_))); (case side2 => exact HC1.out); rintro e w64 ⟨rfl, hb⟩; refine ⟨_, rfl, ?_⟩; have n0_ := Aside0.mk (below_step (by repeat (first | (with_reducible first | exact HB.out | apply below_alloc | apply pw_below_drewN | apply below_drew1) | exact HB.out)) hb); clear HB; have HB := n0_; clear n0_; (try clear hb); (try clear hb2); (try clear hk); (try clear hi)) | ((with_reducible refine gate_callee (f := 9) rfl ?_); refine goesL_ (some 55) rfl rfl Tryd.func9 (by kernel_rfl) rfl #[.int .i64 a0, .slice A1 l1.length c1, .string a2, .string x14_9] rfl (by (try simp only [List.map_toArray, List.map_cons, List.map_nil]); first | done | rfl | (simp only [List.length_drop, List.length_take]; rfl)) ?_; (with_reducible refine (ambush_Move.calls a0 _ _ l1 a2 x14_9 t112 t113 _ ?sideT ?side1 ?side2 A13.out).mono ?_); (case sideT => exact TabAt.next HT.out (by repeat (first | (with_reducible first | exact HB.out | apply below_alloc | apply pw_below_drewN | apply below_drew1) | exact HB.out))); (case side1 => repeat (first | exact (Kd.C_below HR1.out HB.out) | (with_reducible refine Kd.C_alloc ?_ _) | (with_reducible refine Kd.C_drewN ?_ _) | (with_reducible refine Kd.C_drew ?_))); (case side2 => exact HC1.out); rintro e w65 ⟨rfl, hb⟩; refine ⟨_, rfl, ?_⟩; have n0_ := Aside0.mk (below_step (by repeat (first | (with_reducible first | exact HB.out | apply below_alloc | apply pw_below_drewN | apply below_drew1) | exact HB.out)) hb); clear HB; have HB := n0_; clear n0_; (try clear hb); (try clear hb2); (try clear hk); (try clear hi)) | (go_at_call 6; (with_reducible refine (drovewaylaw04_alive.calls  t114 _ A63.out).mono ?_); rintro e w66 ⟨rfl, hb⟩; have n0_ := Aside0.mk (below_step (by repeat (first | (with_reducible first | exact HB.out | apply below_alloc | apply pw_below_drewN | apply below_drew1) | exact HB.out)) hb); clear HB; have HB := n0_; clear n0_; (try clear hb); (try clear hb2); (try clear hk); (try clear hi)))
                  go_ret
                  exact ⟨by first | rfl | (simp [errW_none, errW_some] <;> rfl) | (simp [*, errW_none, errW_some] <;> rfl), by repeat (first | (with_reducible first | exact HB.out | apply below_alloc | apply pw_below_drewN | apply below_drew1) | exact HB.out)⟩
                · rw [if_neg c62] at H
                  have c62b0 : (t112 == 0) = false := beq_eq_false_iff_ne.mpr c62
                  have c62b1 : (t112 != 0) = true := bne_iff_ne.mpr c62
                  obtain rfl := Option.some.inj H
                  go_wp2_with (first | ((with_reducible refine gate_callee (f := 7) rfl ?_); refine goesL_ (some 47) rfl rfl Tryd.func7 (by kernel_rfl) rfl #[.int .i64 a0, .slice A1 l1.length c1, .string a2, .string x14_9] rfl (by (try simp only [List.map_toArray, List.map_cons, List.map_nil]); first | done | rfl | (simp only [List.length_drop, List.length_take]; rfl)) ?_; (with_reducible refine (ambush_Winner.calls a0 _ _ l1 a2 x14_9 t110 t111 _ ?side1 ?side2 A12.out).mono ?_); (case side1 => repeat (first | exact (Kd.C_below HR1.out HB.out) | (with_reducible refine Kd.C_alloc ?_ _) | (with_reducible refine Kd.C_drewN ?_ _) | (with_reducible refine Kd.C_drew ?_))); (case side2 => exact HC1.out); rintro e w67 ⟨rfl, hb⟩; refine ⟨_, rfl, ?_⟩; have n0_ := Aside0.mk (below_step (by repeat (first | (with_reducible first | exact HB.out | apply below_alloc | apply pw_below_drewN | apply below_drew1) | exact HB.out)) hb); clear HB; have HB := n0_; clear n0_; (try clear hb); (try clear hb2); (try clear hk); (try clear hi)) | ((with_reducible refine gate_callee (f := 9) rfl ?_); refine goesL_ (some 55) rfl rfl Tryd.func9 (by kernel_rfl) rfl #[.int .i64 a0, .slice A1 l1.length c1, .string a2, .string x14_9] rfl (by (try simp only [List.map_toArray, List.map_cons, List.map_nil]); first | done | rfl | (simp only [List.length_drop, List.length_take]; rfl)) ?_; (with_reducible refine (ambush_Move.calls a0 _ _ l1 a2 x14_9 t112 t113 _ ?sideT ?side1 ?side2 A13.out).mono ?_); (case sideT => exact TabAt.next HT.out (by repeat (first | (with_reducible first | exact HB.out | apply below_alloc | apply pw_below_drewN | apply below_drew1) | exact HB.out))); (case side1 => repeat (first | exact (Kd.C_below HR1.out HB.out) | (with_reducible refine Kd.C_alloc ?_ _) | (with_reducible refine Kd.C_drewN ?_ _) | (with_reducible refine Kd.C_drew ?_))); (case side2 => exact HC1.out); rintro e w68 ⟨rfl, hb⟩; refine ⟨_, rfl, ?_⟩; have n0_ := Aside0.mk (below_step (by repeat (first | (with_reducible first | exact HB.out | apply below_alloc | apply pw_below_drewN | apply below_drew1) | exact HB.out)) hb); clear HB; have HB := n0_; clear n0_; (try clear hb); (try clear hb2); (try clear hk); (try clear hi)))
                  go_ret
                  exact ⟨by first | rfl | (simp [errW_none, errW_some] <;> rfl) | (simp [*, errW_none, errW_some] <;> rfl), by repeat (first | (with_reducible first | exact HB.out | apply below_alloc | apply pw_below_drewN | apply below_drew1) | exact HB.out)⟩
              · rw [if_neg c61] at H
                have c61b0 : (t113 == 9) = false := beq_eq_false_iff_ne.mpr c61
                have c61b1 : (t113 != 9) = true := bne_iff_ne.mpr c61
                obtain rfl := Option.some.inj H
                go_wp2_with (first | ((with_reducible refine gate_callee (f := 7) rfl ?_); refine goesL_ (some 47) rfl rfl Tryd.func7 (by kernel_rfl) rfl #[.int .i64 a0, .slice A1 l1.length c1, .string a2, .string x14_9] rfl (by (try simp only [List.map_toArray, List.map_cons, List.map_nil]); first | done | rfl | (simp only [List.length_drop, List.length_take]; rfl)) ?_; (with_reducible refine (ambush_Winner.calls a0 _ _ l1 a2 x14_9 t110 t111 _ ?side1 ?side2 A12.out).mono ?_); (case side1 => repeat (first | exact (Kd.C_below HR1.out HB.out) | (with_reducible refine Kd.C_alloc ?_ _) | (with_reducible refine Kd.C_drewN ?_ _) | (with_reducible refine Kd.C_drew ?_))); (case side2 => exact HC1.out); rintro e w69 ⟨rfl, hb⟩; refine ⟨_, rfl, ?_⟩; have n0_ := Aside0.mk (below_step (by repeat (first | (with_reducible first | exact HB.out | apply below_alloc | apply pw_below_drewN | apply below_drew1) | exact HB.out)) hb); clear HB; have HB := n0_; clear n0_; (try clear hb); (try clear hb2); (try clear hk); (try clear hi)) | ((with_reducible refine gate_callee (f := 9) rfl ?_); refine goesL_ (some 55) rfl rfl Tryd.func9 (by kernel_rfl) rfl #[.int .i64 a0, .slice A1 l1.length c1, .string a2, .string x14_9] rfl (by (try simp only [List.map_toArray, List.map_cons, List.map_nil]); first | done | rfl | (simp only [List.length_drop, List.length_take]; rfl)) ?_; (with_reducible refine (ambush_Move.calls a0 _ _ l1 a2 x14_9 t112 t113 _ ?sideT ?side1 ?side2 A13.out).mono ?_); (case sideT => exact TabAt.next HT.out (by repeat (first | (with_reducible first | exact HB.out | apply below_alloc | apply pw_below_drewN | apply below_drew1) | exact HB.out))); (case side1 => repeat (first | exact (Kd.C_below HR1.out HB.out) | (with_reducible refine Kd.C_alloc ?_ _) | (with_reducible refine Kd.C_drewN ?_ _) | (with_reducible refine Kd.C_drew ?_))); (case side2 => exact HC1.out); rintro e w70 ⟨rfl, hb⟩; refine ⟨_, rfl, ?_⟩; have n0_ := Aside0.mk (below_step (by repeat (first | (with_reducible first | exact HB.out | apply below_alloc | apply pw_below_drewN | apply below_drew1) | exact HB.out)) hb); clear HB; have HB := n0_; clear n0_; (try clear hb); (try clear hb2); (try clear hk); (try clear hi)))
                go_ret
                exact ⟨by first | rfl | (simp [errW_none, errW_some] <;> rfl) | (simp [*, errW_none, errW_some] <;> rfl), by repeat (first | (with_reducible first | exact HB.out | apply below_alloc | apply pw_below_drewN | apply below_drew1) | exact HB.out)⟩
            · rw [if_neg c60] at H
              have c60b0 : (t111 == 0) = false := beq_eq_false_iff_ne.mpr c60
              have c60b1 : (t111 != 0) = true := bne_iff_ne.mpr c60
              obtain rfl := Option.some.inj H
              go_wp2_with (first | ((with_reducible refine gate_callee (f := 7) rfl ?_); refine goesL_ (some 47) rfl rfl Tryd.func7 (by kernel_rfl) rfl #[.int .i64 a0, .slice A1 l1.length c1, .string a2, .string x14_9] rfl (by (try simp only [List.map_toArray, List.map_cons, List.map_nil]); first | done | rfl | (simp only [List.length_drop, List.length_take]; rfl)) ?_; (with_reducible refine (ambush_Winner.calls a0 _ _ l1 a2 x14_9 t110 t111 _ ?side1 ?side2 A12.out).mono ?_); (case side1 => repeat (first | exact (Kd.C_below HR1.out HB.out) | (with_reducible refine Kd.C_alloc ?_ _) | (with_reducible refine Kd.C_drewN ?_ _) | (with_reducible refine Kd.C_drew ?_))); (case side2 => exact HC1.out); rintro e w71 ⟨rfl, hb⟩; refine ⟨_, rfl, ?_⟩; have n0_ := Aside0.mk (below_step (by repeat (first | (with_reducible first | exact HB.out | apply below_alloc | apply pw_below_drewN | apply below_drew1) | exact HB.out)) hb); clear HB; have HB := n0_; clear n0_; (try clear hb); (try clear hb2); (try clear hk); (try clear hi)) | ((with_reducible refine gate_callee (f := 9) rfl ?_); refine goesL_ (some 55) rfl rfl Tryd.func9 (by kernel_rfl) rfl #[.int .i64 a0, .slice A1 l1.length c1, .string a2, .string x14_9] rfl (by (try simp only [List.map_toArray, List.map_cons, List.map_nil]); first | done | rfl | (simp only [List.length_drop, List.length_take]; rfl)) ?_; (with_reducible refine (ambush_Move.calls a0 _ _ l1 a2 x14_9 t112 t113 _ ?sideT ?side1 ?side2 A13.out).mono ?_); (case sideT => exact TabAt.next HT.out (by repeat (first | (with_reducible first | exact HB.out | apply below_alloc | apply pw_below_drewN | apply below_drew1) | exact HB.out))); (case side1 => repeat (first | exact (Kd.C_below HR1.out HB.out) | (with_reducible refine Kd.C_alloc ?_ _) | (with_reducible refine Kd.C_drewN ?_ _) | (with_reducible refine Kd.C_drew ?_))); (case side2 => exact HC1.out); rintro e w72 ⟨rfl, hb⟩; refine ⟨_, rfl, ?_⟩; have n0_ := Aside0.mk (below_step (by repeat (first | (with_reducible first | exact HB.out | apply below_alloc | apply pw_below_drewN | apply below_drew1) | exact HB.out)) hb); clear HB; have HB := n0_; clear n0_; (try clear hb); (try clear hb2); (try clear hk); (try clear hi)))
              go_ret
              exact ⟨by first | rfl | (simp [errW_none, errW_some] <;> rfl) | (simp [*, errW_none, errW_some] <;> rfl), by repeat (first | (with_reducible first | exact HB.out | apply below_alloc | apply pw_below_drewN | apply below_drew1) | exact HB.out)⟩
    · rw [if_neg c9] at H
      have c9b0 : (t108 == 0) = false := beq_eq_false_iff_ne.mpr c9
      have c9b1 : (t108 != 0) = true := bne_iff_ne.mpr c9
      replace H := Option.bind_eq_some_iff.mp H
      obtain ⟨t109, A730, H⟩ := H
      replace H : (some t109) = some r := H
      have A73 := Aside0.mk A730
      clear A730
      obtain rfl := Option.some.inj H
      go_enter Tryd.func4, Tryd.ntmps4
      go_wp2_with (first | ((with_reducible refine gate_callee (f := 5) rfl ?_); refine goesL_ (some 27) rfl rfl Tryd.func5 (by kernel_rfl) rfl #[.slice A1 l1.length c1, .string a2, .string (⟨#[]⟩ : ByteArray)] rfl (by (try simp only [List.map_toArray, List.map_cons, List.map_nil]); first | done | rfl | (simp only [List.length_drop, List.length_take]; rfl)) ?_; (with_reducible refine (drovewaylaw04_few.calls _ _ l1 a2 (⟨#[]⟩ : ByteArray) true _ ?side1 ?side2 A6.out).mono ?_); (case side1 => repeat (first | exact HR1.out | (with_reducible refine Kd.C_alloc ?_ _) | (with_reducible refine Kd.C_drewN ?_ _) | (with_reducible refine Kd.C_drew ?_))); (case side2 => exact HC1.out); rintro e w' ⟨rfl, ⟨nd, rfl⟩⟩; refine ⟨_, rfl, ?_⟩) | ((with_reducible refine gate_callee (f := 12) rfl ?_); refine goesL_ (some 34) rfl rfl Tryd.func12 (by kernel_rfl) rfl #[.int .i64 a0, .slice A1 l1.length c1, .string a2] rfl (by (try simp only [List.map_toArray, List.map_cons, List.map_nil]); first | done | rfl | (simp only [List.length_drop, List.length_take]; rfl)) ?_; (with_reducible refine (drovewayref04_Placed.calls k a0 _ _ l1 a2 t106 t107 t108 _ ?side1 ?side2 A8.out).mono ?_); (case side1 => repeat (first | exact HR1.out | (with_reducible refine Kd.C_alloc ?_ _) | (with_reducible refine Kd.C_drewN ?_ _) | (with_reducible refine Kd.C_drew ?_))); (case side2 => exact HC1.out); rintro e w' ⟨rfl, ⟨nd, rfl⟩⟩; refine ⟨_, rfl, ?_⟩) | ((with_reducible refine gate_callee (f := 6) rfl ?_); refine goesL_ (some 40) rfl rfl Tryd.func6 (by kernel_rfl) rfl #[] rfl (by (try simp only [List.map_toArray, List.map_cons, List.map_nil]); first | done | rfl | (simp only [List.length_drop, List.length_take]; rfl)) ?_; (with_reducible refine (drovewaylaw04_alive.calls  t109 _ A73.out).mono ?_); rintro e w74 ⟨rfl, hb⟩; refine ⟨_, rfl, ?_⟩; have n0_ := Aside0.mk (below_step (by repeat (first | (with_reducible first | exact HB.out | apply below_alloc | apply pw_below_drewN | apply below_drew1) | exact HB.out)) hb); clear HB; have HB := n0_; clear n0_; (try clear hb); (try clear hb2); (try clear hk); (try clear hi)))
      go_ret
      exact ⟨by first | rfl | (simp [errW_none, errW_some] <;> rfl) | (simp [*, errW_none, errW_some] <;> rfl), by repeat (first | (with_reducible first | exact HB.out | apply below_alloc | apply pw_below_drewN | apply below_drew1) | exact HB.out)⟩
  · replace c7 := Bool.eq_false_iff.mpr c7
    subst c7
    have H1 : ((drovewaylaw04_alive.f).bind fun t105 => (some t105)) = some r := by rw [if_neg (show ¬ (false = true) by decide)] at H; exact H
    clear H
    have H := H1
    clear H1
    replace H := Option.bind_eq_some_iff.mp H
    obtain ⟨t105, A750, H⟩ := H
    replace H : (some t105) = some r := H
    have A75 := Aside0.mk A750
    clear A750
    obtain rfl := Option.some.inj H
    go_enter Tryd.func4, Tryd.ntmps4
    go_wp2_with (first | ((with_reducible refine gate_callee (f := 5) rfl ?_); refine goesL_ (some 27) rfl rfl Tryd.func5 (by kernel_rfl) rfl #[.slice A1 l1.length c1, .string a2, .string (⟨#[]⟩ : ByteArray)] rfl (by (try simp only [List.map_toArray, List.map_cons, List.map_nil]); first | done | rfl | (simp only [List.length_drop, List.length_take]; rfl)) ?_; (with_reducible refine (drovewaylaw04_few.calls _ _ l1 a2 (⟨#[]⟩ : ByteArray) false _ ?side1 ?side2 A6.out).mono ?_); (case side1 => repeat (first | exact HR1.out | (with_reducible refine Kd.C_alloc ?_ _) | (with_reducible refine Kd.C_drewN ?_ _) | (with_reducible refine Kd.C_drew ?_))); (case side2 => exact HC1.out); rintro e w' ⟨rfl, ⟨nd, rfl⟩⟩; refine ⟨_, rfl, ?_⟩) | ((with_reducible refine gate_callee (f := 6) rfl ?_); refine goesL_ (some 29) rfl rfl Tryd.func6 (by kernel_rfl) rfl #[] rfl (by (try simp only [List.map_toArray, List.map_cons, List.map_nil]); first | done | rfl | (simp only [List.length_drop, List.length_take]; rfl)) ?_; (with_reducible refine (drovewaylaw04_alive.calls  t105 _ A75.out).mono ?_); rintro e w76 ⟨rfl, hb⟩; refine ⟨_, rfl, ?_⟩; have n0_ := Aside0.mk (below_step (by repeat (first | (with_reducible first | exact HB.out | apply below_alloc | apply pw_below_drewN | apply below_drew1) | exact HB.out)) hb); clear HB; have HB := n0_; clear n0_; (try clear hb); (try clear hb2); (try clear hk); (try clear hi)))
    go_ret
    exact ⟨by first | rfl | (simp [errW_none, errW_some] <;> rfl) | (simp [*, errW_none, errW_some] <;> rfl), by repeat (first | (with_reducible first | exact HB.out | apply below_alloc | apply pw_below_drewN | apply below_drew1) | exact HB.out)⟩

/-- THE ONE PURE STATEMENT of drovewaylaw04_AmbushMoves: yours. -/
def drovewaylaw04_AmbushMoves.Pure : Prop := ∀ (a0 : Int) (l1 : List Int) (a2 : ByteArray) (a3 : Bool) (a4 : Int), (Lit.int .i64 a0).wf = true → l1.length ≤ maxLen → l1.length * 8 ≤ 140737488351232 → (∀ x ∈ l1, (Lit.int .i64 x).wf = true) → a2.size ≤ 140737488351232 → (Lit.int .u8 a4).wf = true → ∃ k, drovewaylaw04_AmbushMoves.f k a0 l1 a2 a3 a4 = some true
theorem drovewaylaw04_AmbushMoves.walk (P : drovewaylaw04_AmbushMoves.Pure) (a0 : Int) (a1 : Option Addr) (len1 cap1 : Nat) (z1 : List Int) (a2 : ByteArray) (a3 : Bool) (a4 : Int) (w : World) (hT : TabAt w) (w0 : (Lit.int .i64 a0).wf = true) (w1 : (a1 = none ∧ len1 = 0 ∧ cap1 = 0 ∧ z1 = []) ∨ ∃ x, a1 = some x ∧ len1 ≤ cap1 ∧ cap1 ≤ maxLen ∧ z1.length = cap1 ∧ (∀ i, i < z1.length → w.cell? (x.add i) = some (.int .i64 (z1.getD i 0))) ∧ ∀ n ∈ z1, (Lit.int .i64 n).wf = true) (y1 : len1 * 8 ≤ 140737488351232) (w2 : a2.size ≤ 140737488351232) (w4 : (Lit.int .u8 a4).wf = true) :
    Calls Tryd.prog 4 #[.int .i64 a0, .slice a1 len1 cap1, .string a2, .bool a3, .int .u8 a4] w fun e w' => e = .returned (.bool true) ∧ Below w.heap.size w w' := by
  obtain ⟨l1, rfl, hr1, hm1, hw1, hc1⟩ := ReadsInt.ofRowC w1
  obtain ⟨k, h⟩ := P a0 l1 a2 a3 a4 w0 hm1 y1 hw1 w2 w4
  refine (drovewaylaw04_AmbushMoves.calls k a0 _ _ l1 a2 a3 a4 true w hT (Kd.C_of_reads (d := (0 : Int)) (h1 := fun _ => rfl) hr1) hc1 h).mono ?_
  rintro e w' ⟨rfl, hd⟩
  exact ⟨rfl, hd⟩

end Go.Proofs.YtbjpjjokamaliaaDoor.PAmbushMoves

-- Printed by hprint.py (this claim's own program, over the kit's print.py) out of the translation and contracts by hand. Not trusted: Lean checks it.
namespace Go.Proofs.YtbjpjjokamaliaaDoor.PAmbushMoves
open Go.Proofs.YtbjpjjokamaliaaDoor.A Go.Proofs.YtbjpjjokamaliaaDoor.B
open Go.RowKit Go.Proofs.YtbjpjjokamaliaaDoorW.PrintWords Go.Proofs.YtbjpjjokamaliaaDoorW.PrintLast Go.Proofs.YtbjpjjokamaliaaDoorW.PrintMore
attribute [local go_sem] max2_int min2_int max_two min_two max_three min_three max_four min_four   -- for this text's walks alone
set_option linter.unusedVariables false
set_option linter.unusedSimpArgs false

end Go.Proofs.YtbjpjjokamaliaaDoor.PAmbushMoves

/- What the law package's own functions and the reference's small ones compute (plain). -/
namespace Go.Proofs.YtbjpjjokamaliaaDoor.PAmbushMoves
open Go.Proofs.YtbjpjjokamaliaaDoor.A
open Go.RowKit Go.Proofs.YtbjpjjokamaliaaDoorW.PrintWords Go.Proofs.YtbjpjjokamaliaaDoorW.PrintLast

theorem few_eq (l : List Int) (s t : ByteArray) : drovewaylaw04_few.f l s t = some (decide ((l.length : Int) ≤ 40 ∧ (s.size : Int) ≤ 40 ∧ (t.size : Int) ≤ 40)) := by
  unfold drovewaylaw04_few.f
  by_cases h1 : (l.length : Int) ≤ 40
  · by_cases h2 : (s.size : Int) ≤ 40
    · rw [if_pos h1, if_pos h2]; simp [h1, h2]
    · rw [if_pos h1, if_neg h2]; simp [h2]
  · rw [if_neg h1]; simp [h1]
theorem shl_two {m : Nat} (h1 : 1 ≤ m) (h9 : m ≤ 9) : shl .i64 1 (m : Int) = 2 ^ m := by
  have : ∀ m : Nat, m < 10 → shl .i64 1 (m : Int) = (2 : Int) ^ m := by decide +kernel
  exact this m (by omega)
def bad (m : Nat) (x : Int) : Bool := decide (x < 1) || decide (2 ^ m ≤ x)
theorem Field_l0 {m : Nat} (h1 : 1 ≤ m) (h9 : m ≤ 9) (l : List Int) (h12 : l.length ≤ 12) : ∀ n i, l.length - i = n → i ≤ l.length →
    Ev (fun k => drovewayref04_Field.l0 k m l (i : Int)) (if ((l.drop i).any (bad m)) = true then 2 else 0) := by
  intro n
  induction n with
  | zero =>
    intro i hn hi
    have e : l.drop i = [] := List.drop_eq_nil_of_le (by omega)
    rw [e]
    refine Ev.step (f := fun _ => some 0) (fun k => ?_) (Ev.now _)
    rw [drovewayref04_Field.l0, if_neg (by omega)]
  | succ n ih =>
    intro i hn hi
    have hlt : i < l.length := by omega
    have ed : l.drop i = l[i] :: l.drop (i + 1) := List.drop_eq_getElem_cons hlt
    have er : rd l (i : Int) = l[i] := by simp [rd, List.getD_eq_getElem?_getD, hlt]
    have ew : wrap64 ((i : Int) + 1) = ((i + 1 : Nat) : Int) := by rw [wrap64_id] <;> omega
    rw [ed]
    have ih' := ih (i + 1) (by omega) (by omega)
    clear ed ih
    generalize l.drop (i + 1) = t at *
    have hun : ∀ k, drovewayref04_Field.l0 (k + 1) m l (i : Int) = if l[i] < 1 then some 2 else if l[i] ≥ 2 ^ m then some 2 else drovewayref04_Field.l0 k m l ((i + 1 : Nat) : Int) := by
      intro k
      rw [drovewayref04_Field.l0, if_pos (by omega), if_pos (by omega), er, shl_two h1 h9, ew, if_pos (show (0 : Int) ≤ m by omega)]
    by_cases b1 : l[i] < 1
    · refine Ev.step (f := fun _ => some 2) (fun k => by rw [hun, if_pos b1]) ?_
      have : ((l[i] :: t).any (bad m)) = true := by simp [List.any_cons, bad, b1]
      rw [if_pos this]
      exact Ev.now _
    · by_cases b2 : l[i] ≥ 2 ^ m
      · refine Ev.step (f := fun _ => some 2) (fun k => by rw [hun, if_neg b1, if_pos b2]) ?_
        have : ((l[i] :: t).any (bad m)) = true := by
          have b2' : 2 ^ m ≤ l[i] := b2
          simp [List.any_cons, bad, b2']
        rw [if_pos this]
        exact Ev.now _
      · refine Ev.step (fun k => by rw [hun, if_neg b1, if_neg b2]) ?_
        have : ((l[i] :: t).any (bad m)) = (t.any (bad m)) := by
          have b2' : ¬ 2 ^ m ≤ l[i] := b2
          simp [List.any_cons, bad, b1, b2']
        rw [this]
        exact ih'
theorem Field_ev (m : Int) (l : List Int) : Ev (fun k => drovewayref04_Field.f k m l) (okF m l) := by
  by_cases h1 : m < 1 ∨ 9 < m
  · have : okF m l = 2 := by unfold okF; rw [if_pos h1]
    rw [this]
    refine Ev.congr (f := fun k => drovewayref04_Field.j0 k m l true) (fun k => ?_) (Ev.step (f := fun _ => some 2) (fun k => ?_) (Ev.now _))
    · unfold drovewayref04_Field.f
      by_cases h : m < 1
      · rw [if_pos h]
      · rw [if_neg h]
        have : m > 9 := by omega
        simp [this]
    · rw [drovewayref04_Field.j0, if_pos rfl]
  · have hc : Ev (fun k => drovewayref04_Field.j0 k m l false) (okF m l) := by
      by_cases h12 : 12 < l.length
      · have : okF m l = 3 := by unfold okF; rw [if_neg h1, if_pos h12]
        rw [this]
        refine Ev.step (f := fun _ => some 3) (fun k => ?_) (Ev.now _)
        rw [drovewayref04_Field.j0, if_neg (by decide), if_pos (by omega)]
      · obtain ⟨n, rfl⟩ : ∃ n : Nat, m = n := ⟨m.toNat, by omega⟩
        have hb := Field_l0 (m := n) (by omega) (by omega) l (by omega) _ 0 rfl (by omega)
        have : okF (n : Int) l = if ((l.drop 0).any (bad n)) = true then 2 else 0 := by unfold okF; rw [if_neg h1, if_neg h12]; rfl
        rw [this]
        refine Ev.step (fun k => ?_) hb
        rw [drovewayref04_Field.j0, if_neg (by decide), if_neg (by omega)]
        rfl
    refine Ev.congr (fun k => ?_) hc
    unfold drovewayref04_Field.f
    rw [if_neg (by omega)]
    have : ¬ m > 9 := by omega
    simp [this]
theorem Placed_l0 {m : Nat} (h9 : m ≤ 9) (s : ByteArray) (hs : s.size = m) : ∀ n i (x y : Int), m - i = n → i ≤ m →
    ∃ r, Ev (fun k => drovewayref04_Placed.l0 k m s x y (i : Int)) r ∧ ((r.2.2 = 0 ∧ ∀ j, i ≤ j → j < m → okC (bt s j) = true) ∨ (r.2.2 = 5 ∧ ∃ j, i ≤ j ∧ j < m ∧ okC (bt s j) ≠ true)) := by
  intro n
  induction n with
  | zero =>
    intro i x y hn hi
    refine ⟨_, Ev.step (f := fun _ => some (x, y, 0)) (fun k => ?_) (Ev.now _), ?_⟩
    · rw [drovewayref04_Placed.l0, if_neg (by omega)]
    · exact .inl ⟨rfl, fun j h1 h2 => by omega⟩
  | succ n ih =>
    intro i x y hn hi
    have ew : wrap64 ((i : Int) + 1) = ((i + 1 : Nat) : Int) := by rw [wrap64_id] <;> omega
    have hsucc : ∀ e : Int, okC (bt s i) = true → ((e = 0 ∧ ∀ j, i + 1 ≤ j → j < m → okC (bt s j) = true) ∨ (e = 5 ∧ ∃ j, i + 1 ≤ j ∧ j < m ∧ okC (bt s j) ≠ true)) →
        ((e = 0 ∧ ∀ j, i ≤ j → j < m → okC (bt s j) = true) ∨ (e = 5 ∧ ∃ j, i ≤ j ∧ j < m ∧ okC (bt s j) ≠ true)) := by
      intro e ho h
      rcases h with ⟨h0, h⟩ | ⟨h0, j, h1, h2, h3⟩
      · refine .inl ⟨h0, fun j h1 h2 => ?_⟩
        by_cases e : i = j
        · subst e; exact ho
        · exact h j (by omega) h2
      · exact .inr ⟨h0, j, by omega, h2, h3⟩
    by_cases e1 : bt s i = 119
    · obtain ⟨r, hr, hr2⟩ := ih (i + 1) (wrap64 (x + (shl .i64 1 (i : Int)))) y (by omega) (by omega)
      refine ⟨r, Ev.step (fun k => ?_) hr, ?_⟩
      · rw [drovewayref04_Placed.l0, if_pos (by omega), if_pos (by omega), if_pos (by omega), if_pos e1, ew]
      · exact hsucc _ (by rw [e1]; rfl) hr2
    · by_cases e2 : bt s i = 100
      · obtain ⟨r, hr, hr2⟩ := ih (i + 1) x (wrap64 (y + (shl .i64 1 (i : Int)))) (by omega) (by omega)
        refine ⟨r, Ev.step (fun k => ?_) hr, ?_⟩
        · rw [drovewayref04_Placed.l0, if_pos (by omega), if_pos (by omega), if_pos (by omega), if_neg e1, if_pos e2, ew]
        · exact hsucc _ (by rw [e2]; rfl) hr2
      · by_cases e3 : bt s i = 46
        · obtain ⟨r, hr, hr2⟩ := ih (i + 1) x y (by omega) (by omega)
          refine ⟨r, Ev.step (fun k => ?_) hr, ?_⟩
          · rw [drovewayref04_Placed.l0, if_pos (by omega), if_pos (by omega), if_pos (by omega), if_neg e1, if_neg e2, if_pos e3, ew]
          · exact hsucc _ (by rw [e3]; rfl) hr2
        · refine ⟨_, Ev.step (f := fun _ => some (0, 0, 5)) (fun k => ?_) (Ev.now _), ?_⟩
          · rw [drovewayref04_Placed.l0, if_pos (by omega), if_pos (by omega), if_pos (by omega), if_neg e1, if_neg e2, if_neg e3]
          · exact .inr ⟨rfl, i, Nat.le_refl _, by omega, by simp [okC, e1, e2, e3]⟩
theorem Placed_ev (m : Int) (l : List Int) (s : ByteArray) : ∃ r, Ev (fun k => drovewayref04_Placed.f k m l s) r ∧ r.2.2 = okP m l s := by
  by_cases h0 : okF m l = 0
  · by_cases hs : (s.size : Int) = m
    · obtain ⟨h1, h9⟩ := okF_m h0
      obtain ⟨r, hr, hr2⟩ := Placed_l0 (m := s.size) (by omega) s rfl _ 0 0 0 rfl (by omega)
      refine ⟨r, Ev.bind (Field_ev m l) ?_, ?_⟩
      · rw [h0]
        refine Ev.congr (fun k => ?_) hr
        show (if (0 : Int) = 0 then _ else _) = _
        rw [if_pos rfl, if_pos hs, hs]
        rfl
      · unfold okP
        rw [if_neg (by simpa using h0), if_neg (by simpa using hs)]
        rcases hr2 with ⟨h, ha⟩ | ⟨h, j, _, hj, hb⟩
        · rw [h, if_pos (List.all_eq_true.2 fun j hj => ha j (Nat.zero_le _) (List.mem_range.1 hj))]
        · rw [h, if_neg]
          intro hall
          exact hb (List.all_eq_true.1 hall j (List.mem_range.2 hj))
    · refine ⟨(0, 0, 5), Ev.bind (Field_ev m l) ?_, ?_⟩
      · rw [h0]
        refine Ev.congr (f := fun _ => some (0, 0, 5)) (fun k => ?_) (Ev.now _)
        show (if (0 : Int) = 0 then _ else _) = _
        rw [if_pos rfl, if_neg hs]
      · unfold okP
        rw [if_neg (by simpa using h0), if_pos hs]
  · refine ⟨(0, 0, okF m l), Ev.bind (Field_ev m l) ?_, ?_⟩
    · refine Ev.congr (f := fun _ => some (0, 0, okF m l)) (fun k => ?_) (Ev.now _)
      show (if okF m l = 0 then _ else _) = _
      rw [if_neg h0]
    · unfold okP
      rw [if_pos h0]
end Go.Proofs.YtbjpjjokamaliaaDoor.PAmbushMoves

/- AmbushMoves, plain: the move keeps who wins, and no earlier spot wins. -/
namespace Go.Proofs.YtbjpjjokamaliaaDoor.Pure
open Go.Proofs.YtbjpjjokamaliaaDoor.A Go.Proofs.YtbjpjjokamaliaaDoor.B
open Go.RowKit Go.Proofs.YtbjpjjokamaliaaDoor.PAmbushMoves Go.Proofs.YtbjpjjokamaliaaDoorW.PrintWords Go.Proofs.YtbjpjjokamaliaaDoorW.PrintLast

theorem find_or (f : Nat → Bool) (n : Nat) : ((∀ j, j < n → f j = false) ∧ (List.range n).find? f = none) ∨ ∃ k, k < n ∧ f k = true ∧ (∀ j, j < k → f j = false) ∧ (List.range n).find? f = some k := by
  cases h : (List.range n).find? f with
  | none =>
    refine .inl ⟨fun j hj => ?_, rfl⟩
    rw [List.find?_eq_none] at h
    simpa using h j (List.mem_range.2 hj)
  | some k =>
    rw [List.find?_range_eq_some] at h
    obtain ⟨h1, h2, h3⟩ := h
    exact .inr ⟨k, List.mem_range.1 h2, h1, fun j hj => by simpa using h3 j hj, rfl⟩
theorem letS_list (b c : Bool) : (letS b).toList = (letS c).toList ↔ b = c := by cases b <;> cases c <;> decide +kernel
theorem letS_beq (b c : Bool) : ((letS b).toList == (letS c).toList) = (b == c) := by cases b <;> cases c <;> decide +kernel
/-- What who is next sets. -/
def cN (nx : Bool) : Int := if nx then 119 else 100
theorem cN_ok (nx : Bool) : okC (cN nx) = true ∧ 0 ≤ cN nx ∧ cN nx < 256 := by cases nx <;> decide
theorem goodM_eq {l : List Int} {s : ByteArray} (hP : okP (s.size : Int) l s = 0) {i : Nat} (hi : i < s.size) (h46 : bt s i = 46) (nx : Bool) :
    goodM l s.size (msk 119 s s.size) (msk 100 s s.size) nx i = (winS l (placedS s i (cN nx)) (!nx) == nx) := by
  have hf := (fr_bt hP hi).2 h46
  unfold goodM winS winB
  rw [hf, Bool.true_and, placedS_size]
  cases nx
  · simp only [Bool.false_eq_true, if_false, cN, Bool.not_false]
    rw [msk_put hi (by decide) (by decide), msk_keep hi h46 (by decide) (by decide) (by decide) (by decide)]
    cases wins l s.size (msk 119 s s.size).testBit (msk 100 s s.size ||| 2 ^ i).testBit true <;> rfl
  · simp only [if_true, cN, Bool.not_true]
    rw [msk_put hi (by decide) (by decide), msk_keep hi h46 (by decide) (by decide) (by decide) (by decide)]
    cases wins l s.size (msk 119 s s.size ||| 2 ^ i).testBit (msk 100 s s.size).testBit false <;> rfl
theorem good_win {l : List Int} {s : ByteArray} {nx : Bool} (hh : hasL l s.size (msk 119 s s.size).testBit = false) {i : Nat} (hi : i < s.size) (hg : goodM l s.size (msk 119 s s.size) (msk 100 s s.size) nx i = true) : winS l s nx = nx := by
  unfold goodM at hg
  rw [Bool.and_eq_true] at hg
  obtain ⟨hf, hg⟩ := hg
  cases nx
  · simp only [Bool.false_eq_true, if_false, Bool.not_eq_true'] at hg
    exact winB_hitD hh hi hf hg
  · simp only [if_true] at hg
    exact winB_hitW hh hi hf hg
theorem no_good {l : List Int} {s : ByteArray} {nx : Bool} (hh : hasL l s.size (msk 119 s s.size).testBit = false) (hF : ¬ (msk 119 s s.size ||| msk 100 s s.size = 2 ^ s.size - 1)) (h : ∀ j, j < s.size → goodM l s.size (msk 119 s s.size) (msk 100 s s.size) nx j = false) : winS l s nx = !nx := by
  have h' : ∀ i, i < s.size → fr (msk 119 s s.size).testBit (msk 100 s s.size).testBit i = true → (if nx then winB l s.size (msk 119 s s.size ||| 2 ^ i) (msk 100 s s.size) false else !(winB l s.size (msk 119 s s.size) (msk 100 s s.size ||| 2 ^ i) true)) = false := by
    intro i hi hf
    have := h i hi
    unfold goodM at this
    rw [hf, Bool.true_and] at this
    exact this
  cases nx
  · exact winB_missD (msk_lt _ _ _) (msk_lt _ _ _) hh hF (fun i hi hf => by simpa using h' i hi hf)
  · exact winB_missW hh (fun i hi hf => by simpa using h' i hi hf)
/-- What a move is. -/
theorem move_spec {l : List Int} {s : ByteArray} (hP : okP (s.size : Int) l s = 0) (nx : Bool) (hh : hasL l s.size (msk 119 s s.size).testBit = false) (hF : ¬ (msk 119 s s.size ||| msk 100 s s.size = 2 ^ s.size - 1)) :
    ∃ i : Nat, i < s.size ∧ moveV l s.size (msk 119 s s.size) (msk 100 s s.size) nx = i ∧ bt s i = 46 ∧ (winS l s nx == nx) = (winS l (placedS s i (cN nx)) (!nx) == nx) ∧
      ∀ y : Nat, y < s.size → bt s y = 46 → winS l (placedS s y (cN nx)) (!nx) = nx → winS l s nx = nx ∧ i ≤ y := by
  rcases find_or (goodM l s.size (msk 119 s s.size) (msk 100 s s.size) nx) s.size with ⟨hno, hn⟩ | ⟨k, hk, hg, hb, hs⟩
  · have hw := no_good hh hF hno
    have hno' : ∀ y : Nat, y < s.size → bt s y = 46 → (winS l (placedS s y (cN nx)) (!nx) == nx) = false := fun y hy h46 => by rw [← goodM_eq hP hy h46]; exact hno y hy
    rcases find_or (fr (msk 119 s s.size).testBit (msk 100 s s.size).testBit) s.size with ⟨hn2, _⟩ | ⟨k, hk, hg, _, hs⟩
    · refine absurd ?_ hF
      rw [full_iff (msk_lt _ _ _) (msk_lt _ _ _)]
      refine Nat.eq_of_testBit_eq fun j => ?_
      rw [Nat.zero_testBit, tb_less]
      by_cases hj : j < s.size
      · have := hn2 j hj
        unfold fr at this
        rw [Nat.testBit_or]
        have h2 : ((msk 119 s s.size).testBit j || (msk 100 s s.size).testBit j) = true := by
          cases e1 : (msk 119 s s.size).testBit j <;> cases e2 : (msk 100 s s.size).testBit j <;> simp [e1, e2] at this ⊢
        rw [h2]; simp
      · rw [Nat.testBit_two_pow_sub_one, decide_eq_false hj]; simp
    · have h46 := (fr_bt hP hk).1 hg
      refine ⟨k, hk, ?_, h46, ?_, fun y hy hy46 he => ?_⟩
      · unfold moveV; rw [hn, hs]
      · rw [hno' k hk h46, hw]; cases nx <;> rfl
      · have := hno' y hy hy46
        rw [he, beq_self_eq_true] at this; cases this
  · have hf : fr (msk 119 s s.size).testBit (msk 100 s s.size).testBit k = true := by
      unfold goodM at hg
      rw [Bool.and_eq_true] at hg
      exact hg.1
    have h46 := (fr_bt hP hk).1 hf
    have hw := good_win hh hk hg
    refine ⟨k, hk, ?_, h46, ?_, fun y hy hy46 he => ⟨hw, ?_⟩⟩
    · unfold moveV; rw [hs]
    · rw [← goodM_eq hP hk h46, hg, hw, beq_self_eq_true]
    · by_cases hlt : y < k
      · have := hb y hlt
        rw [goodM_eq hP hy hy46, he, beq_self_eq_true] at this; cases this
      · omega

theorem moves_j2 {l : List Int} {s : ByteArray} (hP : okP (s.size : Int) l s = 0) (nx : Bool) (i : Nat)
    (hsp : ∀ y : Nat, y < s.size → bt s y = 46 → winS l (placedS s y (cN nx)) (!nx) = nx → winS l s nx = nx ∧ i ≤ y) (y : Nat) (hy : y < s.size) :
    Ev (fun k => drovewaylaw04_AmbushMoves.j2 k s.size l s (letS nx) (letS (!nx)) (cN nx) (letS (winS l s nx)) i y false) true := by
  obtain ⟨hc1, hc2, hc3⟩ := cN_ok nx
  refine Ev.step (f := fun _ => some true) (fun k => ?_) (Ev.now true)
  rw [drovewaylaw04_AmbushMoves.j2, if_neg (by decide), if_pos (by omega), if_pos (by omega)]
  by_cases h46 : bt s y = 46
  · rw [if_pos h46]
    unfold drovewaylaw04_placed.f
    simp only [Option.bind_some]
    rw [winner_let (okP_placed hP y (cN nx) hc1 hc2 hc3)]
    simp only [Option.bind_some, if_true]
    by_cases he : winS l (placedS s y (cN nx)) (!nx) = nx
    · obtain ⟨e1, e2⟩ := hsp y hy h46 he
      rw [if_pos ((letS_list _ _).2 he), if_pos ((letS_list _ _).2 e1), if_pos (by omega)]
      rfl
    · rw [if_neg (fun h => he ((letS_list _ _).1 h))]
      rfl
  · rw [if_neg h46]; rfl

theorem moves_j0 {l : List Int} {s : ByteArray} (hP : okP (s.size : Int) l s = 0) (x : Int) (hx0 : 0 ≤ x) (hx1 : x ≤ 255) (nx : Bool) :
    Ev (fun k => drovewaylaw04_AmbushMoves.j0 k s.size l s x (letS nx) (letS (!nx)) (cN nx)) true := by
  obtain ⟨hc1, hc2, hc3⟩ := cN_ok nx
  obtain ⟨h1, h9⟩ := okF_m (okP_parts hP).1
  have hA := okA_let hP nx
  have hM : ambush_Move.f s.size l s (letS nx) = some (moveF s.size l s (letS nx)) := rfl
  by_cases hhf : hasL l s.size (msk 119 s s.size).testBit = true ∨ msk 119 s s.size ||| msk 100 s s.size = 2 ^ s.size - 1
  · have hv : moveF s.size l s (letS nx) = (0, 9) := by
      unfold moveF
      rw [if_pos hA, if_pos hhf]
    refine Ev.step (f := fun _ => some true) (fun k => ?_) (Ev.now true)
    rw [drovewaylaw04_AmbushMoves.j0, winner_let hP, hM, hv]
    simp only [Option.bind_some]
    rw [if_neg (by decide), if_pos trivial, if_pos trivial, if_pos trivial]
    rfl
  · have hh : hasL l s.size (msk 119 s s.size).testBit = false := by
      cases e : hasL l s.size (msk 119 s s.size).testBit with
      | false => rfl
      | true => exact absurd (.inl e) hhf
    have hF : ¬ (msk 119 s s.size ||| msk 100 s s.size = 2 ^ s.size - 1) := fun e => hhf (.inr e)
    obtain ⟨i, hi, hv, h46, hw, hsp⟩ := move_spec hP nx hh hF
    have hm : moveF s.size l s (letS nx) = ((i : Int), 0) := by
      unfold moveF
      rw [if_pos hA, if_neg hhf, nxW_let, Option.getD_some, hv]
    obtain ⟨y, hy⟩ : ∃ y : Nat, Int.tmod (wrap64 x) s.size = y := by
      rw [wrap64_id (by omega) (by omega)]
      exact ⟨x.toNat % s.size, by rw [Int.tmod_eq_emod_of_nonneg hx0, Int.natCast_emod, Int.toNat_of_nonneg hx0]⟩
    have hys : y < s.size := by
      have h := Int.tmod_lt_of_pos (wrap64 x) (show (0 : Int) < s.size by omega)
      omega
    have hj1 : Ev (fun k => drovewaylaw04_AmbushMoves.j1 k s.size l s x (letS nx) (letS (!nx)) (cN nx) (letS (winS l s nx)) i false) true := by
      refine Ev.step (fun k => ?_) (moves_j2 hP nx i hsp y hys)
      rw [drovewaylaw04_AmbushMoves.j1, if_neg (by decide)]
      unfold drovewaylaw04_placed.f
      simp only [Option.bind_some]
      rw [winner_let (okP_placed hP i (cN nx) hc1 hc2 hc3)]
      simp only [Option.bind_some, if_true]
      rw [if_neg (by omega), hy, letS_beq, letS_beq, hw, bne_self_eq_false]
    refine Ev.step (fun k => ?_) hj1
    rw [drovewaylaw04_AmbushMoves.j0, winner_let hP, hM, hm]
    simp only [Option.bind_some, if_true]
    rw [if_neg (by omega), if_neg (by omega), if_pos (by omega), if_pos (by omega), h46]
    rfl

/-- AmbushMoves, plain. -/
theorem AmbushMoves : drovewaylaw04_AmbushMoves.Pure := by
  intro m l s nx x _ _ _ _ _ hx
  have hx' : 0 ≤ x ∧ x ≤ 255 := by
    have e1 : IntKind.u8.min = 0 := by decide +kernel
    have e2 : IntKind.u8.max = 255 := by decide +kernel
    simp [Lit.wf] at hx
    omega
  refine Ev.rounds (g := fun k => drovewaylaw04_AmbushMoves.f k m l s nx x) ?_
  unfold drovewaylaw04_AmbushMoves.f
  rw [PAmbushMoves.few_eq]
  simp only [Option.bind_some]
  by_cases hf : ((l.length : Int) ≤ 40 ∧ (s.size : Int) ≤ 40 ∧ ((⟨#[]⟩ : ByteArray).size : Int) ≤ 40)
  · simp only [decide_eq_true hf, if_true]
    obtain ⟨r, hr, hr2⟩ := PAmbushMoves.Placed_ev m l s
    refine Ev.bind (f := fun k bt106 => (if bt106.2.2 = 0 then (if nx = true then (drovewaylaw04_AmbushMoves.j0 k m l s x (⟨#[119]⟩ : ByteArray) (⟨#[100]⟩ : ByteArray) 119) else (drovewaylaw04_AmbushMoves.j0 k m l s x (⟨#[100]⟩ : ByteArray) (⟨#[119]⟩ : ByteArray) 100)) else ((drovewaylaw04_alive.f).bind fun t109 => (some t109)))) hr ?_
    rw [hr2]
    by_cases h0 : okP m l s = 0
    · have hs := (okP_parts h0).2
      subst hs
      have hh := moves_j0 h0 x hx'.1 hx'.2
      cases nx
      · exact Ev.congr (fun k => by rw [if_pos h0, if_neg (by decide)]; rfl) (hh false)
      · exact Ev.congr (fun k => by rw [if_pos h0, if_pos rfl]; rfl) (hh true)
    · exact Ev.congr (fun k => by rw [if_neg h0]; rfl) (Ev.now true)
  · simp only [decide_eq_false hf]
    exact Ev.congr (fun k => by rw [if_neg (by decide)]; rfl) (Ev.now true)
end Go.Proofs.YtbjpjjokamaliaaDoor.Pure

/- AmbushMoves holds: its code returns true and leaves what it was given as it was. Conditions: those of the given statement, none besides. -/
-- Printed by hprint.py (this claim's own program, over the kit's print.py) out of the translation and contracts by hand. Not trusted: Lean checks it.
namespace Go.Proofs.YtbjpjjokamaliaaDoor.ambushMoves
open Go.ChangeShapes Go.WideShapes Go.ChangeAt Go.RowKit
open Go.Proofs.YtbjpjjokamaliaaDoor.B (laidB)
open Go.ChangeMaps (open_string shut_string)
set_option linter.unusedVariables false
theorem own : ownKnob Tryd.prog.godebug = none := by kernel_rfl
theorem laidOut : laidOutB Tryd.prog = true := by kernel_rfl
def IsRow (k : IntKind) (w : World) (a : Option Addr) (len cap : Nat) (zs : List Int) : Prop :=
  (a = none ∧ len = 0 ∧ cap = 0 ∧ zs = []) ∨
  ∃ x, a = some x ∧ len ≤ cap ∧ cap ≤ maxLen ∧ zs.length = cap ∧ (∀ i, i < zs.length → w.cell? (x.add i) = some (.int k (zs.getD i 0))) ∧ ∀ n ∈ zs, (Lit.int k n).wf = true
set_option maxRecDepth 100000 in
theorem lifted (os : Os) (started : os.Started) (H : Type) (enc : TypeId × Value → H) :
    ReturnsInHanded {} Tryd.checked os 4 .any (fun w args => (Rows.ambushMovesSpec.pre enc Tryd.prog Tryd.f4 [] false w args ∧ laidMetH Tryd.prog laidB w) ∧ sizedMet enc Tryd.prog Tryd.f4 (OpenSpec.ofChange Rows.ambushMovesSpec) false w args)
      (Rows.ambushMovesSpec.post enc Tryd.prog Tryd.f4 false true false false) := by
  refine returnsInHanded_of_change_and (C := Tryd.checked) (X := fun w _ => laidMetH Tryd.prog laidB w) (fun _ _ _ hh h => h.of_heap hh) own started (by kernel_rfl) Tryd.func4
    (ChangeSpec.witness_shaped (enc := enc) (C := Tryd.checked) (os := os) (X := fun w _ => laidMetH Tryd.prog laidB w) false (World.doorLaid Tryd.prog 19 os) #[.int .i64 0, .slice none 0 0, .string ByteArray.empty, .bool false, .int .u8 0] 8 rfl (World.shaped_of_RefB (by kernel_rfl) (by kernel_rfl)) (by kernel_rfl) (by kernel_rfl) (by kernel_rfl) (B.door_met os _)) ?_
  intro W base args ds gs before hval0 hW hcnd hsz0 hL _
  have hsz : (DataW.weightsEach Tryd.prog (Tryd.f4.params.toList ++ Rows.ambushMovesSpec.plain.varTypes Tryd.prog) (ds ++ gs)).all (· ≤ reachBytes) = true := hsz0
  have hval : ∀ (j : Nat) t v, Tryd.f4.params[j]? = some t → args[j]? = some v → Value.okWide Tryd.prog W .any base t v := hval0
  have hW' := hW
  obtain ⟨p, q, hA0, hV, rfl, hfz, hnd⟩ := hW
  have hA : DataW.TrodAll enc Tryd.prog W 0 (fun _ => true) true Tryd.f4.params.toList args.toList ds p := hA0
  rw [Tryd.params4] at hA hval hsz
  obtain ⟨v0, vs0, d0, ds0, p0, q0, hargs, rfl, rfl, h0, r0⟩ := trodAll_cons hA
  obtain ⟨v1, vs1, d1, ds1, p1, q1, rfl, rfl, rfl, h1, r1⟩ := trodAll_cons r0
  obtain ⟨v2, vs2, d2, ds2, p2, q2, rfl, rfl, rfl, h2, r2⟩ := trodAll_cons r1
  obtain ⟨v3, vs3, d3, ds3, p3, q3, rfl, rfl, rfl, h3, r3⟩ := trodAll_cons r2
  obtain ⟨v4, vs4, d4, ds4, p4, q4, rfl, rfl, rfl, h4, r4⟩ := trodAll_cons r3
  obtain ⟨rfl, rfl, rfl⟩ := trodAll_nil r4
  obtain rfl : args = #[v0, v1, v2, v3, v4] := by cases args; simp_all
  obtain ⟨rfl, rfl⟩ := trodVars_none hV
  obtain ⟨a0, rfl, rfl, rfl, w0⟩ := open_int Tryd.underlying3 (hval 0 3 v0 rfl rfl) h0
  obtain ⟨a1, len1, cap1, rfl⟩ := okWide_slice Tryd.underlying22 (hval 1 22 v1 rfl rfl)
  have k1 := h1
  have lt1 : ∀ x ∈ p1, x.block < W.heap.size := by obtain ⟨m, hm⟩ := k1; exact DataW.trod_lt m _ _ _ hm
  obtain ⟨z1, w1⟩ : ∃ zs, IsRow .i64 W a1 len1 cap1 zs := by
    obtain ⟨fuel, hf⟩ := h1
    rcases open_ints Tryd.underlying22 Tryd.underlying3 (by kernel_rfl) hf with ⟨hcs, _⟩ | ⟨x, l, c, zs, hcs, _, hl, hm, hz, _, hcell, hwz⟩
    · simp [Value.cells] at hcs
      obtain ⟨rfl, rfl, rfl⟩ := hcs
      exact ⟨[], .inl ⟨rfl, rfl, rfl, rfl⟩⟩
    · simp [Value.cells] at hcs
      obtain ⟨rfl, rfl, rfl⟩ := hcs
      exact ⟨zs, .inr ⟨_, rfl, hl, hm, by simpa using hz, hcell, hwz⟩⟩
  have y1 : len1 * 8 ≤ 140737488351232 := Go.Proofs.YtbjpjjokamaliaaDoorW.PrintWords.sized_ints hsz (j := 1) (t := 22) rfl rfl Tryd.underlying22 Tryd.underlying3 (by kernel_rfl) (by kernel_rfl) h1
  obtain ⟨a2, rfl, rfl, rfl, y2⟩ := open_string Tryd.underlying9 (hval 2 9 v2 rfl rfl) h2
  have w2 : a2.size ≤ 140737488351232 := by
    have z := sized_string hsz (j := 2) (t := 9) rfl rfl
    rw [Array.length_toList] at z
    exact z
  obtain ⟨a3, rfl, rfl, rfl⟩ := open_bool Tryd.underlying4 (hval 3 4 v3 rfl rfl) h3
  obtain ⟨a4, rfl, rfl, rfl, w4⟩ := open_int Tryd.underlying5 (hval 4 5 v4 rfl rfl) h4
  clear hA0 hval0 hsz0 hsz
  refine (PAmbushMoves.drovewaylaw04_AmbushMoves.walk Pure.AmbushMoves a0 a1 len1 cap1 z1 a2 a3 a4 W (B.of_laid hL) w0 w1 y1 w2 w4).mono fun e W' ⟨he, bel⟩ => ?_
  subst he
  exact ⟨_, rfl, _, _, _, [], _, [], hW', trodAll_mk1 (shut_bool Tryd.underlying4 _), (trodAll_cons_mk (shut_int Tryd.underlying3 w0) (trodAll_cons_mk (Below.trod laidOut (by kernel_rfl) (of_decide_eq_true (by kernel_rfl)) k1 bel lt1) (trodAll_cons_mk (shut_string Tryd.underlying9 y2) (trodAll_cons_mk (shut_bool Tryd.underlying4 _) (trodAll_cons_mk (shut_int Tryd.underlying5 w4) trodAll_mk0))))), rfl, bel.frame _, fun h => by cases h⟩
theorem over : Rows.ambushMovesRow.holds Tryd.pinned (OpenSpec.ofChange Rows.ambushMovesSpec) :=
  OpenClaim.holds_of_wide 4 Tryd.f4 rfl rfl rfl rfl rfl rfl rfl ⟨rfl, rfl, rfl, rfl, rfl⟩ rfl rfl rfl rfl rfl (by kernel_rfl) Tryd.func4 (by kernel_rfl)
    (of_decide_eq_true (by kernel_rfl)) (by unfold Func.isWrapper; first | (rw [if_pos (by decide +kernel)]; kernel_rfl) | (rw [if_neg (by decide +kernel)]; exact ⟨rfl, rfl⟩))
    (fun os started H enc _ => lifted os started H enc)
theorem proved : Rows.AmbushMovesSaid := over
/-- The tied card. -/
theorem card : Rows.AmbushMovesCardSaid :=
  Claim7.holds_tied_plain_at .later [] [.data, .data] true (true, "f798f73cd1b9357947b36d579769b18aee407fbac699044f449b93c966711b47") false
    proved (fun _ h => by cases h) (by kernel_rfl) (fun _ h => by cases h) ambushMoves_row_tie rfl ⟨rfl, rfl⟩ (by kernel_rfl) rfl
    (fun f fn hf hfn => by
      obtain rfl : f = 4 := Option.some.inj ((show Tryd.prog.funcNamed "droveway/drovewaylaw04.AmbushMoves" = some 4 by kernel_rfl).symm.trans hf) |>.symm
      obtain rfl : fn = Tryd.f4 := (Option.some.inj (Tryd.func4.symm.trans hfn)).symm
      exact ⟨by kernel_rfl, fun j t ht => by
        rw [Tryd.params4] at ht
        have hm : t ∈ [3, 22, 9, 4, 5] := by simpa using Array.mem_of_getElem? ht
        have hall : ([3, 22, 9, 4, 5].all fun u => !Tryd.prog.wantsStandIn u) = true := by kernel_rfl
        exact (show Tryd.prog.wantsStandIn t = false by simpa using List.all_eq_true.1 hall t hm)⟩)
    (by kernel_rfl)
#print axioms card
end Go.Proofs.YtbjpjjokamaliaaDoor.ambushMoves
namespace Go.Proofs.YtbjpjjokamaliaaDoor
/-- The card, under a short name, for the claim. -/
theorem ambushMoves_holds : Rows.AmbushMovesCardSaid := ambushMoves.card
end Go.Proofs.YtbjpjjokamaliaaDoor
