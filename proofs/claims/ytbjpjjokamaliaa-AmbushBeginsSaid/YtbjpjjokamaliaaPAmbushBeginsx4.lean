-- Printed by hprint.py (this claim's own program, over the kit's print.py) out of the translation and contracts by hand. Not trusted: Lean checks it.
import Derived.Test.YtbjpjjokamaliaaPAmbushBeginsx0
import Derived.Test.YtbjpjjokamaliaaPAmbushBeginsx2
import Derived.Test.YtbjpjjokamaliaaPAmbushBeginsx3
namespace Go.Proofs.Ytbjpjjokamaliaa.PAmbushBegins
open Go.Proofs.Ytbjpjjokamaliaa.A
open Go.RowKit Go.Proofs.YtbjpjjokamaliaaW.PrintWords Go.Proofs.YtbjpjjokamaliaaW.PrintLast Go.Proofs.YtbjpjjokamaliaaW.PrintMore
attribute [local go_sem] max2_int min2_int max_two min_two max_three min_three max_four min_four   -- for this text's walks alone
set_option linter.unusedVariables false
set_option linter.unusedSimpArgs false

/-! ### drovewaylaw04_AmbushBegins: function 4 -/
mutual
def drovewaylaw04_AmbushBegins.j0 : Nat → Int → List Int → Int → Bool → Option (Bool)
  | 0, _, _, _, _ => none
  | k + 1, x0, x1, x2, x31 => if x31 = true then ((drovewaylaw04_alive.f k).bind fun t144 => (some t144)) else ((drovewayref04_Written.f k x0 0 0).bind fun t145 => ((ambush_Guards.f x0 x1).bind fun bt146 => ((ambush_Winner.f x0 x1 t145 (⟨#[100]⟩ : ByteArray)).bind fun bt150 => ((ambush_Needs.f x0 x1).bind fun bt152 => (if bt146.2 = 0 then (if bt150.2 = 0 then (drovewaylaw04_AmbushBegins.j1 k x0 x1 x2 t145 bt146.1 bt150.1 bt152.1 bt152.2 ((bt150.1.toList == ([100] : List UInt8)) != (decide ((bt146.1.length : Int) > 0)))) else (drovewaylaw04_AmbushBegins.j1 k x0 x1 x2 t145 bt146.1 bt150.1 bt152.1 bt152.2 true)) else (drovewaylaw04_AmbushBegins.j1 k x0 x1 x2 t145 bt146.1 bt150.1 bt152.1 bt152.2 true))))))
def drovewaylaw04_AmbushBegins.j1 : Nat → Int → List Int → Int → ByteArray → List Int → ByteArray → Int → Int → Bool → Option (Bool)
  | 0, _, _, _, _, _, _, _, _, _ => none
  | k + 1, x0, x1, x2, x7, x8, x10, x12, x13, x67 => if x67 = true then (some false) else (drovewaylaw04_AmbushBegins.l0 k x0 x1 x2 x7 x8 x10 x12 x13 0 0)
def drovewaylaw04_AmbushBegins.l0 : Nat → Int → List Int → Int → ByteArray → List Int → ByteArray → Int → Int → Int → Int → Option (Bool)
  | 0, _, _, _, _, _, _, _, _, _, _ => none
  | k + 1, x0, x1, x2, x7, x8, x10, x12, x13, x14, x15 => if x15 < x0 then ((drovewaylaw04_placed.f x7 x15 100).bind fun t154 => ((ambush_Winner.f x0 x1 t154 (⟨#[119]⟩ : ByteArray)).bind fun bt155 => (if x14 < (x8.length : Int) then (if 0 ≤ x14 then (drovewaylaw04_AmbushBegins.j3 k x0 x1 x2 x7 x8 x10 x12 x13 x14 x15 bt155.1 bt155.2 ((rd x8 x14) == x15)) else (none)) else (drovewaylaw04_AmbushBegins.j3 k x0 x1 x2 x7 x8 x10 x12 x13 x14 x15 bt155.1 bt155.2 false)))) else (if x14 = (x8.length : Int) then (if (x1.length : Int) = 0 then (if x13 = 10 then (if x12 = 0 then ((drovewaylaw04_alive.f k).bind fun t158 => (some t158)) else (some false)) else (some false)) else (if x13 = 0 then (if x12 < 0 then (drovewaylaw04_AmbushBegins.j4 k x0 x1 x2 x12 true) else (if x12 > x0 then (drovewaylaw04_AmbushBegins.j4 k x0 x1 x2 x12 true) else (drovewaylaw04_AmbushBegins.j4 k x0 x1 x2 x12 ((x12 == 0) != (x10.toList == ([119] : List UInt8)))))) else (drovewaylaw04_AmbushBegins.j4 k x0 x1 x2 x12 true))) else (some false))
def drovewaylaw04_AmbushBegins.j3 : Nat → Int → List Int → Int → ByteArray → List Int → ByteArray → Int → Int → Int → Int → ByteArray → Int → Bool → Option (Bool)
  | 0, _, _, _, _, _, _, _, _, _, _, _, _, _ => none
  | k + 1, x0, x1, x2, x7, x8, x10, x12, x13, x14, x15, x16, x17, x18 => if x18 = true then (if x17 = 0 then (if (x18 != (x16.toList == ([100] : List UInt8))) = true then (some false) else (drovewaylaw04_AmbushBegins.l0 k x0 x1 x2 x7 x8 x10 x12 x13 (wrap64 (x14 + 1)) (wrap64 (x15 + 1)))) else (some false)) else (if x17 = 0 then (if (x18 != (x16.toList == ([100] : List UInt8))) = true then (some false) else (drovewaylaw04_AmbushBegins.l0 k x0 x1 x2 x7 x8 x10 x12 x13 x14 (wrap64 (x15 + 1)))) else (some false))
def drovewaylaw04_AmbushBegins.j4 : Nat → Int → List Int → Int → Int → Bool → Option (Bool)
  | 0, _, _, _, _, _ => none
  | k + 1, x0, x1, x2, x12, x138 => if x138 = true then (some false) else (if 0 ≤ x0 then (if (shl .i64 1 x0) = 0 then (none) else ((drovewayref04_Written.f k x0 (Int.tmod (wrap64 (x2)) (shl .i64 1 x0)) 0).bind fun t159 => ((ambush_Winner.f x0 x1 t159 (⟨#[100]⟩ : ByteArray)).bind fun bt160 => (if bt160.2 = 0 then (if bt160.1.toList = ([119] : List UInt8) then ((drovewaylaw04_free.f k t159).bind fun t162 => (if (wrap64 (x0 - t162)) ≥ x12 then ((drovewaylaw04_alive.f k).bind fun t163 => (some t163)) else (some false))) else ((drovewaylaw04_alive.f k).bind fun t164 => (some t164))) else (some false))))) else (none))
end
def drovewaylaw04_AmbushBegins.f (k : Nat) (a0 : Int) (l1 : List Int) (a2 : Int) : Option (Bool) := (drovewaylaw04_few.f l1 (⟨#[]⟩ : ByteArray) (⟨#[]⟩ : ByteArray)).bind fun t142 => (if t142 = true then ((drovewayref04_Field.f k a0 l1).bind fun t143 => (drovewaylaw04_AmbushBegins.j0 k a0 l1 a2 (t143 != 0))) else (drovewaylaw04_AmbushBegins.j0 k a0 l1 a2 true))
theorem drovewaylaw04_AmbushBegins.mono_l : ∀ k, (∀ y0 y1 y2 y3, LeO (drovewaylaw04_AmbushBegins.j0 k y0 y1 y2 y3) (drovewaylaw04_AmbushBegins.j0 (k + 1) y0 y1 y2 y3)) ∧ (∀ y0 y1 y2 y3 y4 y5 y6 y7 y8, LeO (drovewaylaw04_AmbushBegins.j1 k y0 y1 y2 y3 y4 y5 y6 y7 y8) (drovewaylaw04_AmbushBegins.j1 (k + 1) y0 y1 y2 y3 y4 y5 y6 y7 y8)) ∧ (∀ y0 y1 y2 y3 y4 y5 y6 y7 y8 y9, LeO (drovewaylaw04_AmbushBegins.l0 k y0 y1 y2 y3 y4 y5 y6 y7 y8 y9) (drovewaylaw04_AmbushBegins.l0 (k + 1) y0 y1 y2 y3 y4 y5 y6 y7 y8 y9)) ∧ (∀ y0 y1 y2 y3 y4 y5 y6 y7 y8 y9 y10 y11 y12, LeO (drovewaylaw04_AmbushBegins.j3 k y0 y1 y2 y3 y4 y5 y6 y7 y8 y9 y10 y11 y12) (drovewaylaw04_AmbushBegins.j3 (k + 1) y0 y1 y2 y3 y4 y5 y6 y7 y8 y9 y10 y11 y12)) ∧ (∀ y0 y1 y2 y3 y4, LeO (drovewaylaw04_AmbushBegins.j4 k y0 y1 y2 y3 y4) (drovewaylaw04_AmbushBegins.j4 (k + 1) y0 y1 y2 y3 y4))
  | 0 => ⟨fun _ _ _ _ r h => by simp [drovewaylaw04_AmbushBegins.j0] at h, fun _ _ _ _ _ _ _ _ _ r h => by simp [drovewaylaw04_AmbushBegins.j1] at h, fun _ _ _ _ _ _ _ _ _ _ r h => by simp [drovewaylaw04_AmbushBegins.l0] at h, fun _ _ _ _ _ _ _ _ _ _ _ _ _ r h => by simp [drovewaylaw04_AmbushBegins.j3] at h, fun _ _ _ _ _ r h => by simp [drovewaylaw04_AmbushBegins.j4] at h⟩
  | k + 1 => by
    obtain ⟨ih0, ih1, ih2, ih3, ih4⟩ := drovewaylaw04_AmbushBegins.mono_l k
    refine ⟨?_, ?_, ?_, ?_, ?_⟩
    · intro y0 y1 y2 y3
      unfold drovewaylaw04_AmbushBegins.j0
      repeat' first
      | (with_reducible exact ih0 _ _ _ _)
      | (with_reducible exact ih1 _ _ _ _ _ _ _ _ _)
      | (with_reducible exact ih2 _ _ _ _ _ _ _ _ _ _)
      | (with_reducible exact ih3 _ _ _ _ _ _ _ _ _ _ _ _ _)
      | (with_reducible exact ih4 _ _ _ _ _)
      | (with_reducible exact drovewaylaw04_alive.mono _)
      | (with_reducible exact drovewaylaw04_free.mono _ _)
      | (with_reducible exact drovewayref04_Field.mono _ _ _)
      | (with_reducible exact drovewayref04_Written.mono _ _ _ _)
      | (with_reducible exact LeO.refl _)
      | (with_reducible exact LeO.none _)
      | (with_reducible refine LeO.ite ?_ ?_)
      | (with_reducible refine LeO.bind ?_ (fun _ => ?_))
      | exact ih0 _ _ _ _
      | exact ih1 _ _ _ _ _ _ _ _ _
      | exact ih2 _ _ _ _ _ _ _ _ _ _
      | exact ih3 _ _ _ _ _ _ _ _ _ _ _ _ _
      | exact ih4 _ _ _ _ _
      | exact drovewaylaw04_alive.mono _
      | exact drovewaylaw04_free.mono _ _
      | exact drovewayref04_Field.mono _ _ _
      | exact drovewayref04_Written.mono _ _ _ _
      | exact LeO.none _
      | refine LeO.ite ?_ ?_
      | refine LeO.bind ?_ (fun _ => ?_)
    · intro y0 y1 y2 y3 y4 y5 y6 y7 y8
      unfold drovewaylaw04_AmbushBegins.j1
      repeat' first
      | (with_reducible exact ih0 _ _ _ _)
      | (with_reducible exact ih1 _ _ _ _ _ _ _ _ _)
      | (with_reducible exact ih2 _ _ _ _ _ _ _ _ _ _)
      | (with_reducible exact ih3 _ _ _ _ _ _ _ _ _ _ _ _ _)
      | (with_reducible exact ih4 _ _ _ _ _)
      | (with_reducible exact drovewaylaw04_alive.mono _)
      | (with_reducible exact drovewaylaw04_free.mono _ _)
      | (with_reducible exact drovewayref04_Field.mono _ _ _)
      | (with_reducible exact drovewayref04_Written.mono _ _ _ _)
      | (with_reducible exact LeO.refl _)
      | (with_reducible exact LeO.none _)
      | (with_reducible refine LeO.ite ?_ ?_)
      | (with_reducible refine LeO.bind ?_ (fun _ => ?_))
      | exact ih0 _ _ _ _
      | exact ih1 _ _ _ _ _ _ _ _ _
      | exact ih2 _ _ _ _ _ _ _ _ _ _
      | exact ih3 _ _ _ _ _ _ _ _ _ _ _ _ _
      | exact ih4 _ _ _ _ _
      | exact drovewaylaw04_alive.mono _
      | exact drovewaylaw04_free.mono _ _
      | exact drovewayref04_Field.mono _ _ _
      | exact drovewayref04_Written.mono _ _ _ _
      | exact LeO.none _
      | refine LeO.ite ?_ ?_
      | refine LeO.bind ?_ (fun _ => ?_)
    · intro y0 y1 y2 y3 y4 y5 y6 y7 y8 y9
      unfold drovewaylaw04_AmbushBegins.l0
      repeat' first
      | (with_reducible exact ih0 _ _ _ _)
      | (with_reducible exact ih1 _ _ _ _ _ _ _ _ _)
      | (with_reducible exact ih2 _ _ _ _ _ _ _ _ _ _)
      | (with_reducible exact ih3 _ _ _ _ _ _ _ _ _ _ _ _ _)
      | (with_reducible exact ih4 _ _ _ _ _)
      | (with_reducible exact drovewaylaw04_alive.mono _)
      | (with_reducible exact drovewaylaw04_free.mono _ _)
      | (with_reducible exact drovewayref04_Field.mono _ _ _)
      | (with_reducible exact drovewayref04_Written.mono _ _ _ _)
      | (with_reducible exact LeO.refl _)
      | (with_reducible exact LeO.none _)
      | (with_reducible refine LeO.ite ?_ ?_)
      | (with_reducible refine LeO.bind ?_ (fun _ => ?_))
      | exact ih0 _ _ _ _
      | exact ih1 _ _ _ _ _ _ _ _ _
      | exact ih2 _ _ _ _ _ _ _ _ _ _
      | exact ih3 _ _ _ _ _ _ _ _ _ _ _ _ _
      | exact ih4 _ _ _ _ _
      | exact drovewaylaw04_alive.mono _
      | exact drovewaylaw04_free.mono _ _
      | exact drovewayref04_Field.mono _ _ _
      | exact drovewayref04_Written.mono _ _ _ _
      | exact LeO.none _
      | refine LeO.ite ?_ ?_
      | refine LeO.bind ?_ (fun _ => ?_)
    · intro y0 y1 y2 y3 y4 y5 y6 y7 y8 y9 y10 y11 y12
      unfold drovewaylaw04_AmbushBegins.j3
      repeat' first
      | (with_reducible exact ih0 _ _ _ _)
      | (with_reducible exact ih1 _ _ _ _ _ _ _ _ _)
      | (with_reducible exact ih2 _ _ _ _ _ _ _ _ _ _)
      | (with_reducible exact ih3 _ _ _ _ _ _ _ _ _ _ _ _ _)
      | (with_reducible exact ih4 _ _ _ _ _)
      | (with_reducible exact drovewaylaw04_alive.mono _)
      | (with_reducible exact drovewaylaw04_free.mono _ _)
      | (with_reducible exact drovewayref04_Field.mono _ _ _)
      | (with_reducible exact drovewayref04_Written.mono _ _ _ _)
      | (with_reducible exact LeO.refl _)
      | (with_reducible exact LeO.none _)
      | (with_reducible refine LeO.ite ?_ ?_)
      | (with_reducible refine LeO.bind ?_ (fun _ => ?_))
      | exact ih0 _ _ _ _
      | exact ih1 _ _ _ _ _ _ _ _ _
      | exact ih2 _ _ _ _ _ _ _ _ _ _
      | exact ih3 _ _ _ _ _ _ _ _ _ _ _ _ _
      | exact ih4 _ _ _ _ _
      | exact drovewaylaw04_alive.mono _
      | exact drovewaylaw04_free.mono _ _
      | exact drovewayref04_Field.mono _ _ _
      | exact drovewayref04_Written.mono _ _ _ _
      | exact LeO.none _
      | refine LeO.ite ?_ ?_
      | refine LeO.bind ?_ (fun _ => ?_)
    · intro y0 y1 y2 y3 y4
      unfold drovewaylaw04_AmbushBegins.j4
      repeat' first
      | (with_reducible exact ih0 _ _ _ _)
      | (with_reducible exact ih1 _ _ _ _ _ _ _ _ _)
      | (with_reducible exact ih2 _ _ _ _ _ _ _ _ _ _)
      | (with_reducible exact ih3 _ _ _ _ _ _ _ _ _ _ _ _ _)
      | (with_reducible exact ih4 _ _ _ _ _)
      | (with_reducible exact drovewaylaw04_alive.mono _)
      | (with_reducible exact drovewaylaw04_free.mono _ _)
      | (with_reducible exact drovewayref04_Field.mono _ _ _)
      | (with_reducible exact drovewayref04_Written.mono _ _ _ _)
      | (with_reducible exact LeO.refl _)
      | (with_reducible exact LeO.none _)
      | (with_reducible refine LeO.ite ?_ ?_)
      | (with_reducible refine LeO.bind ?_ (fun _ => ?_))
      | exact ih0 _ _ _ _
      | exact ih1 _ _ _ _ _ _ _ _ _
      | exact ih2 _ _ _ _ _ _ _ _ _ _
      | exact ih3 _ _ _ _ _ _ _ _ _ _ _ _ _
      | exact ih4 _ _ _ _ _
      | exact drovewaylaw04_alive.mono _
      | exact drovewaylaw04_free.mono _ _
      | exact drovewayref04_Field.mono _ _ _
      | exact drovewayref04_Written.mono _ _ _ _
      | exact LeO.none _
      | refine LeO.ite ?_ ?_
      | refine LeO.bind ?_ (fun _ => ?_)
theorem drovewaylaw04_AmbushBegins.mono : ∀ a0 a1 a2 k, LeO (drovewaylaw04_AmbushBegins.f k a0 a1 a2) (drovewaylaw04_AmbushBegins.f (k + 1) a0 a1 a2) := by
  intro a0 a1 a2 k
  obtain ⟨ih0, ih1, ih2, ih3, ih4⟩ := drovewaylaw04_AmbushBegins.mono_l k
  unfold drovewaylaw04_AmbushBegins.f
  repeat' first
      | (with_reducible exact ih0 _ _ _ _)
      | (with_reducible exact ih1 _ _ _ _ _ _ _ _ _)
      | (with_reducible exact ih2 _ _ _ _ _ _ _ _ _ _)
      | (with_reducible exact ih3 _ _ _ _ _ _ _ _ _ _ _ _ _)
      | (with_reducible exact ih4 _ _ _ _ _)
      | (with_reducible exact drovewaylaw04_alive.mono _)
      | (with_reducible exact drovewaylaw04_free.mono _ _)
      | (with_reducible exact drovewayref04_Field.mono _ _ _)
      | (with_reducible exact drovewayref04_Written.mono _ _ _ _)
      | (with_reducible exact LeO.refl _)
      | (with_reducible exact LeO.none _)
      | (with_reducible refine LeO.ite ?_ ?_)
      | (with_reducible refine LeO.bind ?_ (fun _ => ?_))
      | exact ih0 _ _ _ _
      | exact ih1 _ _ _ _ _ _ _ _ _
      | exact ih2 _ _ _ _ _ _ _ _ _ _
      | exact ih3 _ _ _ _ _ _ _ _ _ _ _ _ _
      | exact ih4 _ _ _ _ _
      | exact drovewaylaw04_alive.mono _
      | exact drovewaylaw04_free.mono _ _
      | exact drovewayref04_Field.mono _ _ _
      | exact drovewayref04_Written.mono _ _ _ _
      | exact LeO.none _
      | refine LeO.ite ?_ ?_
      | refine LeO.bind ?_ (fun _ => ?_)
set_option maxHeartbeats 8000000 in
set_option maxRecDepth 100000 in
theorem drovewaylaw04_AmbushBegins.calls (k : Nat) (a0 : Int) (A1 : Option Addr) (c1 : Nat) (l1 : List Int) (a2 : Int) (r : Bool) (w : World) (hr1 : Kd.C (Kd.int .i64) w A1 l1.length l1) (hc1 : l1.length ≤ c1) (h : drovewaylaw04_AmbushBegins.f k a0 l1 a2 = some r) :
    Calls Try.prog 4 #[.int .i64 a0, .slice A1 l1.length c1, .int .u16 a2] w fun e w' => e = .returned (.bool r) ∧ Below w.heap.size w w' := by
  have HR1 := Aside0.mk hr1
  have HC1 := Aside0.mk hc1
  clear hr1 hc1
  have HB := Aside0.mk (Below.refl w.heap.size w)
  have H : ((drovewaylaw04_few.f l1 (⟨#[]⟩ : ByteArray) (⟨#[]⟩ : ByteArray)).bind fun t142 => (if t142 = true then ((drovewayref04_Field.f k a0 l1).bind fun t143 => (drovewaylaw04_AmbushBegins.j0 k a0 l1 a2 (t143 != 0))) else (drovewaylaw04_AmbushBegins.j0 k a0 l1 a2 true))) = some r := h
  clear h
  have HC4 := Aside0.mk H
  clear H
  go_enter Try.func4, Try.ntmps4
  go_upto_region 1 with (fail)
  go_cut [31] (fun v31 wc => ∃ (kq : Nat) (x31_3 : Bool), v31 = .bool x31_3 ∧ Aside0 (drovewaylaw04_AmbushBegins.j0 kq a0 l1 a2 x31_3 = some r) ∧ Aside0 (kq ≤ k) ∧ Aside0 (Below w.heap.size w wc))
  case first =>
    have H := HC4.out
    clear HC4
    replace H := Option.bind_eq_some_iff.mp H
    obtain ⟨t142, A50, H⟩ := H
    replace H : (if t142 = true then ((drovewayref04_Field.f k a0 l1).bind fun t143 => (drovewaylaw04_AmbushBegins.j0 k a0 l1 a2 (t143 != 0))) else (drovewaylaw04_AmbushBegins.j0 k a0 l1 a2 true)) = some r := H
    have A5 := Aside0.mk A50
    clear A50
    by_cases c6 : t142 = true
    · subst c6
      have H1 : ((drovewayref04_Field.f k a0 l1).bind fun t143 => (drovewaylaw04_AmbushBegins.j0 k a0 l1 a2 (t143 != 0))) = some r := by rw [if_pos rfl] at H; exact H
      clear H
      have H := H1
      clear H1
      replace H := Option.bind_eq_some_iff.mp H
      obtain ⟨t143, A70, H⟩ := H
      replace H : (drovewaylaw04_AmbushBegins.j0 k a0 l1 a2 (t143 != 0)) = some r := H
      have A7 := Aside0.mk A70
      clear A70
      have H' := Aside0.mk H
      clear H
      go_wp2_with (first | ((with_reducible refine gate_callee (f := 11) rfl ?_); refine goesL_ (some 24) rfl rfl Try.func11 (by kernel_rfl) rfl #[.slice A1 l1.length c1, .string (⟨#[]⟩ : ByteArray), .string (⟨#[]⟩ : ByteArray)] rfl (by (try simp only [List.map_toArray, List.map_cons, List.map_nil]); first | done | rfl | (simp only [List.length_drop, List.length_take]; rfl)) ?_; (with_reducible refine (drovewaylaw04_few.calls _ _ l1 (⟨#[]⟩ : ByteArray) (⟨#[]⟩ : ByteArray) true _ ?side1 ?side2 A5.out).mono ?_); (case side1 => repeat (first | exact (Kd.C_below HR1.out HB.out) | (with_reducible refine Kd.C_alloc ?_ _) | (with_reducible refine Kd.C_drewN ?_ _) | (with_reducible refine Kd.C_drew ?_))); (case side2 => exact HC1.out); rintro e w' ⟨rfl, ⟨nd, rfl⟩⟩; refine ⟨_, rfl, ?_⟩) | (go_at_call 17; (with_reducible refine (drovewayref04_Field.calls k a0 _ _ l1 t143 _ ?side1 ?side2 A7.out).mono ?_); (case side1 => repeat (first | exact (Kd.C_below HR1.out (by repeat (first | (with_reducible first | exact HB.out | apply below_alloc | apply pw_below_drewN | apply below_drew1) | exact HB.out))) | (with_reducible refine Kd.C_alloc ?_ _) | (with_reducible refine Kd.C_drewN ?_ _) | (with_reducible refine Kd.C_drew ?_))); (case side2 => exact HC1.out); rintro e w' ⟨rfl, ⟨nd, rfl⟩⟩))
      go_meet
      case rel => exact ⟨_, ((t143 != 0)), (by first | rfl | (simp; done) | (simp [*]; done)), H', ⟨by first | omega | exact Nat.le_refl _⟩, ⟨by repeat (first | (with_reducible first | exact HB.out | apply below_alloc | apply pw_below_drewN | apply below_drew1) | exact HB.out)⟩⟩
    · replace c6 := Bool.eq_false_iff.mpr c6
      subst c6
      have H1 : (drovewaylaw04_AmbushBegins.j0 k a0 l1 a2 true) = some r := by rw [if_neg (show ¬ (false = true) by decide)] at H; exact H
      clear H
      have H := H1
      clear H1
      have H' := Aside0.mk H
      clear H
      go_wp2_with (first | ((with_reducible refine gate_callee (f := 11) rfl ?_); refine goesL_ (some 24) rfl rfl Try.func11 (by kernel_rfl) rfl #[.slice A1 l1.length c1, .string (⟨#[]⟩ : ByteArray), .string (⟨#[]⟩ : ByteArray)] rfl (by (try simp only [List.map_toArray, List.map_cons, List.map_nil]); first | done | rfl | (simp only [List.length_drop, List.length_take]; rfl)) ?_; (with_reducible refine (drovewaylaw04_few.calls _ _ l1 (⟨#[]⟩ : ByteArray) (⟨#[]⟩ : ByteArray) false _ ?side1 ?side2 A5.out).mono ?_); (case side1 => repeat (first | exact (Kd.C_below HR1.out HB.out) | (with_reducible refine Kd.C_alloc ?_ _) | (with_reducible refine Kd.C_drewN ?_ _) | (with_reducible refine Kd.C_drew ?_))); (case side2 => exact HC1.out); rintro e w' ⟨rfl, ⟨nd, rfl⟩⟩; refine ⟨_, rfl, ?_⟩))
      go_meet
      case rel => exact ⟨_, (true), (by first | rfl | (simp; done) | (simp [*]; done)), H', ⟨by first | omega | exact Nat.le_refl _⟩, ⟨by repeat (first | (with_reducible first | exact HB.out | apply below_alloc | apply pw_below_drewN | apply below_drew1) | exact HB.out)⟩⟩
  case rest =>
    clear HC4
    try clear c1
    try clear p2
    try clear c4
    try clear c6
    obtain ⟨kq, x31_3, rfl, HA, HJ3, HB⟩ := hcut
    cases kq with
    | zero => exact absurd HA.out (by simp [drovewaylaw04_AmbushBegins.j0])
    | succ kj3 =>
      have H := HA.out
      clear HA
      simp only [drovewaylaw04_AmbushBegins.j0] at H
      by_cases c8 : x31_3 = true
      · subst c8
        have H1 : ((drovewaylaw04_alive.f kj3).bind fun t144 => (some t144)) = some r := by rw [if_pos rfl] at H; exact H
        clear H
        have H := H1
        clear H1
        replace H := Option.bind_eq_some_iff.mp H
        obtain ⟨t144, A90, H⟩ := H
        replace H : (some t144) = some r := H
        have A9 := Aside0.mk A90
        clear A90
        obtain rfl := Option.some.inj H
        go_wp2_with (first | ((with_reducible refine gate_callee (f := 12) rfl ?_); refine goesL_ (some 32) rfl rfl Try.func12 (by kernel_rfl) rfl #[] rfl (by (try simp only [List.map_toArray, List.map_cons, List.map_nil]); first | done | rfl | (simp only [List.length_drop, List.length_take]; rfl)) ?_; (with_reducible refine (drovewaylaw04_alive.calls kj3  t144 _ A9.out).mono ?_); rintro e w10 ⟨rfl, hb⟩; refine ⟨_, rfl, ?_⟩; have n0_ := Aside0.mk (below_step (by repeat (first | (with_reducible first | exact HB.out | apply below_alloc | apply pw_below_drewN | apply below_drew1) | exact HB.out)) hb); clear HB; have HB := n0_; clear n0_; (try clear hb); (try clear hb2); (try clear hk); (try clear hi)))
        go_ret
        exact ⟨by first | rfl | (simp [errW_none, errW_some] <;> rfl) | (simp [*, errW_none, errW_some] <;> rfl), by repeat (first | (with_reducible first | exact HB.out | apply below_alloc | apply pw_below_drewN | apply below_drew1) | exact HB.out)⟩
      · replace c8 := Bool.eq_false_iff.mpr c8
        subst c8
        have H1 : ((drovewayref04_Written.f kj3 a0 0 0).bind fun t145 => ((ambush_Guards.f a0 l1).bind fun bt146 => ((ambush_Winner.f a0 l1 t145 (⟨#[100]⟩ : ByteArray)).bind fun bt150 => ((ambush_Needs.f a0 l1).bind fun bt152 => (if bt146.2 = 0 then (if bt150.2 = 0 then (drovewaylaw04_AmbushBegins.j1 kj3 a0 l1 a2 t145 bt146.1 bt150.1 bt152.1 bt152.2 ((bt150.1.toList == ([100] : List UInt8)) != (decide ((bt146.1.length : Int) > 0)))) else (drovewaylaw04_AmbushBegins.j1 kj3 a0 l1 a2 t145 bt146.1 bt150.1 bt152.1 bt152.2 true)) else (drovewaylaw04_AmbushBegins.j1 kj3 a0 l1 a2 t145 bt146.1 bt150.1 bt152.1 bt152.2 true)))))) = some r := by rw [if_neg (show ¬ (false = true) by decide)] at H; exact H
        clear H
        have H := H1
        clear H1
        replace H := Option.bind_eq_some_iff.mp H
        obtain ⟨t145, A110, H⟩ := H
        replace H : ((ambush_Guards.f a0 l1).bind fun bt146 => ((ambush_Winner.f a0 l1 t145 (⟨#[100]⟩ : ByteArray)).bind fun bt150 => ((ambush_Needs.f a0 l1).bind fun bt152 => (if bt146.2 = 0 then (if bt150.2 = 0 then (drovewaylaw04_AmbushBegins.j1 kj3 a0 l1 a2 t145 bt146.1 bt150.1 bt152.1 bt152.2 ((bt150.1.toList == ([100] : List UInt8)) != (decide ((bt146.1.length : Int) > 0)))) else (drovewaylaw04_AmbushBegins.j1 kj3 a0 l1 a2 t145 bt146.1 bt150.1 bt152.1 bt152.2 true)) else (drovewaylaw04_AmbushBegins.j1 kj3 a0 l1 a2 t145 bt146.1 bt150.1 bt152.1 bt152.2 true))))) = some r := H
        have A11 := Aside0.mk A110
        clear A110
        replace H := Option.bind_eq_some_iff.mp H
        obtain ⟨⟨t146, t147⟩, A120, H⟩ := H
        replace H : ((ambush_Winner.f a0 l1 t145 (⟨#[100]⟩ : ByteArray)).bind fun bt150 => ((ambush_Needs.f a0 l1).bind fun bt152 => (if t147 = 0 then (if bt150.2 = 0 then (drovewaylaw04_AmbushBegins.j1 kj3 a0 l1 a2 t145 t146 bt150.1 bt152.1 bt152.2 ((bt150.1.toList == ([100] : List UInt8)) != (decide ((t146.length : Int) > 0)))) else (drovewaylaw04_AmbushBegins.j1 kj3 a0 l1 a2 t145 t146 bt150.1 bt152.1 bt152.2 true)) else (drovewaylaw04_AmbushBegins.j1 kj3 a0 l1 a2 t145 t146 bt150.1 bt152.1 bt152.2 true)))) = some r := H
        have A12 := Aside0.mk A120
        clear A120
        replace H := Option.bind_eq_some_iff.mp H
        obtain ⟨⟨t150, t151⟩, A130, H⟩ := H
        replace H : ((ambush_Needs.f a0 l1).bind fun bt152 => (if t147 = 0 then (if t151 = 0 then (drovewaylaw04_AmbushBegins.j1 kj3 a0 l1 a2 t145 t146 t150 bt152.1 bt152.2 ((t150.toList == ([100] : List UInt8)) != (decide ((t146.length : Int) > 0)))) else (drovewaylaw04_AmbushBegins.j1 kj3 a0 l1 a2 t145 t146 t150 bt152.1 bt152.2 true)) else (drovewaylaw04_AmbushBegins.j1 kj3 a0 l1 a2 t145 t146 t150 bt152.1 bt152.2 true))) = some r := H
        have A13 := Aside0.mk A130
        clear A130
        replace H := Option.bind_eq_some_iff.mp H
        obtain ⟨⟨t152, t153⟩, A140, H⟩ := H
        replace H : (if t147 = 0 then (if t151 = 0 then (drovewaylaw04_AmbushBegins.j1 kj3 a0 l1 a2 t145 t146 t150 t152 t153 ((t150.toList == ([100] : List UInt8)) != (decide ((t146.length : Int) > 0)))) else (drovewaylaw04_AmbushBegins.j1 kj3 a0 l1 a2 t145 t146 t150 t152 t153 true)) else (drovewaylaw04_AmbushBegins.j1 kj3 a0 l1 a2 t145 t146 t150 t152 t153 true)) = some r := H
        have A14 := Aside0.mk A140
        clear A140
        have HC15 := Aside0.mk H
        clear H
        go_upto_region 7 with (first | ((with_reducible refine gate_callee (f := 18) rfl ?_); refine goesL_ (some 34) rfl rfl Try.func18 (by kernel_rfl) rfl #[.int .i64 a0, .int .i64 0, .int .i64 0] rfl (by (try simp only [List.map_toArray, List.map_cons, List.map_nil]); first | done | rfl | (simp only [List.length_drop, List.length_take]; rfl)) ?_; (with_reducible refine (drovewayref04_Written.calls kj3 a0 0 0 t145 _ A11.out).mono ?_); rintro e w16 ⟨rfl, hb⟩; refine ⟨_, rfl, ?_⟩; have n0_ := Aside0.mk (below_step (by repeat (first | (with_reducible first | exact HB.out | apply below_alloc | apply pw_below_drewN | apply below_drew1) | exact HB.out)) hb); clear HB; have HB := n0_; clear n0_; (try clear hb); (try clear hb2); (try clear hk); (try clear hi)) | ((with_reducible refine gate_callee (f := 19) rfl ?_); refine goesL_ (some 38) rfl rfl Try.func19 (by kernel_rfl) rfl #[.int .i64 a0, .slice A1 l1.length c1] rfl (by (try simp only [List.map_toArray, List.map_cons, List.map_nil]); first | done | rfl | (simp only [List.length_drop, List.length_take]; rfl)) ?_; (with_reducible refine (ambush_Guards.calls a0 _ _ l1 t146 t147 _ ?side1 ?side2 A12.out).mono ?_); (case side1 => repeat (first | exact (Kd.C_below HR1.out HB.out) | (with_reducible refine Kd.C_alloc ?_ _) | (with_reducible refine Kd.C_drewN ?_ _) | (with_reducible refine Kd.C_drew ?_))); (case side2 => exact HC1.out); rintro e w17 ⟨v148, rfl, ho0, hb⟩; refine ⟨_, rfl, ?_⟩; have n0_ := Aside0.mk (Kd.R_lower ho0 (below_size (by repeat (first | (with_reducible first | exact HB.out | apply below_alloc | apply pw_below_drewN | apply below_drew1) | exact HB.out)))); have n1_ := Aside0.mk (below_step (by repeat (first | (with_reducible first | exact HB.out | apply below_alloc | apply pw_below_drewN | apply below_drew1) | exact HB.out)) hb); clear HB; have HO149 := n0_; have HB := n1_; clear n0_ n1_; (try clear hb); (try clear hb2); (try clear hk); (try clear hi); (try clear ho0)) | ((with_reducible refine gate_callee (f := 14) rfl ?_); refine goesL_ (some 45) rfl rfl Try.func14 (by kernel_rfl) rfl #[.int .i64 a0, .slice A1 l1.length c1, .string t145, .string (⟨#[100]⟩ : ByteArray)] rfl (by (try simp only [List.map_toArray, List.map_cons, List.map_nil]); first | done | rfl | (simp only [List.length_drop, List.length_take]; rfl)) ?_; (with_reducible refine (ambush_Winner.calls a0 _ _ l1 t145 (⟨#[100]⟩ : ByteArray) t150 t151 _ ?side1 ?side2 A13.out).mono ?_); (case side1 => repeat (first | exact (Kd.C_below HR1.out HB.out) | (with_reducible refine Kd.C_alloc ?_ _) | (with_reducible refine Kd.C_drewN ?_ _) | (with_reducible refine Kd.C_drew ?_))); (case side2 => exact HC1.out); rintro e w18 ⟨rfl, hb⟩; refine ⟨_, rfl, ?_⟩; have n0_ := Aside0.mk (Kd.R_below (by (with_reducible repeat (first | apply Kd.R_alloc | apply Kd.R_drewN | apply Kd.R_drew)); exact HO149.out) hb); have n1_ := Aside0.mk (below_step (by repeat (first | (with_reducible first | exact HB.out | apply below_alloc | apply pw_below_drewN | apply below_drew1) | exact HB.out)) hb); clear HO149; clear HB; have HO149 := n0_; have HB := n1_; clear n0_ n1_; (try clear hb); (try clear hb2); (try clear hk); (try clear hi)) | ((with_reducible refine gate_callee (f := 20) rfl ?_); refine goesL_ (some 51) rfl rfl Try.func20 (by kernel_rfl) rfl #[.int .i64 a0, .slice A1 l1.length c1] rfl (by (try simp only [List.map_toArray, List.map_cons, List.map_nil]); first | done | rfl | (simp only [List.length_drop, List.length_take]; rfl)) ?_; (with_reducible refine (ambush_Needs.calls a0 _ _ l1 t152 t153 _ ?side1 ?side2 A14.out).mono ?_); (case side1 => repeat (first | exact (Kd.C_below HR1.out HB.out) | (with_reducible refine Kd.C_alloc ?_ _) | (with_reducible refine Kd.C_drewN ?_ _) | (with_reducible refine Kd.C_drew ?_))); (case side2 => exact HC1.out); rintro e w19 ⟨rfl, hb⟩; refine ⟨_, rfl, ?_⟩; have n0_ := Aside0.mk (Kd.R_below (by (with_reducible repeat (first | apply Kd.R_alloc | apply Kd.R_drewN | apply Kd.R_drew)); exact HO149.out) hb); have n1_ := Aside0.mk (below_step (by repeat (first | (with_reducible first | exact HB.out | apply below_alloc | apply pw_below_drewN | apply below_drew1) | exact HB.out)) hb); clear HO149; clear HB; have HO149 := n0_; have HB := n1_; clear n0_ n1_; (try clear hb); (try clear hb2); (try clear hk); (try clear hi)))
        (try simp only [Act.put, List.setIfInBounds_toArray, List.set_cons_zero, List.set_cons_succ])
        go_cut [67] (fun v67 wc => ∃ (kq : Nat) (x67_14 : Bool), v67 = .bool x67_14 ∧ Aside0 (drovewaylaw04_AmbushBegins.j1 kq a0 l1 a2 t145 t146 t150 t152 t153 x67_14 = some r) ∧ Aside0 (kq ≤ kj3) ∧ Aside0 (Kd.R (Kd.int .i64) 3 wc w.heap.size (fun _ => True) v148 t146) ∧ Aside0 (Below w.heap.size w wc))
        case first =>
          have H := HC15.out
          clear HC15
          by_cases c20 : t147 = 0
          · rw [if_pos c20] at H
            have c20b0 : (t147 == 0) = true := beq_iff_eq.mpr c20
            have c20b1 : (t147 != 0) = false := bne_eq_false_iff_eq.mpr c20
            clear c20
            (first | rw [c20b0] | (simp only [i64_w, i32_w]; rw [c20b0]) | skip)
            by_cases c21 : t151 = 0
            · rw [if_pos c21] at H
              have c21b0 : (t151 == 0) = true := beq_iff_eq.mpr c21
              have c21b1 : (t151 != 0) = false := bne_eq_false_iff_eq.mpr c21
              clear c21
              have H' := Aside0.mk H
              clear H
              obtain ⟨Ao22, co22, eo22⟩ := Kd.R_slice HO149.out
              subst eo22
              go_wp2
              go_meet
              case rel => exact ⟨_, (((t150.toList == ([100] : List UInt8)) != (decide ((t146.length : Int) > 0)))), (by first | rfl | (simp; done) | (simp [*]; done) | (simp; exact beq_not_bne _ _)), H', ⟨by have := HJ3.out; first | omega | exact Nat.le_refl _⟩, ⟨by (with_reducible repeat (first | apply Kd.R_alloc | apply Kd.R_drewN | apply Kd.R_drew)); exact HO149.out⟩, ⟨by repeat (first | (with_reducible first | exact HB.out | apply below_alloc | apply pw_below_drewN | apply below_drew1) | exact HB.out)⟩⟩
            · rw [if_neg c21] at H
              have c21b0 : (t151 == 0) = false := beq_eq_false_iff_ne.mpr c21
              have c21b1 : (t151 != 0) = true := bne_iff_ne.mpr c21
              have H' := Aside0.mk H
              clear H
              go_wp2
              go_meet
              case rel => exact ⟨_, (true), (by first | rfl | (simp; done) | (simp [*]; done)), H', ⟨by have := HJ3.out; first | omega | exact Nat.le_refl _⟩, ⟨by (with_reducible repeat (first | apply Kd.R_alloc | apply Kd.R_drewN | apply Kd.R_drew)); exact HO149.out⟩, ⟨by repeat (first | (with_reducible first | exact HB.out | apply below_alloc | apply pw_below_drewN | apply below_drew1) | exact HB.out)⟩⟩
          · rw [if_neg c20] at H
            have c20b0 : (t147 == 0) = false := beq_eq_false_iff_ne.mpr c20
            have c20b1 : (t147 != 0) = true := bne_iff_ne.mpr c20
            (first | rw [c20b0] | (simp only [i64_w, i32_w]; rw [c20b0]) | skip)
            have H' := Aside0.mk H
            clear H
            go_wp2
            go_meet
            case rel => exact ⟨_, (true), (by first | rfl | (simp; done) | (simp [*]; done)), H', ⟨by have := HJ3.out; first | omega | exact Nat.le_refl _⟩, ⟨by (with_reducible repeat (first | apply Kd.R_alloc | apply Kd.R_drewN | apply Kd.R_drew)); exact HO149.out⟩, ⟨by repeat (first | (with_reducible first | exact HB.out | apply below_alloc | apply pw_below_drewN | apply below_drew1) | exact HB.out)⟩⟩
        case rest =>
          clear HC15
          try clear c1
          try clear c2
          try clear p2
          try clear c4
          try clear c6
          try clear c8
          try clear c11
          try clear c12
          try clear c14
          try clear c18
          try clear c19
          try clear c20
          try clear c20b0
          try clear c20b1
          try clear c21
          try clear c21b0
          try clear c21b1
          try clear p2
          obtain ⟨kq, x67_14, rfl, HA, HJ14, HO_8, HB⟩ := hcut
          cases kq with
          | zero => exact absurd HA.out (by simp [drovewaylaw04_AmbushBegins.j1])
          | succ kj14 =>
            have H := HA.out
            clear HA
            simp only [drovewaylaw04_AmbushBegins.j1] at H
            by_cases c23 : x67_14 = true
            · subst c23
              have H1 : (some false) = some r := by rw [if_pos rfl] at H; exact H
              clear H
              have H := H1
              clear H1
              obtain rfl := Option.some.inj H
              go_wp2
              go_ret
              exact ⟨by first | rfl | (simp [errW_none, errW_some] <;> rfl) | (simp [*, errW_none, errW_some] <;> rfl), by repeat (first | (with_reducible first | exact HB.out | apply below_alloc | apply pw_below_drewN | apply below_drew1) | exact HB.out)⟩
            · replace c23 := Bool.eq_false_iff.mpr c23
              subst c23
              have H1 : (drovewaylaw04_AmbushBegins.l0 kj14 a0 l1 a2 t145 t146 t150 t152 t153 0 0) = some r := by rw [if_neg (show ¬ (false = true) by decide)] at H; exact H
              clear H
              have H := H1
              clear H1
              have H' := Aside0.mk H
              clear H
              go_wp2
              go_loopg [14, 15] kj14 (fun kq v14 v15 w' => ∃ (x14_3 : Int) (x15_3 : Int), v14 = .int .i64 x14_3 ∧ v15 = .int .i64 x15_3 ∧ Aside0 (drovewaylaw04_AmbushBegins.l0 kq a0 l1 a2 t145 t146 t150 t152 t153 x14_3 x15_3 = some r) ∧ Aside0 (kq ≤ kj14) ∧ Aside0 (Kd.R (Kd.int .i64) 3 w' w.heap.size (fun _ => True) v148 t146) ∧ Aside0 (Below w.heap.size w w'))
              case atStart => exact ⟨(0), (0), (by first | rfl | (simp; done) | (simp [*]; done)), (by first | rfl | (simp; done) | (simp [*]; done)), H', ⟨Nat.le_refl _⟩, ⟨by (with_reducible repeat (first | apply Kd.R_alloc | apply Kd.R_drewN | apply Kd.R_drew)); exact HO_8.out⟩, ⟨by repeat (first | (with_reducible first | exact HB.out | apply below_alloc | apply pw_below_drewN | apply below_drew1) | exact HB.out)⟩⟩
              case round =>
                clear H'
                try clear c1
                try clear c2
                try clear p2
                try clear c4
                try clear c6
                try clear c8
                try clear c11
                try clear c12
                try clear c14
                try clear c18
                try clear c19
                try clear c20
                try clear c20b0
                try clear c20b1
                try clear c21
                try clear c21b0
                try clear c21b1
                try clear c23
                try clear p2
                obtain ⟨x14_3, x15_3, rfl, rfl, HA, HK3, HO_8, HB⟩ := hrel
                cases gk with
                | zero => exact absurd HA.out (by simp [drovewaylaw04_AmbushBegins.l0])
                | succ k3 =>
                  have H := HA.out
                  clear HA
                  simp only [drovewaylaw04_AmbushBegins.l0] at H
                  by_cases c24 : x15_3 < a0
                  · rw [if_pos c24] at H
                    have c24b0 : decide (x15_3 < a0) = true := decide_eq_true c24
                    clear c24
                    replace H := Option.bind_eq_some_iff.mp H
                    obtain ⟨t154, A250, H⟩ := H
                    replace H : ((ambush_Winner.f a0 l1 t154 (⟨#[119]⟩ : ByteArray)).bind fun bt155 => (if x14_3 < (t146.length : Int) then (if 0 ≤ x14_3 then (drovewaylaw04_AmbushBegins.j3 k3 a0 l1 a2 t145 t146 t150 t152 t153 x14_3 x15_3 bt155.1 bt155.2 ((rd t146 x14_3) == x15_3)) else (none)) else (drovewaylaw04_AmbushBegins.j3 k3 a0 l1 a2 t145 t146 t150 t152 t153 x14_3 x15_3 bt155.1 bt155.2 false))) = some r := H
                    have A25 := Aside0.mk A250
                    clear A250
                    replace H := Option.bind_eq_some_iff.mp H
                    obtain ⟨⟨t155, t156⟩, A260, H⟩ := H
                    replace H : (if x14_3 < (t146.length : Int) then (if 0 ≤ x14_3 then (drovewaylaw04_AmbushBegins.j3 k3 a0 l1 a2 t145 t146 t150 t152 t153 x14_3 x15_3 t155 t156 ((rd t146 x14_3) == x15_3)) else (none)) else (drovewaylaw04_AmbushBegins.j3 k3 a0 l1 a2 t145 t146 t150 t152 t153 x14_3 x15_3 t155 t156 false)) = some r := H
                    have A26 := Aside0.mk A260
                    clear A260
                    have HC27 := Aside0.mk H
                    clear H
                    go_upto_region 14 with (first | ((with_reducible refine gate_callee (f := 15) rfl ?_); refine goesL_ (some 78) rfl rfl Try.func15 (by kernel_rfl) rfl #[.string t145, .int .i64 x15_3, .int .u8 100] rfl (by (try simp only [List.map_toArray, List.map_cons, List.map_nil]); first | done | rfl | (simp only [List.length_drop, List.length_take]; rfl)) ?_; (with_reducible refine (drovewaylaw04_placed.calls t145 x15_3 100 t154 _ A25.out).mono ?_); rintro e w28 ⟨rfl, hb⟩; refine ⟨_, rfl, ?_⟩; have n0_ := Aside0.mk (Kd.R_below (by (with_reducible repeat (first | apply Kd.R_alloc | apply Kd.R_drewN | apply Kd.R_drew)); exact HO_8.out) hb); have n1_ := Aside0.mk (below_step (by repeat (first | (with_reducible first | exact HB.out | apply below_alloc | apply pw_below_drewN | apply below_drew1) | exact HB.out)) hb); clear HO_8; clear HB; have HO_8 := n0_; have HB := n1_; clear n0_ n1_; (try clear hb); (try clear hb2); (try clear hk); (try clear hi)) | ((with_reducible refine gate_callee (f := 14) rfl ?_); refine goesL_ (some 79) rfl rfl Try.func14 (by kernel_rfl) rfl #[.int .i64 a0, .slice A1 l1.length c1, .string t154, .string (⟨#[119]⟩ : ByteArray)] rfl (by (try simp only [List.map_toArray, List.map_cons, List.map_nil]); first | done | rfl | (simp only [List.length_drop, List.length_take]; rfl)) ?_; (with_reducible refine (ambush_Winner.calls a0 _ _ l1 t154 (⟨#[119]⟩ : ByteArray) t155 t156 _ ?side1 ?side2 A26.out).mono ?_); (case side1 => repeat (first | exact (Kd.C_below HR1.out HB.out) | (with_reducible refine Kd.C_alloc ?_ _) | (with_reducible refine Kd.C_drewN ?_ _) | (with_reducible refine Kd.C_drew ?_))); (case side2 => exact HC1.out); rintro e w29 ⟨rfl, hb⟩; refine ⟨_, rfl, ?_⟩; have n0_ := Aside0.mk (Kd.R_below (by (with_reducible repeat (first | apply Kd.R_alloc | apply Kd.R_drewN | apply Kd.R_drew)); exact HO_8.out) hb); have n1_ := Aside0.mk (below_step (by repeat (first | (with_reducible first | exact HB.out | apply below_alloc | apply pw_below_drewN | apply below_drew1) | exact HB.out)) hb); clear HO_8; clear HB; have HO_8 := n0_; have HB := n1_; clear n0_ n1_; (try clear hb); (try clear hb2); (try clear hk); (try clear hi)))
                    (try simp only [Act.put, List.setIfInBounds_toArray, List.set_cons_zero, List.set_cons_succ])
                    go_cut [18] (fun v18 wc => ∃ (kq : Nat) (x18_26 : Bool), v18 = .bool x18_26 ∧ Aside0 (drovewaylaw04_AmbushBegins.j3 kq a0 l1 a2 t145 t146 t150 t152 t153 x14_3 x15_3 t155 t156 x18_26 = some r) ∧ Aside0 (kq ≤ k3) ∧ Aside0 (Kd.R (Kd.int .i64) 3 wc w.heap.size (fun _ => True) v148 t146) ∧ Aside0 (Below w.heap.size w wc))
                    case first =>
                      have H := HC27.out
                      clear HC27
                      by_cases c30 : x14_3 < (t146.length : Int)
                      · rw [if_pos c30] at H
                        have c30b0 : decide (x14_3 < (t146.length : Int)) = true := decide_eq_true c30
                        clear c30
                        (first | rw [c30b0] | (simp only [i64_w, i32_w]; rw [c30b0]) | skip)
                        by_cases c31 : 0 ≤ x14_3
                        · rw [if_pos c31] at H
                          have c31b0 : decide (0 ≤ x14_3) = true := decide_eq_true c31
                          clear c31
                          have H' := Aside0.mk H
                          clear H
                          obtain ⟨Ao32, co32, eo32⟩ := Kd.R_slice HO_8.out
                          subst eo32
                          have p157 : 0 ≤ (x14_3 : Int) := of_decide_eq_true (by first | (with_reducible assumption) | assumption)
                          have q157 : x14_3 < (t146.length : Int) := of_decide_eq_true (by first | (with_reducible assumption) | assumption)
                          obtain ⟨ad157, e157, hx157_0⟩ := Kd.at_int (Kd.R_reads' HO_8.out).2.2 x14_3 p157 q157
                          cases e157
                          replace p157 := eq_true p157
                          replace q157 := eq_true q157
                          go_wp2
                          go_meet
                          case rel => exact ⟨_, (((rd t146 x14_3) == x15_3)), (by first | rfl | (simp; done) | (simp [*]; done)), H', ⟨by have := HJ3.out; have := HJ14.out; have := HK3.out; first | omega | exact Nat.le_refl _⟩, ⟨by (with_reducible repeat (first | apply Kd.R_alloc | apply Kd.R_drewN | apply Kd.R_drew)); exact HO_8.out⟩, ⟨by repeat (first | (with_reducible first | exact HB.out | apply below_alloc | apply pw_below_drewN | apply below_drew1) | exact HB.out)⟩⟩
                        · rw [if_neg c31] at H
                          exact absurd H (by simp)
                      · rw [if_neg c30] at H
                        have c30b0 : decide (x14_3 < (t146.length : Int)) = false := decide_eq_false c30
                        clear c30
                        (first | rw [c30b0] | (simp only [i64_w, i32_w]; rw [c30b0]) | skip)
                        have H' := Aside0.mk H
                        clear H
                        obtain ⟨Ao33, co33, eo33⟩ := Kd.R_slice HO_8.out
                        subst eo33
                        go_wp2
                        go_meet
                        case rel => exact ⟨_, (false), (by first | rfl | (simp; done) | (simp [*]; done)), H', ⟨by have := HJ3.out; have := HJ14.out; have := HK3.out; first | omega | exact Nat.le_refl _⟩, ⟨by (with_reducible repeat (first | apply Kd.R_alloc | apply Kd.R_drewN | apply Kd.R_drew)); exact HO_8.out⟩, ⟨by repeat (first | (with_reducible first | exact HB.out | apply below_alloc | apply pw_below_drewN | apply below_drew1) | exact HB.out)⟩⟩
                    case rest =>
                      clear HC27
                      try clear c1
                      try clear p1
                      try clear q1
                      try clear hx1
                      try clear c2
                      try clear p2
                      try clear c3
                      try clear c4
                      try clear c6
                      try clear c8
                      try clear c11
                      try clear c12
                      try clear c14
                      try clear c15
                      try clear p15
                      try clear q15
                      try clear hx15
                      try clear c18
                      try clear c19
                      try clear c20
                      try clear c20b0
                      try clear c20b1
                      try clear c21
                      try clear c21b0
                      try clear c21b1
                      try clear c23
                      try clear c24
                      try clear c24b0
                      try clear c30
                      try clear c30b0
                      try clear c31
                      try clear c31b0
                      try clear hx157_0
                      try clear p157
                      try clear p2
                      try clear q157
                      obtain ⟨kq, x18_26, rfl, HA, HJ26, HO_8, HB⟩ := hcut
                      cases kq with
                      | zero => exact absurd HA.out (by simp [drovewaylaw04_AmbushBegins.j3])
                      | succ kj26 =>
                        have H := HA.out
                        clear HA
                        simp only [drovewaylaw04_AmbushBegins.j3] at H
                        by_cases c34 : x18_26 = true
                        · subst c34
                          have H1 : (if t156 = 0 then (if (true != (t155.toList == ([100] : List UInt8))) = true then (some false) else (drovewaylaw04_AmbushBegins.l0 kj26 a0 l1 a2 t145 t146 t150 t152 t153 (wrap64 (x14_3 + 1)) (wrap64 (x15_3 + 1)))) else (some false)) = some r := by rw [if_pos rfl] at H; exact H
                          clear H
                          have H := H1
                          clear H1
                          by_cases c35 : t156 = 0
                          · rw [if_pos c35] at H
                            have c35b0 : (t156 == 0) = true := beq_iff_eq.mpr c35
                            have c35b1 : (t156 != 0) = false := bne_eq_false_iff_eq.mpr c35
                            clear c35
                            by_cases c36 : (true != (t155.toList == ([100] : List UInt8))) = true
                            · rw [if_pos c36] at H
                              have c36b0 : (true != (t155.toList == ([100] : List UInt8))) = true := c36
                              (try (have c36b1 : decide (true = (t155.toList == ([100] : List UInt8))) = false := by simpa using c36))
                              (try (have c36b2 : (true == (t155.toList == ([100] : List UInt8))) = false := by simpa using c36))
                              (try (have c36b3 : ¬ (true = (t155.toList == ([100] : List UInt8))) := by simpa using c36))
                              clear c36
                              obtain rfl := Option.some.inj H
                              go_wp2
                              go_ret
                              exact ⟨by first | rfl | (simp [errW_none, errW_some] <;> rfl) | (simp [*, errW_none, errW_some] <;> rfl), by repeat (first | (with_reducible first | exact HB.out | apply below_alloc | apply pw_below_drewN | apply below_drew1) | exact HB.out)⟩
                            · rw [if_neg c36] at H
                              have c36b0 : (true != (t155.toList == ([100] : List UInt8))) = false := by simpa using c36
                              (try (have c36b1 : decide (true = (t155.toList == ([100] : List UInt8))) = true := by simpa using c36))
                              (try (have c36b2 : (true == (t155.toList == ([100] : List UInt8))) = true := by simpa using c36))
                              clear c36
                              have H' := Aside0.mk H
                              clear H
                              go_wp2
                              go_roundg kj26
                              case measure => have := HJ3.out; have := HJ14.out; have := HK3.out; have := HJ26.out; omega
                              case rel => exact ⟨(wrap64 (x14_3 + 1)), (wrap64 (x15_3 + 1)), (by first | rfl | (simp; done) | (simp [*]; done)), (by first | rfl | (simp; done) | (simp [*]; done)), H', ⟨by have := HJ3.out; have := HJ14.out; have := HK3.out; have := HJ26.out; omega⟩, ⟨by (with_reducible repeat (first | apply Kd.R_alloc | apply Kd.R_drewN | apply Kd.R_drew)); exact HO_8.out⟩, ⟨by repeat (first | (with_reducible first | exact HB.out | apply below_alloc | apply pw_below_drewN | apply below_drew1) | exact HB.out)⟩⟩
                          · rw [if_neg c35] at H
                            have c35b0 : (t156 == 0) = false := beq_eq_false_iff_ne.mpr c35
                            have c35b1 : (t156 != 0) = true := bne_iff_ne.mpr c35
                            obtain rfl := Option.some.inj H
                            go_wp2
                            go_ret
                            exact ⟨by first | rfl | (simp [errW_none, errW_some] <;> rfl) | (simp [*, errW_none, errW_some] <;> rfl), by repeat (first | (with_reducible first | exact HB.out | apply below_alloc | apply pw_below_drewN | apply below_drew1) | exact HB.out)⟩
                        · replace c34 := Bool.eq_false_iff.mpr c34
                          subst c34
                          have H1 : (if t156 = 0 then (if (false != (t155.toList == ([100] : List UInt8))) = true then (some false) else (drovewaylaw04_AmbushBegins.l0 kj26 a0 l1 a2 t145 t146 t150 t152 t153 x14_3 (wrap64 (x15_3 + 1)))) else (some false)) = some r := by rw [if_neg (show ¬ (false = true) by decide)] at H; exact H
                          clear H
                          have H := H1
                          clear H1
                          by_cases c37 : t156 = 0
                          · rw [if_pos c37] at H
                            have c37b0 : (t156 == 0) = true := beq_iff_eq.mpr c37
                            have c37b1 : (t156 != 0) = false := bne_eq_false_iff_eq.mpr c37
                            clear c37
                            by_cases c38 : (false != (t155.toList == ([100] : List UInt8))) = true
                            · rw [if_pos c38] at H
                              have c38b0 : (false != (t155.toList == ([100] : List UInt8))) = true := c38
                              (try (have c38b1 : decide (false = (t155.toList == ([100] : List UInt8))) = false := by simpa using c38))
                              (try (have c38b2 : (false == (t155.toList == ([100] : List UInt8))) = false := by simpa using c38))
                              (try (have c38b3 : ¬ (false = (t155.toList == ([100] : List UInt8))) := by simpa using c38))
                              clear c38
                              obtain rfl := Option.some.inj H
                              go_wp2
                              go_ret
                              exact ⟨by first | rfl | (simp [errW_none, errW_some] <;> rfl) | (simp [*, errW_none, errW_some] <;> rfl), by repeat (first | (with_reducible first | exact HB.out | apply below_alloc | apply pw_below_drewN | apply below_drew1) | exact HB.out)⟩
                            · rw [if_neg c38] at H
                              have c38b0 : (false != (t155.toList == ([100] : List UInt8))) = false := by simpa using c38
                              (try (have c38b1 : decide (false = (t155.toList == ([100] : List UInt8))) = true := by simpa using c38))
                              (try (have c38b2 : (false == (t155.toList == ([100] : List UInt8))) = true := by simpa using c38))
                              clear c38
                              have H' := Aside0.mk H
                              clear H
                              go_wp2
                              go_roundg kj26
                              case measure => have := HJ3.out; have := HJ14.out; have := HK3.out; have := HJ26.out; omega
                              case rel => exact ⟨(x14_3), (wrap64 (x15_3 + 1)), (by first | rfl | (simp; done) | (simp [*]; done)), (by first | rfl | (simp; done) | (simp [*]; done)), H', ⟨by have := HJ3.out; have := HJ14.out; have := HK3.out; have := HJ26.out; omega⟩, ⟨by (with_reducible repeat (first | apply Kd.R_alloc | apply Kd.R_drewN | apply Kd.R_drew)); exact HO_8.out⟩, ⟨by repeat (first | (with_reducible first | exact HB.out | apply below_alloc | apply pw_below_drewN | apply below_drew1) | exact HB.out)⟩⟩
                          · rw [if_neg c37] at H
                            have c37b0 : (t156 == 0) = false := beq_eq_false_iff_ne.mpr c37
                            have c37b1 : (t156 != 0) = true := bne_iff_ne.mpr c37
                            obtain rfl := Option.some.inj H
                            go_wp2
                            go_ret
                            exact ⟨by first | rfl | (simp [errW_none, errW_some] <;> rfl) | (simp [*, errW_none, errW_some] <;> rfl), by repeat (first | (with_reducible first | exact HB.out | apply below_alloc | apply pw_below_drewN | apply below_drew1) | exact HB.out)⟩
                  · rw [if_neg c24] at H
                    have c24b0 : decide (x15_3 < a0) = false := decide_eq_false c24
                    clear c24
                    by_cases c39 : x14_3 = (t146.length : Int)
                    · rw [if_pos c39] at H
                      have c39b0 : (x14_3 == (t146.length : Int)) = true := beq_iff_eq.mpr c39
                      have c39b1 : (x14_3 != (t146.length : Int)) = false := bne_eq_false_iff_eq.mpr c39
                      clear c39
                      by_cases c40 : (l1.length : Int) = 0
                      · rw [if_pos c40] at H
                        have c40b0 : ((l1.length : Int) == 0) = true := beq_iff_eq.mpr c40
                        have c40b1 : ((l1.length : Int) != 0) = false := bne_eq_false_iff_eq.mpr c40
                        clear c40
                        by_cases c41 : t153 = 10
                        · rw [if_pos c41] at H
                          have c41b0 : (t153 == 10) = true := beq_iff_eq.mpr c41
                          have c41b1 : (t153 != 10) = false := bne_eq_false_iff_eq.mpr c41
                          clear c41
                          by_cases c42 : t152 = 0
                          · rw [if_pos c42] at H
                            have c42b0 : (t152 == 0) = true := beq_iff_eq.mpr c42
                            have c42b1 : (t152 != 0) = false := bne_eq_false_iff_eq.mpr c42
                            clear c42
                            replace H := Option.bind_eq_some_iff.mp H
                            obtain ⟨t158, A430, H⟩ := H
                            replace H : (some t158) = some r := H
                            have A43 := Aside0.mk A430
                            clear A430
                            obtain rfl := Option.some.inj H
                            obtain ⟨Ao44, co44, eo44⟩ := Kd.R_slice HO_8.out
                            subst eo44
                            go_wp2_with (first | (go_at_call 12; (with_reducible refine (drovewaylaw04_alive.calls k3  t158 _ A43.out).mono ?_); rintro e w45 ⟨rfl, hb⟩; have n0_ := Aside0.mk (Kd.R_below (by (with_reducible repeat (first | apply Kd.R_alloc | apply Kd.R_drewN | apply Kd.R_drew)); exact HO_8.out) hb); have n1_ := Aside0.mk (below_step (by repeat (first | (with_reducible first | exact HB.out | apply below_alloc | apply pw_below_drewN | apply below_drew1) | exact HB.out)) hb); clear HO_8; clear HB; have HO_8 := n0_; have HB := n1_; clear n0_ n1_; (try clear hb); (try clear hb2); (try clear hk); (try clear hi)))
                            go_ret
                            exact ⟨by first | rfl | (simp [errW_none, errW_some] <;> rfl) | (simp [*, errW_none, errW_some] <;> rfl), by repeat (first | (with_reducible first | exact HB.out | apply below_alloc | apply pw_below_drewN | apply below_drew1) | exact HB.out)⟩
                          · rw [if_neg c42] at H
                            have c42b0 : (t152 == 0) = false := beq_eq_false_iff_ne.mpr c42
                            have c42b1 : (t152 != 0) = true := bne_iff_ne.mpr c42
                            obtain rfl := Option.some.inj H
                            obtain ⟨Ao46, co46, eo46⟩ := Kd.R_slice HO_8.out
                            subst eo46
                            go_wp2
                            go_ret
                            exact ⟨by first | rfl | (simp [errW_none, errW_some] <;> rfl) | (simp [*, errW_none, errW_some] <;> rfl), by repeat (first | (with_reducible first | exact HB.out | apply below_alloc | apply pw_below_drewN | apply below_drew1) | exact HB.out)⟩
                        · rw [if_neg c41] at H
                          have c41b0 : (t153 == 10) = false := beq_eq_false_iff_ne.mpr c41
                          have c41b1 : (t153 != 10) = true := bne_iff_ne.mpr c41
                          obtain rfl := Option.some.inj H
                          obtain ⟨Ao47, co47, eo47⟩ := Kd.R_slice HO_8.out
                          subst eo47
                          go_wp2
                          go_ret
                          exact ⟨by first | rfl | (simp [errW_none, errW_some] <;> rfl) | (simp [*, errW_none, errW_some] <;> rfl), by repeat (first | (with_reducible first | exact HB.out | apply below_alloc | apply pw_below_drewN | apply below_drew1) | exact HB.out)⟩
                      · rw [if_neg c40] at H
                        have c40b0 : ((l1.length : Int) == 0) = false := beq_eq_false_iff_ne.mpr c40
                        have c40b1 : ((l1.length : Int) != 0) = true := bne_iff_ne.mpr c40
                        have c40b2 : ¬ (l1 = []) := fun h_ => c40 (by rw [h_]; rfl)
                        have HC48 := Aside0.mk H
                        clear H
                        obtain ⟨Ao49, co49, eo49⟩ := Kd.R_slice HO_8.out
                        subst eo49
                        go_upto_region 23 with (fail)
                        go_cut [138] (fun v138 wc => ∃ (kq : Nat) (x138_47 : Bool), v138 = .bool x138_47 ∧ Aside0 (drovewaylaw04_AmbushBegins.j4 kq a0 l1 a2 t152 x138_47 = some r) ∧ Aside0 (kq ≤ k3) ∧ Aside0 (Below w.heap.size w wc))
                        case first =>
                          have H := HC48.out
                          clear HC48
                          by_cases c50 : t153 = 0
                          · rw [if_pos c50] at H
                            have c50b0 : (t153 == 0) = true := beq_iff_eq.mpr c50
                            have c50b1 : (t153 != 0) = false := bne_eq_false_iff_eq.mpr c50
                            clear c50
                            (first | rw [c50b0] | (simp only [i64_w, i32_w]; rw [c50b0]) | skip)
                            by_cases c51 : t152 < 0
                            · rw [if_pos c51] at H
                              have c51b0 : decide (t152 < 0) = true := decide_eq_true c51
                              clear c51
                              have H' := Aside0.mk H
                              clear H
                              go_wp2
                              go_meet
                              case rel => exact ⟨_, (true), (by first | rfl | (simp; done) | (simp [*]; done)), H', ⟨by have := HJ3.out; have := HJ14.out; have := HK3.out; first | omega | exact Nat.le_refl _⟩, ⟨by repeat (first | (with_reducible first | exact HB.out | apply below_alloc | apply pw_below_drewN | apply below_drew1) | exact HB.out)⟩⟩
                            · rw [if_neg c51] at H
                              have c51b0 : decide (t152 < 0) = false := decide_eq_false c51
                              clear c51
                              by_cases c52 : t152 > a0
                              · rw [if_pos c52] at H
                                have c52b0 : decide (a0 < t152) = true := decide_eq_true c52
                                clear c52
                                have H' := Aside0.mk H
                                clear H
                                go_wp2
                                go_meet
                                case rel => exact ⟨_, (true), (by first | rfl | (simp; done) | (simp [*]; done)), H', ⟨by have := HJ3.out; have := HJ14.out; have := HK3.out; first | omega | exact Nat.le_refl _⟩, ⟨by repeat (first | (with_reducible first | exact HB.out | apply below_alloc | apply pw_below_drewN | apply below_drew1) | exact HB.out)⟩⟩
                              · rw [if_neg c52] at H
                                have c52b0 : decide (a0 < t152) = false := decide_eq_false c52
                                clear c52
                                have H' := Aside0.mk H
                                clear H
                                go_wp2
                                go_meet
                                case rel => exact ⟨_, (((t152 == 0) != (t150.toList == ([119] : List UInt8)))), (by first | rfl | (simp; done) | (simp [*]; done)), H', ⟨by have := HJ3.out; have := HJ14.out; have := HK3.out; first | omega | exact Nat.le_refl _⟩, ⟨by repeat (first | (with_reducible first | exact HB.out | apply below_alloc | apply pw_below_drewN | apply below_drew1) | exact HB.out)⟩⟩
                          · rw [if_neg c50] at H
                            have c50b0 : (t153 == 0) = false := beq_eq_false_iff_ne.mpr c50
                            have c50b1 : (t153 != 0) = true := bne_iff_ne.mpr c50
                            (first | rw [c50b0] | (simp only [i64_w, i32_w]; rw [c50b0]) | skip)
                            have H' := Aside0.mk H
                            clear H
                            go_wp2
                            go_meet
                            case rel => exact ⟨_, (true), (by first | rfl | (simp; done) | (simp [*]; done)), H', ⟨by have := HJ3.out; have := HJ14.out; have := HK3.out; first | omega | exact Nat.le_refl _⟩, ⟨by repeat (first | (with_reducible first | exact HB.out | apply below_alloc | apply pw_below_drewN | apply below_drew1) | exact HB.out)⟩⟩
                        case rest =>
                          clear HC48
                          try clear c1
                          try clear p1
                          try clear q1
                          try clear hx1
                          try clear c2
                          try clear p2
                          try clear c3
                          try clear c4
                          try clear c5
                          try clear c6
                          try clear p6
                          try clear c8
                          try clear c11
                          try clear c12
                          try clear c14
                          try clear c15
                          try clear p15
                          try clear q15
                          try clear hx15
                          try clear c18
                          try clear c19
                          try clear c20
                          try clear c20b0
                          try clear c20b1
                          try clear c21
                          try clear c21b0
                          try clear c21b1
                          try clear c23
                          try clear c24
                          try clear c24b0
                          try clear c30
                          try clear c30b0
                          try clear c31
                          try clear c31b0
                          try clear c34
                          try clear c35
                          try clear c35b0
                          try clear c35b1
                          try clear c36
                          try clear c36b0
                          try clear c36b1
                          try clear c36b2
                          try clear c37
                          try clear c37b0
                          try clear c37b1
                          try clear c38
                          try clear c38b0
                          try clear c38b1
                          try clear c38b2
                          try clear c39
                          try clear c39b0
                          try clear c39b1
                          try clear c40
                          try clear c40b0
                          try clear c40b1
                          try clear c40b2
                          try clear c41
                          try clear c41b0
                          try clear c41b1
                          try clear c42
                          try clear c42b0
                          try clear c42b1
                          try clear c50
                          try clear c50b0
                          try clear c50b1
                          try clear c51
                          try clear c51b0
                          try clear c52
                          try clear c52b0
                          try clear hx157_0
                          try clear p1
                          try clear p15
                          try clear p157
                          try clear p2
                          try clear q1
                          try clear q15
                          try clear q157
                          obtain ⟨kq, x138_47, rfl, HA, HJ47, HB⟩ := hcut
                          cases kq with
                          | zero => exact absurd HA.out (by simp [drovewaylaw04_AmbushBegins.j4])
                          | succ kj47 =>
                            have H := HA.out
                            clear HA
                            simp only [drovewaylaw04_AmbushBegins.j4] at H
                            by_cases c53 : x138_47 = true
                            · subst c53
                              have H1 : (some false) = some r := by rw [if_pos rfl] at H; exact H
                              clear H
                              have H := H1
                              clear H1
                              obtain rfl := Option.some.inj H
                              go_wp2
                              go_ret
                              exact ⟨by first | rfl | (simp [errW_none, errW_some] <;> rfl) | (simp [*, errW_none, errW_some] <;> rfl), by repeat (first | (with_reducible first | exact HB.out | apply below_alloc | apply pw_below_drewN | apply below_drew1) | exact HB.out)⟩
                            · replace c53 := Bool.eq_false_iff.mpr c53
                              subst c53
                              have H1 : (if 0 ≤ a0 then (if (shl .i64 1 a0) = 0 then (none) else ((drovewayref04_Written.f kj47 a0 (Int.tmod (wrap64 (a2)) (shl .i64 1 a0)) 0).bind fun t159 => ((ambush_Winner.f a0 l1 t159 (⟨#[100]⟩ : ByteArray)).bind fun bt160 => (if bt160.2 = 0 then (if bt160.1.toList = ([119] : List UInt8) then ((drovewaylaw04_free.f kj47 t159).bind fun t162 => (if (wrap64 (a0 - t162)) ≥ t152 then ((drovewaylaw04_alive.f kj47).bind fun t163 => (some t163)) else (some false))) else ((drovewaylaw04_alive.f kj47).bind fun t164 => (some t164))) else (some false))))) else (none)) = some r := by rw [if_neg (show ¬ (false = true) by decide)] at H; exact H
                              clear H
                              have H := H1
                              clear H1
                              by_cases c54 : 0 ≤ a0
                              · rw [if_pos c54] at H
                                have c54b0 := eq_true c54
                                have c54b1 : decide (0 ≤ a0) = true := decide_eq_true c54
                                clear c54
                                obtain ⟨ji55, hji55⟩ : ∃ j_ : Int, (shl .i64 1 a0) = j_ := ⟨_, rfl⟩
                                replace H : (if (ji55) = 0 then (none) else ((drovewayref04_Written.f kj47 a0 (Int.tmod (wrap64 (a2)) (ji55)) 0).bind fun t159 => ((ambush_Winner.f a0 l1 t159 (⟨#[100]⟩ : ByteArray)).bind fun bt160 => (if bt160.2 = 0 then (if bt160.1.toList = ([119] : List UInt8) then ((drovewaylaw04_free.f kj47 t159).bind fun t162 => (if (wrap64 (a0 - t162)) ≥ t152 then ((drovewaylaw04_alive.f kj47).bind fun t163 => (some t163)) else (some false))) else ((drovewaylaw04_alive.f kj47).bind fun t164 => (some t164))) else (some false))))) = some r := by first | (rw [hji55] at H; exact H) | (simp only [hji55] at H ⊢; exact H)
                                have hji55_ : (IntKind.i64.wrap (1 * 2 ^ min a0.toNat 64)) = ji55 := hji55
                                have hji55z : a0 ≤ 64 → (IntKind.i64.wrap (1 * 2 ^ a0.toNat)) = ji55 := shl_small hji55
                                have hji55u : (IntKind.i64.wrap (2 ^ min a0.toNat 64)) = ji55 := by have h_ := hji55_; rw [Int.one_mul] at h_; exact h_
                                have hji55v : a0 ≤ 64 → (IntKind.i64.wrap (2 ^ a0.toNat)) = ji55 := fun hle_ => by have h_ := hji55z hle_; rw [Int.one_mul] at h_; exact h_
                                have hji55y : (wrap64 (1 * 2 ^ min a0.toNat 64)) = ji55 := (i64_w _).symm.trans hji55_
                                have hji55x : a0 ≤ 64 → (wrap64 (1 * 2 ^ a0.toNat)) = ji55 := fun h_ => (i64_w _).symm.trans (hji55z h_)
                                by_cases c56 : (ji55) = 0
                                · rw [if_pos c56] at H
                                  exact absurd H (by simp)
                                · rw [if_neg c56] at H
                                  have c56b0 : ((ji55) == 0) = false := beq_eq_false_iff_ne.mpr c56
                                  have c56b1 : ((ji55) != 0) = true := bne_iff_ne.mpr c56
                                  replace H := Option.bind_eq_some_iff.mp H
                                  obtain ⟨t159, A570, H⟩ := H
                                  replace H : ((ambush_Winner.f a0 l1 t159 (⟨#[100]⟩ : ByteArray)).bind fun bt160 => (if bt160.2 = 0 then (if bt160.1.toList = ([119] : List UInt8) then ((drovewaylaw04_free.f kj47 t159).bind fun t162 => (if (wrap64 (a0 - t162)) ≥ t152 then ((drovewaylaw04_alive.f kj47).bind fun t163 => (some t163)) else (some false))) else ((drovewaylaw04_alive.f kj47).bind fun t164 => (some t164))) else (some false))) = some r := H
                                  have A57 := Aside0.mk A570
                                  clear A570
                                  replace H := Option.bind_eq_some_iff.mp H
                                  obtain ⟨⟨t160, t161⟩, A580, H⟩ := H
                                  replace H : (if t161 = 0 then (if t160.toList = ([119] : List UInt8) then ((drovewaylaw04_free.f kj47 t159).bind fun t162 => (if (wrap64 (a0 - t162)) ≥ t152 then ((drovewaylaw04_alive.f kj47).bind fun t163 => (some t163)) else (some false))) else ((drovewaylaw04_alive.f kj47).bind fun t164 => (some t164))) else (some false)) = some r := H
                                  have A58 := Aside0.mk A580
                                  clear A580
                                  by_cases c59 : t161 = 0
                                  · rw [if_pos c59] at H
                                    have c59b0 : (t161 == 0) = true := beq_iff_eq.mpr c59
                                    have c59b1 : (t161 != 0) = false := bne_eq_false_iff_eq.mpr c59
                                    clear c59
                                    by_cases c60 : t160.toList = ([119] : List UInt8)
                                    · rw [if_pos c60] at H
                                      have c60b0 : (t160.toList == ([119] : List UInt8)) = true := beq_iff_eq.mpr c60
                                      have c60b1 : (t160.toList != ([119] : List UInt8)) = false := bne_eq_false_iff_eq.mpr c60
                                      clear c60
                                      replace H := Option.bind_eq_some_iff.mp H
                                      obtain ⟨t162, A610, H⟩ := H
                                      replace H : (if (wrap64 (a0 - t162)) ≥ t152 then ((drovewaylaw04_alive.f kj47).bind fun t163 => (some t163)) else (some false)) = some r := H
                                      have A61 := Aside0.mk A610
                                      clear A610
                                      by_cases c62 : (wrap64 (a0 - t162)) ≥ t152
                                      · rw [if_pos c62] at H
                                        have c62b0 : decide (t152 ≤ (wrap64 (a0 - t162))) = true := decide_eq_true c62
                                        clear c62
                                        replace H := Option.bind_eq_some_iff.mp H
                                        obtain ⟨t163, A630, H⟩ := H
                                        replace H : (some t163) = some r := H
                                        have A63 := Aside0.mk A630
                                        clear A630
                                        obtain rfl := Option.some.inj H
                                        go_wp2_with (first | ((with_reducible refine gate_callee (f := 18) rfl ?_); refine goesL_ (some 146) rfl rfl Try.func18 (by kernel_rfl) rfl #[.int .i64 a0, .int .i64 (Int.tmod (wrap64 (a2)) (ji55)), .int .i64 0] rfl (by (try simp only [List.map_toArray, List.map_cons, List.map_nil]); first | done | (simp only [hji55]; rfl) | rfl | (simp only [List.length_drop, List.length_take]; rfl)) ?_; (with_reducible refine (drovewayref04_Written.calls kj47 a0 (Int.tmod (wrap64 (a2)) (ji55)) 0 t159 _ A57.out).mono ?_); rintro e w64 ⟨rfl, hb⟩; refine ⟨_, rfl, ?_⟩; have n0_ := Aside0.mk (below_step (by repeat (first | (with_reducible first | exact HB.out | apply below_alloc | apply pw_below_drewN | apply below_drew1) | exact HB.out)) hb); clear HB; have HB := n0_; clear n0_; (try clear hb); (try clear hb2); (try clear hk); (try clear hi)) | ((with_reducible refine gate_callee (f := 14) rfl ?_); refine goesL_ (some 151) rfl rfl Try.func14 (by kernel_rfl) rfl #[.int .i64 a0, .slice A1 l1.length c1, .string t159, .string (⟨#[100]⟩ : ByteArray)] rfl (by (try simp only [List.map_toArray, List.map_cons, List.map_nil]); first | done | rfl | (simp only [List.length_drop, List.length_take]; rfl)) ?_; (with_reducible refine (ambush_Winner.calls a0 _ _ l1 t159 (⟨#[100]⟩ : ByteArray) t160 t161 _ ?side1 ?side2 A58.out).mono ?_); (case side1 => repeat (first | exact (Kd.C_below HR1.out HB.out) | (with_reducible refine Kd.C_alloc ?_ _) | (with_reducible refine Kd.C_drewN ?_ _) | (with_reducible refine Kd.C_drew ?_))); (case side2 => exact HC1.out); rintro e w65 ⟨rfl, hb⟩; refine ⟨_, rfl, ?_⟩; have n0_ := Aside0.mk (below_step (by repeat (first | (with_reducible first | exact HB.out | apply below_alloc | apply pw_below_drewN | apply below_drew1) | exact HB.out)) hb); clear HB; have HB := n0_; clear n0_; (try clear hb); (try clear hb2); (try clear hk); (try clear hi)) | (go_at_call 16; (with_reducible refine (drovewaylaw04_free.calls kj47 t159 t162 _ A61.out).mono ?_); rintro e w' ⟨rfl, ⟨nd, rfl⟩⟩) | (go_at_call 12; (with_reducible refine (drovewaylaw04_alive.calls kj47  t163 _ A63.out).mono ?_); rintro e w66 ⟨rfl, hb⟩; have n0_ := Aside0.mk (below_step (by repeat (first | (with_reducible first | exact HB.out | apply below_alloc | apply pw_below_drewN | apply below_drew1) | exact HB.out)) hb); clear HB; have HB := n0_; clear n0_; (try clear hb); (try clear hb2); (try clear hk); (try clear hi)))
                                        go_ret
                                        exact ⟨by first | rfl | (simp [errW_none, errW_some] <;> rfl) | (simp only [← hji55]; first | rfl | (simp [errW_none, errW_some] <;> rfl)) | (simp [*, errW_none, errW_some] <;> rfl), by repeat (first | (with_reducible first | exact HB.out | apply below_alloc | apply pw_below_drewN | apply below_drew1) | exact HB.out)⟩
                                      · rw [if_neg c62] at H
                                        have c62b0 : decide (t152 ≤ (wrap64 (a0 - t162))) = false := decide_eq_false c62
                                        clear c62
                                        obtain rfl := Option.some.inj H
                                        go_wp2_with (first | ((with_reducible refine gate_callee (f := 18) rfl ?_); refine goesL_ (some 146) rfl rfl Try.func18 (by kernel_rfl) rfl #[.int .i64 a0, .int .i64 (Int.tmod (wrap64 (a2)) (ji55)), .int .i64 0] rfl (by (try simp only [List.map_toArray, List.map_cons, List.map_nil]); first | done | (simp only [hji55]; rfl) | rfl | (simp only [List.length_drop, List.length_take]; rfl)) ?_; (with_reducible refine (drovewayref04_Written.calls kj47 a0 (Int.tmod (wrap64 (a2)) (ji55)) 0 t159 _ A57.out).mono ?_); rintro e w67 ⟨rfl, hb⟩; refine ⟨_, rfl, ?_⟩; have n0_ := Aside0.mk (below_step (by repeat (first | (with_reducible first | exact HB.out | apply below_alloc | apply pw_below_drewN | apply below_drew1) | exact HB.out)) hb); clear HB; have HB := n0_; clear n0_; (try clear hb); (try clear hb2); (try clear hk); (try clear hi)) | ((with_reducible refine gate_callee (f := 14) rfl ?_); refine goesL_ (some 151) rfl rfl Try.func14 (by kernel_rfl) rfl #[.int .i64 a0, .slice A1 l1.length c1, .string t159, .string (⟨#[100]⟩ : ByteArray)] rfl (by (try simp only [List.map_toArray, List.map_cons, List.map_nil]); first | done | rfl | (simp only [List.length_drop, List.length_take]; rfl)) ?_; (with_reducible refine (ambush_Winner.calls a0 _ _ l1 t159 (⟨#[100]⟩ : ByteArray) t160 t161 _ ?side1 ?side2 A58.out).mono ?_); (case side1 => repeat (first | exact (Kd.C_below HR1.out HB.out) | (with_reducible refine Kd.C_alloc ?_ _) | (with_reducible refine Kd.C_drewN ?_ _) | (with_reducible refine Kd.C_drew ?_))); (case side2 => exact HC1.out); rintro e w68 ⟨rfl, hb⟩; refine ⟨_, rfl, ?_⟩; have n0_ := Aside0.mk (below_step (by repeat (first | (with_reducible first | exact HB.out | apply below_alloc | apply pw_below_drewN | apply below_drew1) | exact HB.out)) hb); clear HB; have HB := n0_; clear n0_; (try clear hb); (try clear hb2); (try clear hk); (try clear hi)) | (go_at_call 16; (with_reducible refine (drovewaylaw04_free.calls kj47 t159 t162 _ A61.out).mono ?_); rintro e w' ⟨rfl, ⟨nd, rfl⟩⟩))
                                        go_ret
                                        exact ⟨by first | rfl | (simp [errW_none, errW_some] <;> rfl) | (simp only [← hji55]; first | rfl | (simp [errW_none, errW_some] <;> rfl)) | (simp [*, errW_none, errW_some] <;> rfl), by repeat (first | (with_reducible first | exact HB.out | apply below_alloc | apply pw_below_drewN | apply below_drew1) | exact HB.out)⟩
                                    · rw [if_neg c60] at H
                                      have c60b0 : (t160.toList == ([119] : List UInt8)) = false := beq_eq_false_iff_ne.mpr c60
                                      have c60b1 : (t160.toList != ([119] : List UInt8)) = true := bne_iff_ne.mpr c60
                                      replace H := Option.bind_eq_some_iff.mp H
                                      obtain ⟨t164, A690, H⟩ := H
                                      replace H : (some t164) = some r := H
                                      have A69 := Aside0.mk A690
                                      clear A690
                                      obtain rfl := Option.some.inj H
                                      go_wp2_with (first | ((with_reducible refine gate_callee (f := 18) rfl ?_); refine goesL_ (some 146) rfl rfl Try.func18 (by kernel_rfl) rfl #[.int .i64 a0, .int .i64 (Int.tmod (wrap64 (a2)) (ji55)), .int .i64 0] rfl (by (try simp only [List.map_toArray, List.map_cons, List.map_nil]); first | done | (simp only [hji55]; rfl) | rfl | (simp only [List.length_drop, List.length_take]; rfl)) ?_; (with_reducible refine (drovewayref04_Written.calls kj47 a0 (Int.tmod (wrap64 (a2)) (ji55)) 0 t159 _ A57.out).mono ?_); rintro e w70 ⟨rfl, hb⟩; refine ⟨_, rfl, ?_⟩; have n0_ := Aside0.mk (below_step (by repeat (first | (with_reducible first | exact HB.out | apply below_alloc | apply pw_below_drewN | apply below_drew1) | exact HB.out)) hb); clear HB; have HB := n0_; clear n0_; (try clear hb); (try clear hb2); (try clear hk); (try clear hi)) | ((with_reducible refine gate_callee (f := 14) rfl ?_); refine goesL_ (some 151) rfl rfl Try.func14 (by kernel_rfl) rfl #[.int .i64 a0, .slice A1 l1.length c1, .string t159, .string (⟨#[100]⟩ : ByteArray)] rfl (by (try simp only [List.map_toArray, List.map_cons, List.map_nil]); first | done | rfl | (simp only [List.length_drop, List.length_take]; rfl)) ?_; (with_reducible refine (ambush_Winner.calls a0 _ _ l1 t159 (⟨#[100]⟩ : ByteArray) t160 t161 _ ?side1 ?side2 A58.out).mono ?_); (case side1 => repeat (first | exact (Kd.C_below HR1.out HB.out) | (with_reducible refine Kd.C_alloc ?_ _) | (with_reducible refine Kd.C_drewN ?_ _) | (with_reducible refine Kd.C_drew ?_))); (case side2 => exact HC1.out); rintro e w71 ⟨rfl, hb⟩; refine ⟨_, rfl, ?_⟩; have n0_ := Aside0.mk (below_step (by repeat (first | (with_reducible first | exact HB.out | apply below_alloc | apply pw_below_drewN | apply below_drew1) | exact HB.out)) hb); clear HB; have HB := n0_; clear n0_; (try clear hb); (try clear hb2); (try clear hk); (try clear hi)) | (go_at_call 12; (with_reducible refine (drovewaylaw04_alive.calls kj47  t164 _ A69.out).mono ?_); rintro e w72 ⟨rfl, hb⟩; have n0_ := Aside0.mk (below_step (by repeat (first | (with_reducible first | exact HB.out | apply below_alloc | apply pw_below_drewN | apply below_drew1) | exact HB.out)) hb); clear HB; have HB := n0_; clear n0_; (try clear hb); (try clear hb2); (try clear hk); (try clear hi)))
                                      go_ret
                                      exact ⟨by first | rfl | (simp [errW_none, errW_some] <;> rfl) | (simp only [← hji55]; first | rfl | (simp [errW_none, errW_some] <;> rfl)) | (simp [*, errW_none, errW_some] <;> rfl), by repeat (first | (with_reducible first | exact HB.out | apply below_alloc | apply pw_below_drewN | apply below_drew1) | exact HB.out)⟩
                                  · rw [if_neg c59] at H
                                    have c59b0 : (t161 == 0) = false := beq_eq_false_iff_ne.mpr c59
                                    have c59b1 : (t161 != 0) = true := bne_iff_ne.mpr c59
                                    obtain rfl := Option.some.inj H
                                    go_wp2_with (first | ((with_reducible refine gate_callee (f := 18) rfl ?_); refine goesL_ (some 146) rfl rfl Try.func18 (by kernel_rfl) rfl #[.int .i64 a0, .int .i64 (Int.tmod (wrap64 (a2)) (ji55)), .int .i64 0] rfl (by (try simp only [List.map_toArray, List.map_cons, List.map_nil]); first | done | (simp only [hji55]; rfl) | rfl | (simp only [List.length_drop, List.length_take]; rfl)) ?_; (with_reducible refine (drovewayref04_Written.calls kj47 a0 (Int.tmod (wrap64 (a2)) (ji55)) 0 t159 _ A57.out).mono ?_); rintro e w73 ⟨rfl, hb⟩; refine ⟨_, rfl, ?_⟩; have n0_ := Aside0.mk (below_step (by repeat (first | (with_reducible first | exact HB.out | apply below_alloc | apply pw_below_drewN | apply below_drew1) | exact HB.out)) hb); clear HB; have HB := n0_; clear n0_; (try clear hb); (try clear hb2); (try clear hk); (try clear hi)) | ((with_reducible refine gate_callee (f := 14) rfl ?_); refine goesL_ (some 151) rfl rfl Try.func14 (by kernel_rfl) rfl #[.int .i64 a0, .slice A1 l1.length c1, .string t159, .string (⟨#[100]⟩ : ByteArray)] rfl (by (try simp only [List.map_toArray, List.map_cons, List.map_nil]); first | done | rfl | (simp only [List.length_drop, List.length_take]; rfl)) ?_; (with_reducible refine (ambush_Winner.calls a0 _ _ l1 t159 (⟨#[100]⟩ : ByteArray) t160 t161 _ ?side1 ?side2 A58.out).mono ?_); (case side1 => repeat (first | exact (Kd.C_below HR1.out HB.out) | (with_reducible refine Kd.C_alloc ?_ _) | (with_reducible refine Kd.C_drewN ?_ _) | (with_reducible refine Kd.C_drew ?_))); (case side2 => exact HC1.out); rintro e w74 ⟨rfl, hb⟩; refine ⟨_, rfl, ?_⟩; have n0_ := Aside0.mk (below_step (by repeat (first | (with_reducible first | exact HB.out | apply below_alloc | apply pw_below_drewN | apply below_drew1) | exact HB.out)) hb); clear HB; have HB := n0_; clear n0_; (try clear hb); (try clear hb2); (try clear hk); (try clear hi)))
                                    go_ret
                                    exact ⟨by first | rfl | (simp [errW_none, errW_some] <;> rfl) | (simp only [← hji55]; first | rfl | (simp [errW_none, errW_some] <;> rfl)) | (simp [*, errW_none, errW_some] <;> rfl), by repeat (first | (with_reducible first | exact HB.out | apply below_alloc | apply pw_below_drewN | apply below_drew1) | exact HB.out)⟩
                              · rw [if_neg c54] at H
                                exact absurd H (by simp)
                    · rw [if_neg c39] at H
                      have c39b0 : (x14_3 == (t146.length : Int)) = false := beq_eq_false_iff_ne.mpr c39
                      have c39b1 : (x14_3 != (t146.length : Int)) = true := bne_iff_ne.mpr c39
                      obtain rfl := Option.some.inj H
                      obtain ⟨Ao75, co75, eo75⟩ := Kd.R_slice HO_8.out
                      subst eo75
                      go_wp2
                      go_ret
                      exact ⟨by first | rfl | (simp [errW_none, errW_some] <;> rfl) | (simp [*, errW_none, errW_some] <;> rfl), by repeat (first | (with_reducible first | exact HB.out | apply below_alloc | apply pw_below_drewN | apply below_drew1) | exact HB.out)⟩

/-- THE ONE PURE STATEMENT of drovewaylaw04_AmbushBegins: yours. -/
def drovewaylaw04_AmbushBegins.Pure : Prop := ∀ (a0 : Int) (l1 : List Int) (a2 : Int), (Lit.int .i64 a0).wf = true → l1.length ≤ maxLen → l1.length * 8 ≤ 140737488351232 → (∀ x ∈ l1, (Lit.int .i64 x).wf = true) → (Lit.int .u16 a2).wf = true → ∃ k, drovewaylaw04_AmbushBegins.f k a0 l1 a2 = some true
theorem drovewaylaw04_AmbushBegins.walk (P : drovewaylaw04_AmbushBegins.Pure) (a0 : Int) (a1 : Option Addr) (len1 cap1 : Nat) (z1 : List Int) (a2 : Int) (w : World) (w0 : (Lit.int .i64 a0).wf = true) (w1 : (a1 = none ∧ len1 = 0 ∧ cap1 = 0 ∧ z1 = []) ∨ ∃ x, a1 = some x ∧ len1 ≤ cap1 ∧ cap1 ≤ maxLen ∧ z1.length = cap1 ∧ (∀ i, i < z1.length → w.cell? (x.add i) = some (.int .i64 (z1.getD i 0))) ∧ ∀ n ∈ z1, (Lit.int .i64 n).wf = true) (y1 : len1 * 8 ≤ 140737488351232) (w2 : (Lit.int .u16 a2).wf = true) :
    Calls Try.prog 4 #[.int .i64 a0, .slice a1 len1 cap1, .int .u16 a2] w fun e w' => e = .returned (.bool true) ∧ Below w.heap.size w w' := by
  obtain ⟨l1, rfl, hr1, hm1, hw1, hc1⟩ := ReadsInt.ofRowC w1
  obtain ⟨k, h⟩ := P a0 l1 a2 w0 hm1 y1 hw1 w2
  refine (drovewaylaw04_AmbushBegins.calls k a0 _ _ l1 a2 true w (Kd.C_of_reads (d := (0 : Int)) (h1 := fun _ => rfl) hr1) hc1 h).mono ?_
  rintro e w' ⟨rfl, hd⟩
  exact ⟨rfl, hd⟩

end Go.Proofs.Ytbjpjjokamaliaa.PAmbushBegins
