-- Printed by hprint.py (this claim's own program, over the kit's print.py) out of the translation and contracts by hand. Not trusted: Lean checks it.
import Derived.Test.YtbjpjjokamaliaaPAmbushMorex0
import Derived.Test.YtbjpjjokamaliaaPAmbushMorex2
namespace Go.Proofs.Ytbjpjjokamaliaa.PAmbushMore
open Go.Proofs.Ytbjpjjokamaliaa.A
open Go.RowKit Go.Proofs.YtbjpjjokamaliaaW.PrintWords Go.Proofs.YtbjpjjokamaliaaW.PrintLast Go.Proofs.YtbjpjjokamaliaaW.PrintMore
attribute [local go_sem] max2_int min2_int max_two min_two max_three min_three max_four min_four   -- for this text's walks alone
set_option linter.unusedVariables false
set_option linter.unusedSimpArgs false

/-! ### drovewaylaw04_free: function 16 -/
def drovewaylaw04_free.l0 : Nat → ByteArray → Int → Int → Option (Int)
  | 0, _, _, _ => none
  | k + 1, x0, x3, x4 => if x4 < (x0.size : Int) then (if 0 ≤ x4 then (if (bt x0 x4) = 46 then (drovewaylaw04_free.l0 k x0 (wrap64 (x3 + 1)) (wrap64 (x4 + 1))) else (drovewaylaw04_free.l0 k x0 x3 (wrap64 (x4 + 1)))) else (none)) else (some x3)
def drovewaylaw04_free.f (k : Nat) (a0 : ByteArray) : Option (Int) := drovewaylaw04_free.l0 k a0 0 0
theorem drovewaylaw04_free.mono_l : ∀ k, (∀ y0 y1 y2, LeO (drovewaylaw04_free.l0 k y0 y1 y2) (drovewaylaw04_free.l0 (k + 1) y0 y1 y2))
  | 0 => fun _ _ _ r h => by simp [drovewaylaw04_free.l0] at h
  | k + 1 => by
    have ih0 := drovewaylaw04_free.mono_l k
    · intro y0 y1 y2
      unfold drovewaylaw04_free.l0
      repeat' first
      | (with_reducible exact ih0 _ _ _)
      | (with_reducible exact LeO.refl _)
      | (with_reducible exact LeO.none _)
      | (with_reducible refine LeO.ite ?_ ?_)
      | (with_reducible refine LeO.bind ?_ (fun _ => ?_))
      | exact ih0 _ _ _
      | exact LeO.none _
      | refine LeO.ite ?_ ?_
      | refine LeO.bind ?_ (fun _ => ?_)
theorem drovewaylaw04_free.mono : ∀ a0 k, LeO (drovewaylaw04_free.f k a0) (drovewaylaw04_free.f (k + 1) a0) := by
  intro a0 k
  have ih0 := drovewaylaw04_free.mono_l k
  unfold drovewaylaw04_free.f
  repeat' first
      | (with_reducible exact ih0 _ _ _)
      | (with_reducible exact LeO.refl _)
      | (with_reducible exact LeO.none _)
      | (with_reducible refine LeO.ite ?_ ?_)
      | (with_reducible refine LeO.bind ?_ (fun _ => ?_))
      | exact ih0 _ _ _
      | exact LeO.none _
      | refine LeO.ite ?_ ?_
      | refine LeO.bind ?_ (fun _ => ?_)
set_option maxHeartbeats 8000000 in
set_option maxRecDepth 100000 in
theorem drovewaylaw04_free.calls (k : Nat) (a0 : ByteArray) (r : Int) (w : World) (h : drovewaylaw04_free.f k a0 = some r) :
    Calls Try.prog 16 #[.string a0] w fun e w' => e = .returned (.int .i64 r) ∧ Drawn0 w w' := by
  have H : (drovewaylaw04_free.l0 k a0 0 0) = some r := h
  clear h
  have H' := Aside0.mk H
  clear H
  go_enter Try.func16, Try.ntmps16
  go_wp2
  go_loopg [3, 4] k (fun kq v3 v4 w' => ∃ (x3_1 : Int) (x4_1 : Int), v3 = .int .i64 x3_1 ∧ v4 = .int .i64 x4_1 ∧ Aside0 (drovewaylaw04_free.l0 kq a0 x3_1 x4_1 = some r) ∧ Aside0 (kq ≤ k) ∧ Drawn0 w w')
  case atStart => exact ⟨(0), (0), (by first | rfl | (simp; done) | (simp [*]; done)), (by first | rfl | (simp; done) | (simp [*]; done)), H', ⟨Nat.le_refl _⟩, by repeat (first | exact Drawn0.refl _ | apply Drawn0.step)⟩
  case round =>
    clear H'
    try clear c1
    obtain ⟨x3_1, x4_1, rfl, rfl, HA, HK1, ⟨m1, rfl⟩⟩ := hrel
    cases gk with
    | zero => exact absurd HA.out (by simp [drovewaylaw04_free.l0])
    | succ k1 =>
      have H := HA.out
      clear HA
      simp only [drovewaylaw04_free.l0] at H
      by_cases c2 : x4_1 < (a0.size : Int)
      · rw [if_pos c2] at H
        have c2b0 : decide (x4_1 < (a0.size : Int)) = true := decide_eq_true c2
        clear c2
        by_cases c3 : 0 ≤ x4_1
        · rw [if_pos c3] at H
          have c3b0 : decide (0 ≤ x4_1) = true := decide_eq_true c3
          clear c3
          by_cases c5 : (bt a0 x4_1) = 46
          · rw [if_pos c5] at H
            have c5b0 : ((bt a0 x4_1) == 46) = true := beq_iff_eq.mpr c5
            have c5b1 : ((bt a0 x4_1) != 46) = false := bne_eq_false_iff_eq.mpr c5
            clear c5
            have H' := Aside0.mk H
            clear H
            have p4 : 0 ≤ (x4_1 : Int) := of_decide_eq_true (by first | (with_reducible assumption) | assumption)
            have q4 : x4_1 < (a0.size : Int) := of_decide_eq_true (by first | (with_reducible assumption) | assumption)
            have hx4 := bt_at a0 x4_1
            replace p4 := eq_true p4
            replace q4 := eq_true q4
            go_wp2
            go_roundg k1
            case measure => have := HK1.out; omega
            case rel => exact ⟨(wrap64 (x3_1 + 1)), (wrap64 (x4_1 + 1)), (by first | rfl | (simp; done) | (simp [*]; done)), (by first | rfl | (simp; done) | (simp [*]; done)), H', ⟨by have := HK1.out; omega⟩, by repeat (first | exact Drawn0.refl _ | apply Drawn0.step)⟩
          · rw [if_neg c5] at H
            have c5b0 : ((bt a0 x4_1) == 46) = false := beq_eq_false_iff_ne.mpr c5
            have c5b1 : ((bt a0 x4_1) != 46) = true := bne_iff_ne.mpr c5
            have H' := Aside0.mk H
            clear H
            have p4 : 0 ≤ (x4_1 : Int) := of_decide_eq_true (by first | (with_reducible assumption) | assumption)
            have q4 : x4_1 < (a0.size : Int) := of_decide_eq_true (by first | (with_reducible assumption) | assumption)
            have hx4 := bt_at a0 x4_1
            replace p4 := eq_true p4
            replace q4 := eq_true q4
            go_wp2
            go_roundg k1
            case measure => have := HK1.out; omega
            case rel => exact ⟨(x3_1), (wrap64 (x4_1 + 1)), (by first | rfl | (simp; done) | (simp [*]; done)), (by first | rfl | (simp; done) | (simp [*]; done)), H', ⟨by have := HK1.out; omega⟩, by repeat (first | exact Drawn0.refl _ | apply Drawn0.step)⟩
        · rw [if_neg c3] at H
          exact absurd H (by simp)
      · rw [if_neg c2] at H
        have c2b0 : decide (x4_1 < (a0.size : Int)) = false := decide_eq_false c2
        clear c2
        obtain rfl := Option.some.inj H
        go_wp2
        go_ret
        exact ⟨by first | rfl | (simp; done) | (simp [*]; done), by repeat (first | exact Drawn0.refl _ | apply Drawn0.step)⟩

/-! ### drovewaylaw04_AmbushMore: function 3 -/
mutual
def drovewaylaw04_AmbushMore.j0 : Nat → Int → List Int → ByteArray → Int → ByteArray → ByteArray → Option (Bool)
  | 0, _, _, _, _, _, _ => none
  | k + 1, x0, x1, x2, x4, x14, x15 => (ambush_Winner.f x0 x1 x2 x14).bind fun bt143 => (if x0 = 0 then (none) else ((drovewaylaw04_placed.f x2 (Int.tmod (wrap64 (x4)) x0) 119).bind fun t145 => ((ambush_Winner.f x0 x1 t145 x14).bind fun bt146 => ((ambush_Winner.f x0 x1 x2 x15).bind fun bt148 => (if bt143.2 = 0 then (if bt146.2 = 0 then (if bt148.2 = 0 then (if bt143.1.toList = ([119] : List UInt8) then (if bt146.1.toList = ([119] : List UInt8) then (drovewaylaw04_AmbushMore.j1 k x2 x14 bt143.1 bt148.1 false) else (drovewaylaw04_AmbushMore.j1 k x2 x14 bt143.1 bt148.1 true)) else (drovewaylaw04_AmbushMore.j1 k x2 x14 bt143.1 bt148.1 (bt143.1.toList != ([100] : List UInt8)))) else (drovewaylaw04_AmbushMore.j1 k x2 x14 bt143.1 bt148.1 true)) else (drovewaylaw04_AmbushMore.j1 k x2 x14 bt143.1 bt148.1 true)) else (drovewaylaw04_AmbushMore.j1 k x2 x14 bt143.1 bt148.1 true))))))
def drovewaylaw04_AmbushMore.j1 : Nat → ByteArray → ByteArray → ByteArray → ByteArray → Bool → Option (Bool)
  | 0, _, _, _, _, _ => none
  | k + 1, x2, x14, x16, x19, x92 => if x92 = true then (some false) else ((drovewaylaw04_free.f k x2).bind fun t150 => (if t150 = 0 then ((drovewaylaw04_alive.f k).bind fun t151 => (some t151)) else (if x19.toList = x14.toList then (if x16.toList = x14.toList then ((drovewaylaw04_alive.f k).bind fun t152 => (some t152)) else (some false)) else ((drovewaylaw04_alive.f k).bind fun t153 => (some t153)))))
end
def drovewaylaw04_AmbushMore.f (k : Nat) (a0 : Int) (l1 : List Int) (a2 : ByteArray) (a3 : Bool) (a4 : Int) : Option (Bool) := (drovewaylaw04_few.f l1 a2 (⟨#[]⟩ : ByteArray)).bind fun t137 => (if t137 = true then ((drovewayref04_Placed.f k a0 l1 a2).bind fun bt139 => (if bt139.2.2 = 0 then (if a3 = true then (drovewaylaw04_AmbushMore.j0 k a0 l1 a2 a4 (⟨#[119]⟩ : ByteArray) (⟨#[100]⟩ : ByteArray)) else (drovewaylaw04_AmbushMore.j0 k a0 l1 a2 a4 (⟨#[100]⟩ : ByteArray) (⟨#[119]⟩ : ByteArray))) else ((drovewaylaw04_alive.f k).bind fun t142 => (some t142)))) else ((drovewaylaw04_alive.f k).bind fun t138 => (some t138)))
theorem drovewaylaw04_AmbushMore.mono_l : ∀ k, (∀ y0 y1 y2 y3 y4 y5, LeO (drovewaylaw04_AmbushMore.j0 k y0 y1 y2 y3 y4 y5) (drovewaylaw04_AmbushMore.j0 (k + 1) y0 y1 y2 y3 y4 y5)) ∧ (∀ y0 y1 y2 y3 y4, LeO (drovewaylaw04_AmbushMore.j1 k y0 y1 y2 y3 y4) (drovewaylaw04_AmbushMore.j1 (k + 1) y0 y1 y2 y3 y4))
  | 0 => ⟨fun _ _ _ _ _ _ r h => by simp [drovewaylaw04_AmbushMore.j0] at h, fun _ _ _ _ _ r h => by simp [drovewaylaw04_AmbushMore.j1] at h⟩
  | k + 1 => by
    obtain ⟨ih0, ih1⟩ := drovewaylaw04_AmbushMore.mono_l k
    refine ⟨?_, ?_⟩
    · intro y0 y1 y2 y3 y4 y5
      unfold drovewaylaw04_AmbushMore.j0
      repeat' first
      | (with_reducible exact ih0 _ _ _ _ _ _)
      | (with_reducible exact ih1 _ _ _ _ _)
      | (with_reducible exact drovewaylaw04_alive.mono _)
      | (with_reducible exact drovewaylaw04_free.mono _ _)
      | (with_reducible exact drovewayref04_Placed.mono _ _ _ _)
      | (with_reducible exact LeO.refl _)
      | (with_reducible exact LeO.none _)
      | (with_reducible refine LeO.ite ?_ ?_)
      | (with_reducible refine LeO.bind ?_ (fun _ => ?_))
      | exact ih0 _ _ _ _ _ _
      | exact ih1 _ _ _ _ _
      | exact drovewaylaw04_alive.mono _
      | exact drovewaylaw04_free.mono _ _
      | exact drovewayref04_Placed.mono _ _ _ _
      | exact LeO.none _
      | refine LeO.ite ?_ ?_
      | refine LeO.bind ?_ (fun _ => ?_)
    · intro y0 y1 y2 y3 y4
      unfold drovewaylaw04_AmbushMore.j1
      repeat' first
      | (with_reducible exact ih0 _ _ _ _ _ _)
      | (with_reducible exact ih1 _ _ _ _ _)
      | (with_reducible exact drovewaylaw04_alive.mono _)
      | (with_reducible exact drovewaylaw04_free.mono _ _)
      | (with_reducible exact drovewayref04_Placed.mono _ _ _ _)
      | (with_reducible exact LeO.refl _)
      | (with_reducible exact LeO.none _)
      | (with_reducible refine LeO.ite ?_ ?_)
      | (with_reducible refine LeO.bind ?_ (fun _ => ?_))
      | exact ih0 _ _ _ _ _ _
      | exact ih1 _ _ _ _ _
      | exact drovewaylaw04_alive.mono _
      | exact drovewaylaw04_free.mono _ _
      | exact drovewayref04_Placed.mono _ _ _ _
      | exact LeO.none _
      | refine LeO.ite ?_ ?_
      | refine LeO.bind ?_ (fun _ => ?_)
theorem drovewaylaw04_AmbushMore.mono : ∀ a0 a1 a2 a3 a4 k, LeO (drovewaylaw04_AmbushMore.f k a0 a1 a2 a3 a4) (drovewaylaw04_AmbushMore.f (k + 1) a0 a1 a2 a3 a4) := by
  intro a0 a1 a2 a3 a4 k
  obtain ⟨ih0, ih1⟩ := drovewaylaw04_AmbushMore.mono_l k
  unfold drovewaylaw04_AmbushMore.f
  repeat' first
      | (with_reducible exact ih0 _ _ _ _ _ _)
      | (with_reducible exact ih1 _ _ _ _ _)
      | (with_reducible exact drovewaylaw04_alive.mono _)
      | (with_reducible exact drovewaylaw04_free.mono _ _)
      | (with_reducible exact drovewayref04_Placed.mono _ _ _ _)
      | (with_reducible exact LeO.refl _)
      | (with_reducible exact LeO.none _)
      | (with_reducible refine LeO.ite ?_ ?_)
      | (with_reducible refine LeO.bind ?_ (fun _ => ?_))
      | exact ih0 _ _ _ _ _ _
      | exact ih1 _ _ _ _ _
      | exact drovewaylaw04_alive.mono _
      | exact drovewaylaw04_free.mono _ _
      | exact drovewayref04_Placed.mono _ _ _ _
      | exact LeO.none _
      | refine LeO.ite ?_ ?_
      | refine LeO.bind ?_ (fun _ => ?_)
set_option maxHeartbeats 8000000 in
set_option maxRecDepth 100000 in
theorem drovewaylaw04_AmbushMore.calls (k : Nat) (a0 : Int) (A1 : Option Addr) (c1 : Nat) (l1 : List Int) (a2 : ByteArray) (a3 : Bool) (a4 : Int) (r : Bool) (w : World) (hr1 : Kd.C (Kd.int .i64) w A1 l1.length l1) (hc1 : l1.length ≤ c1) (h : drovewaylaw04_AmbushMore.f k a0 l1 a2 a3 a4 = some r) :
    Calls Try.prog 3 #[.int .i64 a0, .slice A1 l1.length c1, .string a2, .bool a3, .int .u8 a4] w fun e w' => e = .returned (.bool r) ∧ Below w.heap.size w w' := by
  have HR1 := Aside0.mk hr1
  have HC1 := Aside0.mk hc1
  clear hr1 hc1
  have HB := Aside0.mk (Below.refl w.heap.size w)
  have H : ((drovewaylaw04_few.f l1 a2 (⟨#[]⟩ : ByteArray)).bind fun t137 => (if t137 = true then ((drovewayref04_Placed.f k a0 l1 a2).bind fun bt139 => (if bt139.2.2 = 0 then (if a3 = true then (drovewaylaw04_AmbushMore.j0 k a0 l1 a2 a4 (⟨#[119]⟩ : ByteArray) (⟨#[100]⟩ : ByteArray)) else (drovewaylaw04_AmbushMore.j0 k a0 l1 a2 a4 (⟨#[100]⟩ : ByteArray) (⟨#[119]⟩ : ByteArray))) else ((drovewaylaw04_alive.f k).bind fun t142 => (some t142)))) else ((drovewaylaw04_alive.f k).bind fun t138 => (some t138)))) = some r := h
  clear h
  replace H := Option.bind_eq_some_iff.mp H
  obtain ⟨t137, A60, H⟩ := H
  replace H : (if t137 = true then ((drovewayref04_Placed.f k a0 l1 a2).bind fun bt139 => (if bt139.2.2 = 0 then (if a3 = true then (drovewaylaw04_AmbushMore.j0 k a0 l1 a2 a4 (⟨#[119]⟩ : ByteArray) (⟨#[100]⟩ : ByteArray)) else (drovewaylaw04_AmbushMore.j0 k a0 l1 a2 a4 (⟨#[100]⟩ : ByteArray) (⟨#[119]⟩ : ByteArray))) else ((drovewaylaw04_alive.f k).bind fun t142 => (some t142)))) else ((drovewaylaw04_alive.f k).bind fun t138 => (some t138))) = some r := H
  have A6 := Aside0.mk A60
  clear A60
  by_cases c7 : t137 = true
  · subst c7
    have H1 : ((drovewayref04_Placed.f k a0 l1 a2).bind fun bt139 => (if bt139.2.2 = 0 then (if a3 = true then (drovewaylaw04_AmbushMore.j0 k a0 l1 a2 a4 (⟨#[119]⟩ : ByteArray) (⟨#[100]⟩ : ByteArray)) else (drovewaylaw04_AmbushMore.j0 k a0 l1 a2 a4 (⟨#[100]⟩ : ByteArray) (⟨#[119]⟩ : ByteArray))) else ((drovewaylaw04_alive.f k).bind fun t142 => (some t142)))) = some r := by rw [if_pos rfl] at H; exact H
    clear H
    have H := H1
    clear H1
    replace H := Option.bind_eq_some_iff.mp H
    obtain ⟨⟨t139, t140, t141⟩, A80, H⟩ := H
    replace H : (if t141 = 0 then (if a3 = true then (drovewaylaw04_AmbushMore.j0 k a0 l1 a2 a4 (⟨#[119]⟩ : ByteArray) (⟨#[100]⟩ : ByteArray)) else (drovewaylaw04_AmbushMore.j0 k a0 l1 a2 a4 (⟨#[100]⟩ : ByteArray) (⟨#[119]⟩ : ByteArray))) else ((drovewaylaw04_alive.f k).bind fun t142 => (some t142))) = some r := H
    have A8 := Aside0.mk A80
    clear A80
    by_cases c9 : t141 = 0
    · rw [if_pos c9] at H
      have c9b0 : (t141 == 0) = true := beq_iff_eq.mpr c9
      have c9b1 : (t141 != 0) = false := bne_eq_false_iff_eq.mpr c9
      clear c9
      have HC10 := Aside0.mk H
      clear H
      go_enter Try.func3, Try.ntmps3
      go_upto_if 37 with (first | ((with_reducible refine gate_callee (f := 11) rfl ?_); refine goesL_ (some 23) rfl rfl Try.func11 (by kernel_rfl) rfl #[.slice A1 l1.length c1, .string a2, .string (⟨#[]⟩ : ByteArray)] rfl (by (try simp only [List.map_toArray, List.map_cons, List.map_nil]); first | done | rfl | (simp only [List.length_drop, List.length_take]; rfl)) ?_; (with_reducible refine (drovewaylaw04_few.calls _ _ l1 a2 (⟨#[]⟩ : ByteArray) true _ ?side1 ?side2 A6.out).mono ?_); (case side1 => repeat (first | exact HR1.out | (with_reducible refine Kd.C_alloc ?_ _) | (with_reducible refine Kd.C_drewN ?_ _) | (with_reducible refine Kd.C_drew ?_))); (case side2 => exact HC1.out); rintro e w' ⟨rfl, ⟨nd, rfl⟩⟩; refine ⟨_, rfl, ?_⟩) | ((with_reducible refine gate_callee (f := 13) rfl ?_); refine goesL_ (some 30) rfl rfl Try.func13 (by kernel_rfl) rfl #[.int .i64 a0, .slice A1 l1.length c1, .string a2] rfl (by (try simp only [List.map_toArray, List.map_cons, List.map_nil]); first | done | rfl | (simp only [List.length_drop, List.length_take]; rfl)) ?_; (with_reducible refine (drovewayref04_Placed.calls k a0 _ _ l1 a2 t139 t140 t141 _ ?side1 ?side2 A8.out).mono ?_); (case side1 => repeat (first | exact HR1.out | (with_reducible refine Kd.C_alloc ?_ _) | (with_reducible refine Kd.C_drewN ?_ _) | (with_reducible refine Kd.C_drew ?_))); (case side2 => exact HC1.out); rintro e w' ⟨rfl, ⟨nd, rfl⟩⟩; refine ⟨_, rfl, ?_⟩))
      (try simp only [Act.put, List.setIfInBounds_toArray, List.set_cons_zero, List.set_cons_succ])
      go_cut [14, 15] (fun v14 v15 wc => ∃ (kq : Nat) (x14_9 : ByteArray) (x15_9 : ByteArray), v14 = .string x14_9 ∧ v15 = .string x15_9 ∧ Aside0 (drovewaylaw04_AmbushMore.j0 kq a0 l1 a2 a4 x14_9 x15_9 = some r) ∧ Aside0 (kq ≤ k) ∧ Aside0 (Below w.heap.size w wc))
      case first =>
        have H := HC10.out
        clear HC10
        by_cases c11 : a3 = true
        · subst c11
          have H1 : (drovewaylaw04_AmbushMore.j0 k a0 l1 a2 a4 (⟨#[119]⟩ : ByteArray) (⟨#[100]⟩ : ByteArray)) = some r := by rw [if_pos rfl] at H; exact H
          clear H
          have H := H1
          clear H1
          have H' := Aside0.mk H
          clear H
          go_wp2
          go_meet
          case rel => exact ⟨_, ((⟨#[119]⟩ : ByteArray)), ((⟨#[100]⟩ : ByteArray)), (by first | rfl | (simp; done) | (simp [*]; done)), (by first | rfl | (simp; done) | (simp [*]; done)), H', ⟨by first | omega | exact Nat.le_refl _⟩, ⟨by repeat (first | (with_reducible first | exact HB.out | apply below_alloc | apply pw_below_drewN | apply below_drew1) | exact HB.out)⟩⟩
        · replace c11 := Bool.eq_false_iff.mpr c11
          subst c11
          have H1 : (drovewaylaw04_AmbushMore.j0 k a0 l1 a2 a4 (⟨#[100]⟩ : ByteArray) (⟨#[119]⟩ : ByteArray)) = some r := by rw [if_neg (show ¬ (false = true) by decide)] at H; exact H
          clear H
          have H := H1
          clear H1
          have H' := Aside0.mk H
          clear H
          go_wp2
          go_meet
          case rel => exact ⟨_, ((⟨#[100]⟩ : ByteArray)), ((⟨#[119]⟩ : ByteArray)), (by first | rfl | (simp; done) | (simp [*]; done)), (by first | rfl | (simp; done) | (simp [*]; done)), H', ⟨by first | omega | exact Nat.le_refl _⟩, ⟨by repeat (first | (with_reducible first | exact HB.out | apply below_alloc | apply pw_below_drewN | apply below_drew1) | exact HB.out)⟩⟩
      case rest =>
        clear HC10
        try clear c1
        try clear p2
        try clear c3
        try clear c7
        try clear c9
        try clear c9b0
        try clear c9b1
        try clear c11
        obtain ⟨kq, x14_9, x15_9, rfl, rfl, HA, HJ9, HB⟩ := hcut
        cases kq with
        | zero => exact absurd HA.out (by simp [drovewaylaw04_AmbushMore.j0])
        | succ kj9 =>
          have H := HA.out
          clear HA
          simp only [drovewaylaw04_AmbushMore.j0] at H
          replace H := Option.bind_eq_some_iff.mp H
          obtain ⟨⟨t143, t144⟩, A120, H⟩ := H
          replace H : (if a0 = 0 then (none) else ((drovewaylaw04_placed.f a2 (Int.tmod (wrap64 (a4)) a0) 119).bind fun t145 => ((ambush_Winner.f a0 l1 t145 x14_9).bind fun bt146 => ((ambush_Winner.f a0 l1 a2 x15_9).bind fun bt148 => (if t144 = 0 then (if bt146.2 = 0 then (if bt148.2 = 0 then (if t143.toList = ([119] : List UInt8) then (if bt146.1.toList = ([119] : List UInt8) then (drovewaylaw04_AmbushMore.j1 kj9 a2 x14_9 t143 bt148.1 false) else (drovewaylaw04_AmbushMore.j1 kj9 a2 x14_9 t143 bt148.1 true)) else (drovewaylaw04_AmbushMore.j1 kj9 a2 x14_9 t143 bt148.1 (t143.toList != ([100] : List UInt8)))) else (drovewaylaw04_AmbushMore.j1 kj9 a2 x14_9 t143 bt148.1 true)) else (drovewaylaw04_AmbushMore.j1 kj9 a2 x14_9 t143 bt148.1 true)) else (drovewaylaw04_AmbushMore.j1 kj9 a2 x14_9 t143 bt148.1 true)))))) = some r := H
          have A12 := Aside0.mk A120
          clear A120
          by_cases c13 : a0 = 0
          · rw [if_pos c13] at H
            exact absurd H (by simp)
          · rw [if_neg c13] at H
            have c13b0 : (a0 == 0) = false := beq_eq_false_iff_ne.mpr c13
            have c13b1 : (a0 != 0) = true := bne_iff_ne.mpr c13
            replace H := Option.bind_eq_some_iff.mp H
            obtain ⟨t145, A140, H⟩ := H
            replace H : ((ambush_Winner.f a0 l1 t145 x14_9).bind fun bt146 => ((ambush_Winner.f a0 l1 a2 x15_9).bind fun bt148 => (if t144 = 0 then (if bt146.2 = 0 then (if bt148.2 = 0 then (if t143.toList = ([119] : List UInt8) then (if bt146.1.toList = ([119] : List UInt8) then (drovewaylaw04_AmbushMore.j1 kj9 a2 x14_9 t143 bt148.1 false) else (drovewaylaw04_AmbushMore.j1 kj9 a2 x14_9 t143 bt148.1 true)) else (drovewaylaw04_AmbushMore.j1 kj9 a2 x14_9 t143 bt148.1 (t143.toList != ([100] : List UInt8)))) else (drovewaylaw04_AmbushMore.j1 kj9 a2 x14_9 t143 bt148.1 true)) else (drovewaylaw04_AmbushMore.j1 kj9 a2 x14_9 t143 bt148.1 true)) else (drovewaylaw04_AmbushMore.j1 kj9 a2 x14_9 t143 bt148.1 true)))) = some r := H
            have A14 := Aside0.mk A140
            clear A140
            replace H := Option.bind_eq_some_iff.mp H
            obtain ⟨⟨t146, t147⟩, A150, H⟩ := H
            replace H : ((ambush_Winner.f a0 l1 a2 x15_9).bind fun bt148 => (if t144 = 0 then (if t147 = 0 then (if bt148.2 = 0 then (if t143.toList = ([119] : List UInt8) then (if t146.toList = ([119] : List UInt8) then (drovewaylaw04_AmbushMore.j1 kj9 a2 x14_9 t143 bt148.1 false) else (drovewaylaw04_AmbushMore.j1 kj9 a2 x14_9 t143 bt148.1 true)) else (drovewaylaw04_AmbushMore.j1 kj9 a2 x14_9 t143 bt148.1 (t143.toList != ([100] : List UInt8)))) else (drovewaylaw04_AmbushMore.j1 kj9 a2 x14_9 t143 bt148.1 true)) else (drovewaylaw04_AmbushMore.j1 kj9 a2 x14_9 t143 bt148.1 true)) else (drovewaylaw04_AmbushMore.j1 kj9 a2 x14_9 t143 bt148.1 true))) = some r := H
            have A15 := Aside0.mk A150
            clear A150
            replace H := Option.bind_eq_some_iff.mp H
            obtain ⟨⟨t148, t149⟩, A160, H⟩ := H
            replace H : (if t144 = 0 then (if t147 = 0 then (if t149 = 0 then (if t143.toList = ([119] : List UInt8) then (if t146.toList = ([119] : List UInt8) then (drovewaylaw04_AmbushMore.j1 kj9 a2 x14_9 t143 t148 false) else (drovewaylaw04_AmbushMore.j1 kj9 a2 x14_9 t143 t148 true)) else (drovewaylaw04_AmbushMore.j1 kj9 a2 x14_9 t143 t148 (t143.toList != ([100] : List UInt8)))) else (drovewaylaw04_AmbushMore.j1 kj9 a2 x14_9 t143 t148 true)) else (drovewaylaw04_AmbushMore.j1 kj9 a2 x14_9 t143 t148 true)) else (drovewaylaw04_AmbushMore.j1 kj9 a2 x14_9 t143 t148 true)) = some r := H
            have A16 := Aside0.mk A160
            clear A160
            have HC17 := Aside0.mk H
            clear H
            go_upto_region 13 with (first | ((with_reducible refine gate_callee (f := 14) rfl ?_); refine goesL_ (some 43) rfl rfl Try.func14 (by kernel_rfl) rfl #[.int .i64 a0, .slice A1 l1.length c1, .string a2, .string x14_9] rfl (by (try simp only [List.map_toArray, List.map_cons, List.map_nil]); first | done | rfl | (simp only [List.length_drop, List.length_take]; rfl)) ?_; (with_reducible refine (ambush_Winner.calls a0 _ _ l1 a2 x14_9 t143 t144 _ ?side1 ?side2 A12.out).mono ?_); (case side1 => repeat (first | exact (Kd.C_below HR1.out HB.out) | (with_reducible refine Kd.C_alloc ?_ _) | (with_reducible refine Kd.C_drewN ?_ _) | (with_reducible refine Kd.C_drew ?_))); (case side2 => exact HC1.out); rintro e w18 ⟨rfl, hb⟩; refine ⟨_, rfl, ?_⟩; have n0_ := Aside0.mk (below_step (by repeat (first | (with_reducible first | exact HB.out | apply below_alloc | apply pw_below_drewN | apply below_drew1) | exact HB.out)) hb); clear HB; have HB := n0_; clear n0_; (try clear hb); (try clear hb2); (try clear hk); (try clear hi)) | ((with_reducible refine gate_callee (f := 15) rfl ?_); refine goesL_ (some 54) rfl rfl Try.func15 (by kernel_rfl) rfl #[.string a2, .int .i64 (Int.tmod (wrap64 (a4)) a0), .int .u8 119] rfl (by (try simp only [List.map_toArray, List.map_cons, List.map_nil]); first | done | rfl | (simp only [List.length_drop, List.length_take]; rfl)) ?_; (with_reducible refine (drovewaylaw04_placed.calls a2 (Int.tmod (wrap64 (a4)) a0) 119 t145 _ A14.out).mono ?_); rintro e w19 ⟨rfl, hb⟩; refine ⟨_, rfl, ?_⟩; have n0_ := Aside0.mk (below_step (by repeat (first | (with_reducible first | exact HB.out | apply below_alloc | apply pw_below_drewN | apply below_drew1) | exact HB.out)) hb); clear HB; have HB := n0_; clear n0_; (try clear hb); (try clear hb2); (try clear hk); (try clear hi)) | ((with_reducible refine gate_callee (f := 14) rfl ?_); refine goesL_ (some 56) rfl rfl Try.func14 (by kernel_rfl) rfl #[.int .i64 a0, .slice A1 l1.length c1, .string t145, .string x14_9] rfl (by (try simp only [List.map_toArray, List.map_cons, List.map_nil]); first | done | rfl | (simp only [List.length_drop, List.length_take]; rfl)) ?_; (with_reducible refine (ambush_Winner.calls a0 _ _ l1 t145 x14_9 t146 t147 _ ?side1 ?side2 A15.out).mono ?_); (case side1 => repeat (first | exact (Kd.C_below HR1.out HB.out) | (with_reducible refine Kd.C_alloc ?_ _) | (with_reducible refine Kd.C_drewN ?_ _) | (with_reducible refine Kd.C_drew ?_))); (case side2 => exact HC1.out); rintro e w20 ⟨rfl, hb⟩; refine ⟨_, rfl, ?_⟩; have n0_ := Aside0.mk (below_step (by repeat (first | (with_reducible first | exact HB.out | apply below_alloc | apply pw_below_drewN | apply below_drew1) | exact HB.out)) hb); clear HB; have HB := n0_; clear n0_; (try clear hb); (try clear hb2); (try clear hk); (try clear hi)) | ((with_reducible refine gate_callee (f := 14) rfl ?_); refine goesL_ (some 64) rfl rfl Try.func14 (by kernel_rfl) rfl #[.int .i64 a0, .slice A1 l1.length c1, .string a2, .string x15_9] rfl (by (try simp only [List.map_toArray, List.map_cons, List.map_nil]); first | done | rfl | (simp only [List.length_drop, List.length_take]; rfl)) ?_; (with_reducible refine (ambush_Winner.calls a0 _ _ l1 a2 x15_9 t148 t149 _ ?side1 ?side2 A16.out).mono ?_); (case side1 => repeat (first | exact (Kd.C_below HR1.out HB.out) | (with_reducible refine Kd.C_alloc ?_ _) | (with_reducible refine Kd.C_drewN ?_ _) | (with_reducible refine Kd.C_drew ?_))); (case side2 => exact HC1.out); rintro e w21 ⟨rfl, hb⟩; refine ⟨_, rfl, ?_⟩; have n0_ := Aside0.mk (below_step (by repeat (first | (with_reducible first | exact HB.out | apply below_alloc | apply pw_below_drewN | apply below_drew1) | exact HB.out)) hb); clear HB; have HB := n0_; clear n0_; (try clear hb); (try clear hb2); (try clear hk); (try clear hi)))
            (try simp only [Act.put, List.setIfInBounds_toArray, List.set_cons_zero, List.set_cons_succ])
            go_cut [92] (fun v92 wc => ∃ (kq : Nat) (x92_16 : Bool), v92 = .bool x92_16 ∧ Aside0 (drovewaylaw04_AmbushMore.j1 kq a2 x14_9 t143 t148 x92_16 = some r) ∧ Aside0 (kq ≤ kj9) ∧ Aside0 (Below w.heap.size w wc))
            case first =>
              have H := HC17.out
              clear HC17
              by_cases c22 : t144 = 0
              · rw [if_pos c22] at H
                have c22b0 : (t144 == 0) = true := beq_iff_eq.mpr c22
                have c22b1 : (t144 != 0) = false := bne_eq_false_iff_eq.mpr c22
                clear c22
                (first | rw [c22b0] | (simp only [i64_w, i32_w]; rw [c22b0]) | skip)
                by_cases c23 : t147 = 0
                · rw [if_pos c23] at H
                  have c23b0 : (t147 == 0) = true := beq_iff_eq.mpr c23
                  have c23b1 : (t147 != 0) = false := bne_eq_false_iff_eq.mpr c23
                  clear c23
                  by_cases c24 : t149 = 0
                  · rw [if_pos c24] at H
                    have c24b0 : (t149 == 0) = true := beq_iff_eq.mpr c24
                    have c24b1 : (t149 != 0) = false := bne_eq_false_iff_eq.mpr c24
                    clear c24
                    by_cases c25 : t143.toList = ([119] : List UInt8)
                    · rw [if_pos c25] at H
                      have c25b0 : (t143.toList == ([119] : List UInt8)) = true := beq_iff_eq.mpr c25
                      have c25b1 : (t143.toList != ([119] : List UInt8)) = false := bne_eq_false_iff_eq.mpr c25
                      clear c25
                      by_cases c26 : t146.toList = ([119] : List UInt8)
                      · rw [if_pos c26] at H
                        have c26b0 : (t146.toList == ([119] : List UInt8)) = true := beq_iff_eq.mpr c26
                        have c26b1 : (t146.toList != ([119] : List UInt8)) = false := bne_eq_false_iff_eq.mpr c26
                        clear c26
                        have H' := Aside0.mk H
                        clear H
                        go_wp2
                        go_meet
                        case rel => exact ⟨_, (false), (by first | rfl | (simp; done) | (simp [*]; done)), H', ⟨by have := HJ9.out; first | omega | exact Nat.le_refl _⟩, ⟨by repeat (first | (with_reducible first | exact HB.out | apply below_alloc | apply pw_below_drewN | apply below_drew1) | exact HB.out)⟩⟩
                      · rw [if_neg c26] at H
                        have c26b0 : (t146.toList == ([119] : List UInt8)) = false := beq_eq_false_iff_ne.mpr c26
                        have c26b1 : (t146.toList != ([119] : List UInt8)) = true := bne_iff_ne.mpr c26
                        have H' := Aside0.mk H
                        clear H
                        go_wp2
                        go_meet
                        case rel => exact ⟨_, (true), (by first | rfl | (simp; done) | (simp [*]; done)), H', ⟨by have := HJ9.out; first | omega | exact Nat.le_refl _⟩, ⟨by repeat (first | (with_reducible first | exact HB.out | apply below_alloc | apply pw_below_drewN | apply below_drew1) | exact HB.out)⟩⟩
                    · rw [if_neg c25] at H
                      have c25b0 : (t143.toList == ([119] : List UInt8)) = false := beq_eq_false_iff_ne.mpr c25
                      have c25b1 : (t143.toList != ([119] : List UInt8)) = true := bne_iff_ne.mpr c25
                      have H' := Aside0.mk H
                      clear H
                      go_wp2
                      go_meet
                      case rel => exact ⟨_, ((t143.toList != ([100] : List UInt8))), (by first | rfl | (simp; done) | (simp [*]; done)), H', ⟨by have := HJ9.out; first | omega | exact Nat.le_refl _⟩, ⟨by repeat (first | (with_reducible first | exact HB.out | apply below_alloc | apply pw_below_drewN | apply below_drew1) | exact HB.out)⟩⟩
                  · rw [if_neg c24] at H
                    have c24b0 : (t149 == 0) = false := beq_eq_false_iff_ne.mpr c24
                    have c24b1 : (t149 != 0) = true := bne_iff_ne.mpr c24
                    have H' := Aside0.mk H
                    clear H
                    go_wp2
                    go_meet
                    case rel => exact ⟨_, (true), (by first | rfl | (simp; done) | (simp [*]; done)), H', ⟨by have := HJ9.out; first | omega | exact Nat.le_refl _⟩, ⟨by repeat (first | (with_reducible first | exact HB.out | apply below_alloc | apply pw_below_drewN | apply below_drew1) | exact HB.out)⟩⟩
                · rw [if_neg c23] at H
                  have c23b0 : (t147 == 0) = false := beq_eq_false_iff_ne.mpr c23
                  have c23b1 : (t147 != 0) = true := bne_iff_ne.mpr c23
                  have H' := Aside0.mk H
                  clear H
                  go_wp2
                  go_meet
                  case rel => exact ⟨_, (true), (by first | rfl | (simp; done) | (simp [*]; done)), H', ⟨by have := HJ9.out; first | omega | exact Nat.le_refl _⟩, ⟨by repeat (first | (with_reducible first | exact HB.out | apply below_alloc | apply pw_below_drewN | apply below_drew1) | exact HB.out)⟩⟩
              · rw [if_neg c22] at H
                have c22b0 : (t144 == 0) = false := beq_eq_false_iff_ne.mpr c22
                have c22b1 : (t144 != 0) = true := bne_iff_ne.mpr c22
                (first | rw [c22b0] | (simp only [i64_w, i32_w]; rw [c22b0]) | skip)
                have H' := Aside0.mk H
                clear H
                go_wp2
                go_meet
                case rel => exact ⟨_, (true), (by first | rfl | (simp; done) | (simp [*]; done)), H', ⟨by have := HJ9.out; first | omega | exact Nat.le_refl _⟩, ⟨by repeat (first | (with_reducible first | exact HB.out | apply below_alloc | apply pw_below_drewN | apply below_drew1) | exact HB.out)⟩⟩
            case rest =>
              clear HC17
              try clear c1
              try clear c2
              try clear p2
              try clear c3
              try clear p6
              try clear c7
              try clear c9
              try clear c9b0
              try clear c9b1
              try clear c11
              try clear c13
              try clear c13b0
              try clear c13b1
              try clear c14
              try clear c15
              try clear c22
              try clear c22b0
              try clear c22b1
              try clear c23
              try clear c23b0
              try clear c23b1
              try clear c24
              try clear c24b0
              try clear c24b1
              try clear c25
              try clear c25b0
              try clear c25b1
              try clear c26
              try clear c26b0
              try clear c26b1
              try clear p2
              obtain ⟨kq, x92_16, rfl, HA, HJ16, HB⟩ := hcut
              cases kq with
              | zero => exact absurd HA.out (by simp [drovewaylaw04_AmbushMore.j1])
              | succ kj16 =>
                have H := HA.out
                clear HA
                simp only [drovewaylaw04_AmbushMore.j1] at H
                by_cases c27 : x92_16 = true
                · subst c27
                  have H1 : (some false) = some r := by rw [if_pos rfl] at H; exact H
                  clear H
                  have H := H1
                  clear H1
                  obtain rfl := Option.some.inj H
                  go_wp2
                  go_ret
                  exact ⟨by first | rfl | (simp [errW_none, errW_some] <;> rfl) | (simp [*, errW_none, errW_some] <;> rfl), by repeat (first | (with_reducible first | exact HB.out | apply below_alloc | apply pw_below_drewN | apply below_drew1) | exact HB.out)⟩
                · replace c27 := Bool.eq_false_iff.mpr c27
                  subst c27
                  have H1 : ((drovewaylaw04_free.f kj16 a2).bind fun t150 => (if t150 = 0 then ((drovewaylaw04_alive.f kj16).bind fun t151 => (some t151)) else (if t148.toList = x14_9.toList then (if t143.toList = x14_9.toList then ((drovewaylaw04_alive.f kj16).bind fun t152 => (some t152)) else (some false)) else ((drovewaylaw04_alive.f kj16).bind fun t153 => (some t153))))) = some r := by rw [if_neg (show ¬ (false = true) by decide)] at H; exact H
                  clear H
                  have H := H1
                  clear H1
                  replace H := Option.bind_eq_some_iff.mp H
                  obtain ⟨t150, A280, H⟩ := H
                  replace H : (if t150 = 0 then ((drovewaylaw04_alive.f kj16).bind fun t151 => (some t151)) else (if t148.toList = x14_9.toList then (if t143.toList = x14_9.toList then ((drovewaylaw04_alive.f kj16).bind fun t152 => (some t152)) else (some false)) else ((drovewaylaw04_alive.f kj16).bind fun t153 => (some t153)))) = some r := H
                  have A28 := Aside0.mk A280
                  clear A280
                  by_cases c29 : t150 = 0
                  · rw [if_pos c29] at H
                    have c29b0 : (t150 == 0) = true := beq_iff_eq.mpr c29
                    have c29b1 : (t150 != 0) = false := bne_eq_false_iff_eq.mpr c29
                    clear c29
                    replace H := Option.bind_eq_some_iff.mp H
                    obtain ⟨t151, A300, H⟩ := H
                    replace H : (some t151) = some r := H
                    have A30 := Aside0.mk A300
                    clear A300
                    obtain rfl := Option.some.inj H
                    go_wp2_with (first | ((with_reducible refine gate_callee (f := 16) rfl ?_); refine goesL_ (some 94) rfl rfl Try.func16 (by kernel_rfl) rfl #[.string a2] rfl (by (try simp only [List.map_toArray, List.map_cons, List.map_nil]); first | done | rfl | (simp only [List.length_drop, List.length_take]; rfl)) ?_; (with_reducible refine (drovewaylaw04_free.calls kj16 a2 t150 _ A28.out).mono ?_); rintro e w' ⟨rfl, ⟨nd, rfl⟩⟩; refine ⟨_, rfl, ?_⟩) | (go_at_call 12; (with_reducible refine (drovewaylaw04_alive.calls kj16  t151 _ A30.out).mono ?_); rintro e w31 ⟨rfl, hb⟩; have n0_ := Aside0.mk (below_step (by repeat (first | (with_reducible first | exact HB.out | apply below_alloc | apply pw_below_drewN | apply below_drew1) | exact HB.out)) hb); clear HB; have HB := n0_; clear n0_; (try clear hb); (try clear hb2); (try clear hk); (try clear hi)))
                    go_ret
                    exact ⟨by first | rfl | (simp [errW_none, errW_some] <;> rfl) | (simp [*, errW_none, errW_some] <;> rfl), by repeat (first | (with_reducible first | exact HB.out | apply below_alloc | apply pw_below_drewN | apply below_drew1) | exact HB.out)⟩
                  · rw [if_neg c29] at H
                    have c29b0 : (t150 == 0) = false := beq_eq_false_iff_ne.mpr c29
                    have c29b1 : (t150 != 0) = true := bne_iff_ne.mpr c29
                    by_cases c32 : t148.toList = x14_9.toList
                    · rw [if_pos c32] at H
                      have c32b0 : (t148.toList == x14_9.toList) = true := beq_iff_eq.mpr c32
                      have c32b1 : (t148.toList != x14_9.toList) = false := bne_eq_false_iff_eq.mpr c32
                      clear c32
                      by_cases c33 : t143.toList = x14_9.toList
                      · rw [if_pos c33] at H
                        have c33b0 : (t143.toList == x14_9.toList) = true := beq_iff_eq.mpr c33
                        have c33b1 : (t143.toList != x14_9.toList) = false := bne_eq_false_iff_eq.mpr c33
                        clear c33
                        replace H := Option.bind_eq_some_iff.mp H
                        obtain ⟨t152, A340, H⟩ := H
                        replace H : (some t152) = some r := H
                        have A34 := Aside0.mk A340
                        clear A340
                        obtain rfl := Option.some.inj H
                        go_wp2_with (first | ((with_reducible refine gate_callee (f := 16) rfl ?_); refine goesL_ (some 94) rfl rfl Try.func16 (by kernel_rfl) rfl #[.string a2] rfl (by (try simp only [List.map_toArray, List.map_cons, List.map_nil]); first | done | rfl | (simp only [List.length_drop, List.length_take]; rfl)) ?_; (with_reducible refine (drovewaylaw04_free.calls kj16 a2 t150 _ A28.out).mono ?_); rintro e w' ⟨rfl, ⟨nd, rfl⟩⟩; refine ⟨_, rfl, ?_⟩) | (go_at_call 12; (with_reducible refine (drovewaylaw04_alive.calls kj16  t152 _ A34.out).mono ?_); rintro e w35 ⟨rfl, hb⟩; have n0_ := Aside0.mk (below_step (by repeat (first | (with_reducible first | exact HB.out | apply below_alloc | apply pw_below_drewN | apply below_drew1) | exact HB.out)) hb); clear HB; have HB := n0_; clear n0_; (try clear hb); (try clear hb2); (try clear hk); (try clear hi)))
                        go_ret
                        exact ⟨by first | rfl | (simp [errW_none, errW_some] <;> rfl) | (simp [*, errW_none, errW_some] <;> rfl), by repeat (first | (with_reducible first | exact HB.out | apply below_alloc | apply pw_below_drewN | apply below_drew1) | exact HB.out)⟩
                      · rw [if_neg c33] at H
                        have c33b0 : (t143.toList == x14_9.toList) = false := beq_eq_false_iff_ne.mpr c33
                        have c33b1 : (t143.toList != x14_9.toList) = true := bne_iff_ne.mpr c33
                        obtain rfl := Option.some.inj H
                        go_wp2_with (first | ((with_reducible refine gate_callee (f := 16) rfl ?_); refine goesL_ (some 94) rfl rfl Try.func16 (by kernel_rfl) rfl #[.string a2] rfl (by (try simp only [List.map_toArray, List.map_cons, List.map_nil]); first | done | rfl | (simp only [List.length_drop, List.length_take]; rfl)) ?_; (with_reducible refine (drovewaylaw04_free.calls kj16 a2 t150 _ A28.out).mono ?_); rintro e w' ⟨rfl, ⟨nd, rfl⟩⟩; refine ⟨_, rfl, ?_⟩))
                        go_ret
                        exact ⟨by first | rfl | (simp [errW_none, errW_some] <;> rfl) | (simp [*, errW_none, errW_some] <;> rfl), by repeat (first | (with_reducible first | exact HB.out | apply below_alloc | apply pw_below_drewN | apply below_drew1) | exact HB.out)⟩
                    · rw [if_neg c32] at H
                      have c32b0 : (t148.toList == x14_9.toList) = false := beq_eq_false_iff_ne.mpr c32
                      have c32b1 : (t148.toList != x14_9.toList) = true := bne_iff_ne.mpr c32
                      replace H := Option.bind_eq_some_iff.mp H
                      obtain ⟨t153, A360, H⟩ := H
                      replace H : (some t153) = some r := H
                      have A36 := Aside0.mk A360
                      clear A360
                      obtain rfl := Option.some.inj H
                      go_wp2_with (first | ((with_reducible refine gate_callee (f := 16) rfl ?_); refine goesL_ (some 94) rfl rfl Try.func16 (by kernel_rfl) rfl #[.string a2] rfl (by (try simp only [List.map_toArray, List.map_cons, List.map_nil]); first | done | rfl | (simp only [List.length_drop, List.length_take]; rfl)) ?_; (with_reducible refine (drovewaylaw04_free.calls kj16 a2 t150 _ A28.out).mono ?_); rintro e w' ⟨rfl, ⟨nd, rfl⟩⟩; refine ⟨_, rfl, ?_⟩) | (go_at_call 12; (with_reducible refine (drovewaylaw04_alive.calls kj16  t153 _ A36.out).mono ?_); rintro e w37 ⟨rfl, hb⟩; have n0_ := Aside0.mk (below_step (by repeat (first | (with_reducible first | exact HB.out | apply below_alloc | apply pw_below_drewN | apply below_drew1) | exact HB.out)) hb); clear HB; have HB := n0_; clear n0_; (try clear hb); (try clear hb2); (try clear hk); (try clear hi)))
                      go_ret
                      exact ⟨by first | rfl | (simp [errW_none, errW_some] <;> rfl) | (simp [*, errW_none, errW_some] <;> rfl), by repeat (first | (with_reducible first | exact HB.out | apply below_alloc | apply pw_below_drewN | apply below_drew1) | exact HB.out)⟩
    · rw [if_neg c9] at H
      have c9b0 : (t141 == 0) = false := beq_eq_false_iff_ne.mpr c9
      have c9b1 : (t141 != 0) = true := bne_iff_ne.mpr c9
      replace H := Option.bind_eq_some_iff.mp H
      obtain ⟨t142, A380, H⟩ := H
      replace H : (some t142) = some r := H
      have A38 := Aside0.mk A380
      clear A380
      obtain rfl := Option.some.inj H
      go_enter Try.func3, Try.ntmps3
      go_wp2_with (first | ((with_reducible refine gate_callee (f := 11) rfl ?_); refine goesL_ (some 23) rfl rfl Try.func11 (by kernel_rfl) rfl #[.slice A1 l1.length c1, .string a2, .string (⟨#[]⟩ : ByteArray)] rfl (by (try simp only [List.map_toArray, List.map_cons, List.map_nil]); first | done | rfl | (simp only [List.length_drop, List.length_take]; rfl)) ?_; (with_reducible refine (drovewaylaw04_few.calls _ _ l1 a2 (⟨#[]⟩ : ByteArray) true _ ?side1 ?side2 A6.out).mono ?_); (case side1 => repeat (first | exact HR1.out | (with_reducible refine Kd.C_alloc ?_ _) | (with_reducible refine Kd.C_drewN ?_ _) | (with_reducible refine Kd.C_drew ?_))); (case side2 => exact HC1.out); rintro e w' ⟨rfl, ⟨nd, rfl⟩⟩; refine ⟨_, rfl, ?_⟩) | ((with_reducible refine gate_callee (f := 13) rfl ?_); refine goesL_ (some 30) rfl rfl Try.func13 (by kernel_rfl) rfl #[.int .i64 a0, .slice A1 l1.length c1, .string a2] rfl (by (try simp only [List.map_toArray, List.map_cons, List.map_nil]); first | done | rfl | (simp only [List.length_drop, List.length_take]; rfl)) ?_; (with_reducible refine (drovewayref04_Placed.calls k a0 _ _ l1 a2 t139 t140 t141 _ ?side1 ?side2 A8.out).mono ?_); (case side1 => repeat (first | exact HR1.out | (with_reducible refine Kd.C_alloc ?_ _) | (with_reducible refine Kd.C_drewN ?_ _) | (with_reducible refine Kd.C_drew ?_))); (case side2 => exact HC1.out); rintro e w' ⟨rfl, ⟨nd, rfl⟩⟩; refine ⟨_, rfl, ?_⟩) | ((with_reducible refine gate_callee (f := 12) rfl ?_); refine goesL_ (some 36) rfl rfl Try.func12 (by kernel_rfl) rfl #[] rfl (by (try simp only [List.map_toArray, List.map_cons, List.map_nil]); first | done | rfl | (simp only [List.length_drop, List.length_take]; rfl)) ?_; (with_reducible refine (drovewaylaw04_alive.calls k  t142 _ A38.out).mono ?_); rintro e w39 ⟨rfl, hb⟩; refine ⟨_, rfl, ?_⟩; have n0_ := Aside0.mk (below_step (by repeat (first | (with_reducible first | exact HB.out | apply below_alloc | apply pw_below_drewN | apply below_drew1) | exact HB.out)) hb); clear HB; have HB := n0_; clear n0_; (try clear hb); (try clear hb2); (try clear hk); (try clear hi)))
      go_ret
      exact ⟨by first | rfl | (simp [errW_none, errW_some] <;> rfl) | (simp [*, errW_none, errW_some] <;> rfl), by repeat (first | (with_reducible first | exact HB.out | apply below_alloc | apply pw_below_drewN | apply below_drew1) | exact HB.out)⟩
  · replace c7 := Bool.eq_false_iff.mpr c7
    subst c7
    have H1 : ((drovewaylaw04_alive.f k).bind fun t138 => (some t138)) = some r := by rw [if_neg (show ¬ (false = true) by decide)] at H; exact H
    clear H
    have H := H1
    clear H1
    replace H := Option.bind_eq_some_iff.mp H
    obtain ⟨t138, A400, H⟩ := H
    replace H : (some t138) = some r := H
    have A40 := Aside0.mk A400
    clear A400
    obtain rfl := Option.some.inj H
    go_enter Try.func3, Try.ntmps3
    go_wp2_with (first | ((with_reducible refine gate_callee (f := 11) rfl ?_); refine goesL_ (some 23) rfl rfl Try.func11 (by kernel_rfl) rfl #[.slice A1 l1.length c1, .string a2, .string (⟨#[]⟩ : ByteArray)] rfl (by (try simp only [List.map_toArray, List.map_cons, List.map_nil]); first | done | rfl | (simp only [List.length_drop, List.length_take]; rfl)) ?_; (with_reducible refine (drovewaylaw04_few.calls _ _ l1 a2 (⟨#[]⟩ : ByteArray) false _ ?side1 ?side2 A6.out).mono ?_); (case side1 => repeat (first | exact HR1.out | (with_reducible refine Kd.C_alloc ?_ _) | (with_reducible refine Kd.C_drewN ?_ _) | (with_reducible refine Kd.C_drew ?_))); (case side2 => exact HC1.out); rintro e w' ⟨rfl, ⟨nd, rfl⟩⟩; refine ⟨_, rfl, ?_⟩) | ((with_reducible refine gate_callee (f := 12) rfl ?_); refine goesL_ (some 25) rfl rfl Try.func12 (by kernel_rfl) rfl #[] rfl (by (try simp only [List.map_toArray, List.map_cons, List.map_nil]); first | done | rfl | (simp only [List.length_drop, List.length_take]; rfl)) ?_; (with_reducible refine (drovewaylaw04_alive.calls k  t138 _ A40.out).mono ?_); rintro e w41 ⟨rfl, hb⟩; refine ⟨_, rfl, ?_⟩; have n0_ := Aside0.mk (below_step (by repeat (first | (with_reducible first | exact HB.out | apply below_alloc | apply pw_below_drewN | apply below_drew1) | exact HB.out)) hb); clear HB; have HB := n0_; clear n0_; (try clear hb); (try clear hb2); (try clear hk); (try clear hi)))
    go_ret
    exact ⟨by first | rfl | (simp [errW_none, errW_some] <;> rfl) | (simp [*, errW_none, errW_some] <;> rfl), by repeat (first | (with_reducible first | exact HB.out | apply below_alloc | apply pw_below_drewN | apply below_drew1) | exact HB.out)⟩

/-- THE ONE PURE STATEMENT of drovewaylaw04_AmbushMore: yours. -/
def drovewaylaw04_AmbushMore.Pure : Prop := ∀ (a0 : Int) (l1 : List Int) (a2 : ByteArray) (a3 : Bool) (a4 : Int), (Lit.int .i64 a0).wf = true → l1.length ≤ maxLen → l1.length * 8 ≤ 140737488351232 → (∀ x ∈ l1, (Lit.int .i64 x).wf = true) → a2.size ≤ 140737488351232 → (Lit.int .u8 a4).wf = true → ∃ k, drovewaylaw04_AmbushMore.f k a0 l1 a2 a3 a4 = some true
theorem drovewaylaw04_AmbushMore.walk (P : drovewaylaw04_AmbushMore.Pure) (a0 : Int) (a1 : Option Addr) (len1 cap1 : Nat) (z1 : List Int) (a2 : ByteArray) (a3 : Bool) (a4 : Int) (w : World) (w0 : (Lit.int .i64 a0).wf = true) (w1 : (a1 = none ∧ len1 = 0 ∧ cap1 = 0 ∧ z1 = []) ∨ ∃ x, a1 = some x ∧ len1 ≤ cap1 ∧ cap1 ≤ maxLen ∧ z1.length = cap1 ∧ (∀ i, i < z1.length → w.cell? (x.add i) = some (.int .i64 (z1.getD i 0))) ∧ ∀ n ∈ z1, (Lit.int .i64 n).wf = true) (y1 : len1 * 8 ≤ 140737488351232) (w2 : a2.size ≤ 140737488351232) (w4 : (Lit.int .u8 a4).wf = true) :
    Calls Try.prog 3 #[.int .i64 a0, .slice a1 len1 cap1, .string a2, .bool a3, .int .u8 a4] w fun e w' => e = .returned (.bool true) ∧ Below w.heap.size w w' := by
  obtain ⟨l1, rfl, hr1, hm1, hw1, hc1⟩ := ReadsInt.ofRowC w1
  obtain ⟨k, h⟩ := P a0 l1 a2 a3 a4 w0 hm1 y1 hw1 w2 w4
  refine (drovewaylaw04_AmbushMore.calls k a0 _ _ l1 a2 a3 a4 true w (Kd.C_of_reads (d := (0 : Int)) (h1 := fun _ => rfl) hr1) hc1 h).mono ?_
  rintro e w' ⟨rfl, hd⟩
  exact ⟨rfl, hd⟩

end Go.Proofs.Ytbjpjjokamaliaa.PAmbushMore
