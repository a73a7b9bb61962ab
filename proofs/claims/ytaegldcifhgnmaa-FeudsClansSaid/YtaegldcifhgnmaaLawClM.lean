/- FeudsClans holds: its code returns true and leaves what it was given as it was. Conditions: those of the given statement, none besides. -/
import Derived.Test.YtaegldcifhgnmaaZCl2
import Derived.Deep.Slices
import Derived.ChangeSame
import Derived.Test.YtaegldcifhgnmaaRows
import Derived.WalkKit
import Derived.ProofKit
import Derived.OpenShut
import Derived.ShutString
import Derived.ChangeOld
import Derived.Below
import Derived.SizedLaws
import Derived.Test.YtaegldcifhgnmaaWSized
-- Printed by hprint.py (this claim's own program, over the kit's print.py) out of the translation and contracts by hand. Not trusted: Lean checks it.
namespace Go.Proofs.Ytaegldcifhgnmaa.PFeudsClans
open Go.Proofs.Ytaegldcifhgnmaa.A Go.Proofs.Ytaegldcifhgnmaa.B
open Go.RowKit Go.Proofs.YtaegldcifhgnmaaW.PrintWords Go.Proofs.YtaegldcifhgnmaaW.PrintLast Go.Proofs.YtaegldcifhgnmaaW.PrintMore
attribute [local go_sem] max2_int min2_int max_two min_two max_three min_three max_four min_four   -- for this text's walks alone
set_option linter.unusedVariables false
set_option linter.unusedSimpArgs false

-- by hand: function 16 (drovewaylaw09_few)

-- by hand: function 17 (drovewaylaw09_alive)

-- by hand: function 22 (drovewaylaw09_same)

-- by hand: function 26 (feuds_Clans)

-- by hand: function 27 (drovewayref09_Clans)

-- by hand: function 28 (feuds_Spoilt)

-- by hand: function 29 (drovewayref09_Spoilt)

/-! ### drovewaylaw09_FeudsClans: function 6 -/
def drovewaylaw09_FeudsClans.j0 : Nat → Int → List (S39) → Bool → Option (Bool)
  | 0, _, _, _ => none
  | k + 1, x0, x1, x33 => if x33 = true then (some false) else ((feuds_Spoilt.f x0 x1).bind fun bt112 => ((drovewayref09_Spoilt.f x0 x1).bind fun bt116 => ((drovewaylaw09_same.f k bt112.1 bt116.1).bind fun t120 => (if t120 = true then (if bt112.2 = bt116.2 then ((drovewaylaw09_alive.f).bind fun t121 => (some t121)) else (some false)) else (some false)))))
def drovewaylaw09_FeudsClans.f (k : Nat) (a0 : Int) (l1 : List (S39)) : Option (Bool) := (drovewaylaw09_few.f l1 ([] : List Int)).bind fun t101 => (if t101 = true then ((feuds_Clans.f a0 l1).bind fun bt103 => ((drovewayref09_Clans.f k a0 l1).bind fun bt107 => ((drovewaylaw09_same.f k bt103.1 bt107.1).bind fun t111 => (if t111 = true then (drovewaylaw09_FeudsClans.j0 k a0 l1 (bt103.2 != bt107.2)) else (drovewaylaw09_FeudsClans.j0 k a0 l1 true))))) else ((drovewaylaw09_alive.f).bind fun t102 => (some t102)))
theorem drovewaylaw09_FeudsClans.mono_l : ∀ k, (∀ y0 y1 y2, LeO (drovewaylaw09_FeudsClans.j0 k y0 y1 y2) (drovewaylaw09_FeudsClans.j0 (k + 1) y0 y1 y2))
  | 0 => fun _ _ _ r h => by simp [drovewaylaw09_FeudsClans.j0] at h
  | k + 1 => by
    have ih0 := drovewaylaw09_FeudsClans.mono_l k
    · intro y0 y1 y2
      unfold drovewaylaw09_FeudsClans.j0
      repeat' first
      | (with_reducible exact ih0 _ _ _)
      | (with_reducible exact drovewaylaw09_same.mono _ _ _)
      | (with_reducible exact drovewayref09_Clans.mono _ _ _)
      | (with_reducible exact LeO.refl _)
      | (with_reducible exact LeO.none _)
      | (with_reducible refine LeO.ite ?_ ?_)
      | (with_reducible refine LeO.bind ?_ (fun _ => ?_))
      | exact ih0 _ _ _
      | exact drovewaylaw09_same.mono _ _ _
      | exact drovewayref09_Clans.mono _ _ _
      | exact LeO.none _
      | refine LeO.ite ?_ ?_
      | refine LeO.bind ?_ (fun _ => ?_)
theorem drovewaylaw09_FeudsClans.mono : ∀ a0 a1 k, LeO (drovewaylaw09_FeudsClans.f k a0 a1) (drovewaylaw09_FeudsClans.f (k + 1) a0 a1) := by
  intro a0 a1 k
  have ih0 := drovewaylaw09_FeudsClans.mono_l k
  unfold drovewaylaw09_FeudsClans.f
  repeat' first
      | (with_reducible exact ih0 _ _ _)
      | (with_reducible exact drovewaylaw09_same.mono _ _ _)
      | (with_reducible exact drovewayref09_Clans.mono _ _ _)
      | (with_reducible exact LeO.refl _)
      | (with_reducible exact LeO.none _)
      | (with_reducible refine LeO.ite ?_ ?_)
      | (with_reducible refine LeO.bind ?_ (fun _ => ?_))
      | exact ih0 _ _ _
      | exact drovewaylaw09_same.mono _ _ _
      | exact drovewayref09_Clans.mono _ _ _
      | exact LeO.none _
      | refine LeO.ite ?_ ?_
      | refine LeO.bind ?_ (fun _ => ?_)
set_option maxHeartbeats 8000000 in
set_option maxRecDepth 100000 in
theorem drovewaylaw09_FeudsClans.calls (k : Nat) (a0 : Int) (A1 : Option Addr) (c1 : Nat) (l1 : List (S39)) (r : Bool) (w : World) (hr1 : Kd.C k39 w A1 l1.length l1) (hc1 : l1.length ≤ c1) (h : drovewaylaw09_FeudsClans.f k a0 l1 = some r) :
    Calls Try.prog 6 #[.int .i64 a0, .slice A1 l1.length c1] w fun e w' => e = .returned (.bool r) ∧ Below w.heap.size w w' := by
  have HR1 := Aside0.mk hr1
  have HC1 := Aside0.mk hc1
  clear hr1 hc1
  have HB := Aside0.mk (Below.refl w.heap.size w)
  have H : ((drovewaylaw09_few.f l1 ([] : List Int)).bind fun t101 => (if t101 = true then ((feuds_Clans.f a0 l1).bind fun bt103 => ((drovewayref09_Clans.f k a0 l1).bind fun bt107 => ((drovewaylaw09_same.f k bt103.1 bt107.1).bind fun t111 => (if t111 = true then (drovewaylaw09_FeudsClans.j0 k a0 l1 (bt103.2 != bt107.2)) else (drovewaylaw09_FeudsClans.j0 k a0 l1 true))))) else ((drovewaylaw09_alive.f).bind fun t102 => (some t102)))) = some r := h
  clear h
  replace H := Option.bind_eq_some_iff.mp H
  obtain ⟨t101, A30, H⟩ := H
  replace H : (if t101 = true then ((feuds_Clans.f a0 l1).bind fun bt103 => ((drovewayref09_Clans.f k a0 l1).bind fun bt107 => ((drovewaylaw09_same.f k bt103.1 bt107.1).bind fun t111 => (if t111 = true then (drovewaylaw09_FeudsClans.j0 k a0 l1 (bt103.2 != bt107.2)) else (drovewaylaw09_FeudsClans.j0 k a0 l1 true))))) else ((drovewaylaw09_alive.f).bind fun t102 => (some t102))) = some r := H
  have A3 := Aside0.mk A30
  clear A30
  by_cases c4 : t101 = true
  · subst c4
    have H1 : ((feuds_Clans.f a0 l1).bind fun bt103 => ((drovewayref09_Clans.f k a0 l1).bind fun bt107 => ((drovewaylaw09_same.f k bt103.1 bt107.1).bind fun t111 => (if t111 = true then (drovewaylaw09_FeudsClans.j0 k a0 l1 (bt103.2 != bt107.2)) else (drovewaylaw09_FeudsClans.j0 k a0 l1 true))))) = some r := by rw [if_pos rfl] at H; exact H
    clear H
    have H := H1
    clear H1
    replace H := Option.bind_eq_some_iff.mp H
    obtain ⟨⟨t103, t104⟩, A50, H⟩ := H
    replace H : ((drovewayref09_Clans.f k a0 l1).bind fun bt107 => ((drovewaylaw09_same.f k t103 bt107.1).bind fun t111 => (if t111 = true then (drovewaylaw09_FeudsClans.j0 k a0 l1 (t104 != bt107.2)) else (drovewaylaw09_FeudsClans.j0 k a0 l1 true)))) = some r := H
    have A5 := Aside0.mk A50
    clear A50
    replace H := Option.bind_eq_some_iff.mp H
    obtain ⟨⟨t107, t108⟩, A60, H⟩ := H
    replace H : ((drovewaylaw09_same.f k t103 t107).bind fun t111 => (if t111 = true then (drovewaylaw09_FeudsClans.j0 k a0 l1 (t104 != t108)) else (drovewaylaw09_FeudsClans.j0 k a0 l1 true))) = some r := H
    have A6 := Aside0.mk A60
    clear A60
    have HC7 := Aside0.mk H
    clear H
    go_enter Try.func6, Try.ntmps6
    go_upto_region 5 with (first | ((with_reducible refine gate_callee (f := 16) rfl ?_); refine goesL_ (some 10) rfl rfl Try.func16 (by kernel_rfl) rfl #[.slice A1 l1.length c1, .slice none 0 0] rfl (by (try simp only [List.map_toArray, List.map_cons, List.map_nil]); first | done | rfl | (simp only [List.length_drop, List.length_take]; rfl)) ?_; (refine (drovewaylaw09_few.calls _ _ l1 _ _ ([] : List Int) true _ ?side1 ?side2 ?side3 ?side4 A3.out).mono ?_); (case side1 => repeat (first | exact HR1.out | (with_reducible refine Kd.C_alloc ?_ _) | (with_reducible refine Kd.C_drewN ?_ _) | (with_reducible refine Kd.C_drew ?_))); (case side2 => exact HC1.out); (case side3 => exact Kd.C_nil _ _); (case side4 => exact Nat.le_refl _); rintro e w' ⟨rfl, ⟨nd, rfl⟩⟩; refine ⟨_, rfl, ?_⟩) | ((with_reducible refine gate_callee (f := 26) rfl ?_); refine goesL_ (some 16) rfl rfl Try.func26 (by kernel_rfl) rfl #[.int .i64 a0, .slice A1 l1.length c1] rfl (by (try simp only [List.map_toArray, List.map_cons, List.map_nil]); first | done | rfl | (simp only [List.length_drop, List.length_take]; rfl)) ?_; (with_reducible refine (feuds_Clans.calls a0 _ _ l1 t103 t104 _ ?side1 ?side2 A5.out).mono ?_); (case side1 => repeat (first | exact HR1.out | (with_reducible refine Kd.C_alloc ?_ _) | (with_reducible refine Kd.C_drewN ?_ _) | (with_reducible refine Kd.C_drew ?_))); (case side2 => exact HC1.out); rintro e w8 ⟨v105, rfl, ho0, hb⟩; refine ⟨_, rfl, ?_⟩; have n0_ := Aside0.mk (Kd.R_lower ho0 (below_size (by repeat (first | (with_reducible first | exact HB.out | apply below_alloc | apply pw_below_drewN | apply below_drew1) | exact HB.out)))); have n1_ := Aside0.mk (below_step (by repeat (first | (with_reducible first | exact HB.out | apply below_alloc | apply pw_below_drewN | apply below_drew1) | exact HB.out)) hb); clear HB; have HO106 := n0_; have HB := n1_; clear n0_ n1_; (try clear hb); (try clear hb2); (try clear hk); (try clear hi); (try clear ho0)) | ((with_reducible refine gate_callee (f := 27) rfl ?_); refine goesL_ (some 22) rfl rfl Try.func27 (by kernel_rfl) rfl #[.int .i64 a0, .slice A1 l1.length c1] rfl (by (try simp only [List.map_toArray, List.map_cons, List.map_nil]); first | done | rfl | (simp only [List.length_drop, List.length_take]; rfl)) ?_; (with_reducible refine (drovewayref09_Clans.calls k a0 _ _ l1 t107 t108 _ ?side1 ?side2 A6.out).mono ?_); (case side1 => repeat (first | exact (Kd.C_below HR1.out HB.out) | (with_reducible refine Kd.C_alloc ?_ _) | (with_reducible refine Kd.C_drewN ?_ _) | (with_reducible refine Kd.C_drew ?_))); (case side2 => exact HC1.out); rintro e w9 ⟨v109, rfl, ho0, hb⟩; refine ⟨_, rfl, ?_⟩; have n0_ := Aside0.mk (Kd.R_elder' (by (with_reducible repeat (first | apply Kd.R_alloc | apply Kd.R_drewN | apply Kd.R_drew)); exact HO106.out) (Kd.R_base ho0) hb); have n1_ := Aside0.mk (Kd.R_lower (Kd.R_new' ho0 (Kd.R_lt (by (with_reducible repeat (first | apply Kd.R_alloc | apply Kd.R_drewN | apply Kd.R_drew)); exact HO106.out))) (below_size (by repeat (first | (with_reducible first | exact HB.out | apply below_alloc | apply pw_below_drewN | apply below_drew1) | exact HB.out)))); have n2_ := Aside0.mk (below_step (by repeat (first | (with_reducible first | exact HB.out | apply below_alloc | apply pw_below_drewN | apply below_drew1) | exact HB.out)) hb); clear HO106; clear HB; have HO106 := n0_; have HO110 := n1_; have HB := n2_; clear n0_ n1_ n2_; (try clear hb); (try clear hb2); (try clear hk); (try clear hi); (try clear ho0)))
    (try simp only [Act.put, List.setIfInBounds_toArray, List.set_cons_zero, List.set_cons_succ])
    go_cut [33] (fun v33 wc => ∃ (kq : Nat) (x33_6 : Bool), v33 = .bool x33_6 ∧ Aside0 (drovewaylaw09_FeudsClans.j0 kq a0 l1 x33_6 = some r) ∧ Aside0 (kq ≤ k) ∧ Aside0 (Below w.heap.size w wc))
    case first =>
      have H := HC7.out
      clear HC7
      replace H := Option.bind_eq_some_iff.mp H
      obtain ⟨t111, A100, H⟩ := H
      replace H : (if t111 = true then (drovewaylaw09_FeudsClans.j0 k a0 l1 (t104 != t108)) else (drovewaylaw09_FeudsClans.j0 k a0 l1 true)) = some r := H
      have A10 := Aside0.mk A100
      clear A100
      by_cases c11 : t111 = true
      · subst c11
        have H1 : (drovewaylaw09_FeudsClans.j0 k a0 l1 (t104 != t108)) = some r := by rw [if_pos rfl] at H; exact H
        clear H
        have H := H1
        clear H1
        have H' := Aside0.mk H
        clear H
        obtain ⟨Ao12, co12, eo12⟩ := Kd.R_slice HO106.out
        subst eo12
        obtain ⟨Ao13, co13, eo13⟩ := Kd.R_slice HO110.out
        subst eo13
        go_wp2_with (first | ((with_reducible refine gate_callee (f := 22) rfl ?_); refine goesL_ (some 27) rfl rfl Try.func22 (by kernel_rfl) rfl #[.slice Ao12 t103.length co12, .slice Ao13 t107.length co13] rfl (by (try simp only [List.map_toArray, List.map_cons, List.map_nil]); first | done | rfl | (simp only [List.length_drop, List.length_take]; rfl)) ?_; (with_reducible refine (drovewaylaw09_same.calls k _ _ t103 _ _ t107 true _ ?side1 ?side2 ?side3 ?side4 A10.out).mono ?_); (case side1 => repeat (first | exact (Kd.R_reads' HO106.out).2.2 | (with_reducible refine Kd.C_alloc ?_ _) | (with_reducible refine Kd.C_drewN ?_ _) | (with_reducible refine Kd.C_drew ?_))); (case side2 => exact (Kd.R_reads' HO106.out).2.1); (case side3 => repeat (first | exact (Kd.R_reads' HO110.out).2.2 | (with_reducible refine Kd.C_alloc ?_ _) | (with_reducible refine Kd.C_drewN ?_ _) | (with_reducible refine Kd.C_drew ?_))); (case side4 => exact (Kd.R_reads' HO110.out).2.1); rintro e w' ⟨rfl, ⟨nd, rfl⟩⟩; refine ⟨_, rfl, ?_⟩))
        go_meet
        case rel => exact ⟨_, ((t104 != t108)), (by first | rfl | (simp; done) | (simp [*]; done)), H', ⟨by first | omega | exact Nat.le_refl _⟩, ⟨by repeat (first | (with_reducible first | exact HB.out | apply below_alloc | apply pw_below_drewN | apply below_drew1) | exact HB.out)⟩⟩
      · replace c11 := Bool.eq_false_iff.mpr c11
        subst c11
        have H1 : (drovewaylaw09_FeudsClans.j0 k a0 l1 true) = some r := by rw [if_neg (show ¬ (false = true) by decide)] at H; exact H
        clear H
        have H := H1
        clear H1
        have H' := Aside0.mk H
        clear H
        obtain ⟨Ao14, co14, eo14⟩ := Kd.R_slice HO106.out
        subst eo14
        obtain ⟨Ao15, co15, eo15⟩ := Kd.R_slice HO110.out
        subst eo15
        go_wp2_with (first | ((with_reducible refine gate_callee (f := 22) rfl ?_); refine goesL_ (some 27) rfl rfl Try.func22 (by kernel_rfl) rfl #[.slice Ao14 t103.length co14, .slice Ao15 t107.length co15] rfl (by (try simp only [List.map_toArray, List.map_cons, List.map_nil]); first | done | rfl | (simp only [List.length_drop, List.length_take]; rfl)) ?_; (with_reducible refine (drovewaylaw09_same.calls k _ _ t103 _ _ t107 false _ ?side1 ?side2 ?side3 ?side4 A10.out).mono ?_); (case side1 => repeat (first | exact (Kd.R_reads' HO106.out).2.2 | (with_reducible refine Kd.C_alloc ?_ _) | (with_reducible refine Kd.C_drewN ?_ _) | (with_reducible refine Kd.C_drew ?_))); (case side2 => exact (Kd.R_reads' HO106.out).2.1); (case side3 => repeat (first | exact (Kd.R_reads' HO110.out).2.2 | (with_reducible refine Kd.C_alloc ?_ _) | (with_reducible refine Kd.C_drewN ?_ _) | (with_reducible refine Kd.C_drew ?_))); (case side4 => exact (Kd.R_reads' HO110.out).2.1); rintro e w' ⟨rfl, ⟨nd, rfl⟩⟩; refine ⟨_, rfl, ?_⟩))
        go_meet
        case rel => exact ⟨_, (true), (by first | rfl | (simp; done) | (simp [*]; done)), H', ⟨by first | omega | exact Nat.le_refl _⟩, ⟨by repeat (first | (with_reducible first | exact HB.out | apply below_alloc | apply pw_below_drewN | apply below_drew1) | exact HB.out)⟩⟩
    case rest =>
      clear HC7
      try clear c1
      try clear c2
      try clear p2
      try clear c4
      try clear c6
      try clear c11
      obtain ⟨kq, x33_6, rfl, HA, HJ6, HB⟩ := hcut
      cases kq with
      | zero => exact absurd HA.out (by simp [drovewaylaw09_FeudsClans.j0])
      | succ kj6 =>
        have H := HA.out
        clear HA
        simp only [drovewaylaw09_FeudsClans.j0] at H
        by_cases c16 : x33_6 = true
        · subst c16
          have H1 : (some false) = some r := by rw [if_pos rfl] at H; exact H
          clear H
          have H := H1
          clear H1
          obtain rfl := Option.some.inj H
          go_wp2
          go_ret
          exact ⟨by first | rfl | (simp [errW_none, errW_some] <;> rfl) | (simp [*, errW_none, errW_some] <;> rfl), by repeat (first | (with_reducible first | exact HB.out | apply below_alloc | apply pw_below_drewN | apply below_drew1) | exact HB.out)⟩
        · replace c16 := Bool.eq_false_iff.mpr c16
          subst c16
          have H1 : ((feuds_Spoilt.f a0 l1).bind fun bt112 => ((drovewayref09_Spoilt.f a0 l1).bind fun bt116 => ((drovewaylaw09_same.f kj6 bt112.1 bt116.1).bind fun t120 => (if t120 = true then (if bt112.2 = bt116.2 then ((drovewaylaw09_alive.f).bind fun t121 => (some t121)) else (some false)) else (some false))))) = some r := by rw [if_neg (show ¬ (false = true) by decide)] at H; exact H
          clear H
          have H := H1
          clear H1
          replace H := Option.bind_eq_some_iff.mp H
          obtain ⟨⟨t112, t113⟩, A170, H⟩ := H
          replace H : ((drovewayref09_Spoilt.f a0 l1).bind fun bt116 => ((drovewaylaw09_same.f kj6 t112 bt116.1).bind fun t120 => (if t120 = true then (if t113 = bt116.2 then ((drovewaylaw09_alive.f).bind fun t121 => (some t121)) else (some false)) else (some false)))) = some r := H
          have A17 := Aside0.mk A170
          clear A170
          replace H := Option.bind_eq_some_iff.mp H
          obtain ⟨⟨t116, t117⟩, A180, H⟩ := H
          replace H : ((drovewaylaw09_same.f kj6 t112 t116).bind fun t120 => (if t120 = true then (if t113 = t117 then ((drovewaylaw09_alive.f).bind fun t121 => (some t121)) else (some false)) else (some false))) = some r := H
          have A18 := Aside0.mk A180
          clear A180
          replace H := Option.bind_eq_some_iff.mp H
          obtain ⟨t120, A190, H⟩ := H
          replace H : (if t120 = true then (if t113 = t117 then ((drovewaylaw09_alive.f).bind fun t121 => (some t121)) else (some false)) else (some false)) = some r := H
          have A19 := Aside0.mk A190
          clear A190
          by_cases c20 : t120 = true
          · subst c20
            have H1 : (if t113 = t117 then ((drovewaylaw09_alive.f).bind fun t121 => (some t121)) else (some false)) = some r := by rw [if_pos rfl] at H; exact H
            clear H
            have H := H1
            clear H1
            by_cases c21 : t113 = t117
            · rw [if_pos c21] at H
              have c21b0 : (t113 == t117) = true := beq_iff_eq.mpr c21
              have c21b1 : (t113 != t117) = false := bne_eq_false_iff_eq.mpr c21
              clear c21
              replace H := Option.bind_eq_some_iff.mp H
              obtain ⟨t121, A220, H⟩ := H
              replace H : (some t121) = some r := H
              have A22 := Aside0.mk A220
              clear A220
              obtain rfl := Option.some.inj H
              go_wp2_with (first | ((with_reducible refine gate_callee (f := 28) rfl ?_); refine goesL_ (some 37) rfl rfl Try.func28 (by kernel_rfl) rfl #[.int .i64 a0, .slice A1 l1.length c1] rfl (by (try simp only [List.map_toArray, List.map_cons, List.map_nil]); first | done | rfl | (simp only [List.length_drop, List.length_take]; rfl)) ?_; (with_reducible refine (feuds_Spoilt.calls a0 _ _ l1 t112 t113 _ ?side1 ?side2 A17.out).mono ?_); (case side1 => repeat (first | exact (Kd.C_below HR1.out HB.out) | (with_reducible refine Kd.C_alloc ?_ _) | (with_reducible refine Kd.C_drewN ?_ _) | (with_reducible refine Kd.C_drew ?_))); (case side2 => exact HC1.out); rintro e w23 ⟨v114, rfl, ho0, hb⟩; refine ⟨_, rfl, ?_⟩; have n0_ := Aside0.mk (Kd.R_lower ho0 (below_size (by repeat (first | (with_reducible first | exact HB.out | apply below_alloc | apply pw_below_drewN | apply below_drew1) | exact HB.out)))); have n1_ := Aside0.mk (below_step (by repeat (first | (with_reducible first | exact HB.out | apply below_alloc | apply pw_below_drewN | apply below_drew1) | exact HB.out)) hb); clear HB; have HO115 := n0_; have HB := n1_; clear n0_ n1_; (try clear hb); (try clear hb2); (try clear hk); (try clear hi); (try clear ho0)) | ((with_reducible refine gate_callee (f := 29) rfl ?_); refine goesL_ (some 43) rfl rfl Try.func29 (by kernel_rfl) rfl #[.int .i64 a0, .slice A1 l1.length c1] rfl (by (try simp only [List.map_toArray, List.map_cons, List.map_nil]); first | done | rfl | (simp only [List.length_drop, List.length_take]; rfl)) ?_; (with_reducible refine (drovewayref09_Spoilt.calls a0 _ _ l1 t116 t117 _ ?side1 ?side2 A18.out).mono ?_); (case side1 => repeat (first | exact (Kd.C_below HR1.out HB.out) | (with_reducible refine Kd.C_alloc ?_ _) | (with_reducible refine Kd.C_drewN ?_ _) | (with_reducible refine Kd.C_drew ?_))); (case side2 => exact HC1.out); rintro e w24 ⟨v118, rfl, ho0, hb⟩; refine ⟨_, rfl, ?_⟩; have n0_ := Aside0.mk (Kd.R_elder' (by (with_reducible repeat (first | apply Kd.R_alloc | apply Kd.R_drewN | apply Kd.R_drew)); exact HO115.out) (Kd.R_base ho0) hb); have n1_ := Aside0.mk (Kd.R_lower (Kd.R_new' ho0 (Kd.R_lt (by (with_reducible repeat (first | apply Kd.R_alloc | apply Kd.R_drewN | apply Kd.R_drew)); exact HO115.out))) (below_size (by repeat (first | (with_reducible first | exact HB.out | apply below_alloc | apply pw_below_drewN | apply below_drew1) | exact HB.out)))); have n2_ := Aside0.mk (below_step (by repeat (first | (with_reducible first | exact HB.out | apply below_alloc | apply pw_below_drewN | apply below_drew1) | exact HB.out)) hb); clear HO115; clear HB; have HO115 := n0_; have HO119 := n1_; have HB := n2_; clear n0_ n1_ n2_; (try clear hb); (try clear hb2); (try clear hk); (try clear hi); (try clear ho0); obtain ⟨Ao25, co25, eo25⟩ := Kd.R_slice HO115.out; subst eo25; obtain ⟨Ao26, co26, eo26⟩ := Kd.R_slice HO119.out; subst eo26) | ((with_reducible refine gate_callee (f := 22) rfl ?_); refine goesL_ (some 48) rfl rfl Try.func22 (by kernel_rfl) rfl #[.slice Ao25 t112.length co25, .slice Ao26 t116.length co26] rfl (by (try simp only [List.map_toArray, List.map_cons, List.map_nil]); first | done | rfl | (simp only [List.length_drop, List.length_take]; rfl)) ?_; (with_reducible refine (drovewaylaw09_same.calls kj6 _ _ t112 _ _ t116 true _ ?side1 ?side2 ?side3 ?side4 A19.out).mono ?_); (case side1 => repeat (first | exact (Kd.R_reads' HO115.out).2.2 | (with_reducible refine Kd.C_alloc ?_ _) | (with_reducible refine Kd.C_drewN ?_ _) | (with_reducible refine Kd.C_drew ?_))); (case side2 => exact (Kd.R_reads' HO115.out).2.1); (case side3 => repeat (first | exact (Kd.R_reads' HO119.out).2.2 | (with_reducible refine Kd.C_alloc ?_ _) | (with_reducible refine Kd.C_drewN ?_ _) | (with_reducible refine Kd.C_drew ?_))); (case side4 => exact (Kd.R_reads' HO119.out).2.1); rintro e w' ⟨rfl, ⟨nd, rfl⟩⟩; refine ⟨_, rfl, ?_⟩) | (go_at_call 17; (with_reducible refine (drovewaylaw09_alive.calls  t121 _ A22.out).mono ?_); rintro e w27 ⟨rfl, hb⟩; have n0_ := Aside0.mk (Kd.R_below (by (with_reducible repeat (first | apply Kd.R_alloc | apply Kd.R_drewN | apply Kd.R_drew)); exact HO115.out) hb); have n1_ := Aside0.mk (Kd.R_below (by (with_reducible repeat (first | apply Kd.R_alloc | apply Kd.R_drewN | apply Kd.R_drew)); exact HO119.out) hb); have n2_ := Aside0.mk (below_step (by repeat (first | (with_reducible first | exact HB.out | apply below_alloc | apply pw_below_drewN | apply below_drew1) | exact HB.out)) hb); clear HO115; clear HO119; clear HB; have HO115 := n0_; have HO119 := n1_; have HB := n2_; clear n0_ n1_ n2_; (try clear hb); (try clear hb2); (try clear hk); (try clear hi)))
              go_ret
              exact ⟨by first | rfl | (simp [errW_none, errW_some] <;> rfl) | (simp [*, errW_none, errW_some] <;> rfl), by repeat (first | (with_reducible first | exact HB.out | apply below_alloc | apply pw_below_drewN | apply below_drew1) | exact HB.out)⟩
            · rw [if_neg c21] at H
              have c21b0 : (t113 == t117) = false := beq_eq_false_iff_ne.mpr c21
              have c21b1 : (t113 != t117) = true := bne_iff_ne.mpr c21
              obtain rfl := Option.some.inj H
              go_wp2_with (first | ((with_reducible refine gate_callee (f := 28) rfl ?_); refine goesL_ (some 37) rfl rfl Try.func28 (by kernel_rfl) rfl #[.int .i64 a0, .slice A1 l1.length c1] rfl (by (try simp only [List.map_toArray, List.map_cons, List.map_nil]); first | done | rfl | (simp only [List.length_drop, List.length_take]; rfl)) ?_; (with_reducible refine (feuds_Spoilt.calls a0 _ _ l1 t112 t113 _ ?side1 ?side2 A17.out).mono ?_); (case side1 => repeat (first | exact (Kd.C_below HR1.out HB.out) | (with_reducible refine Kd.C_alloc ?_ _) | (with_reducible refine Kd.C_drewN ?_ _) | (with_reducible refine Kd.C_drew ?_))); (case side2 => exact HC1.out); rintro e w28 ⟨v114, rfl, ho0, hb⟩; refine ⟨_, rfl, ?_⟩; have n0_ := Aside0.mk (Kd.R_lower ho0 (below_size (by repeat (first | (with_reducible first | exact HB.out | apply below_alloc | apply pw_below_drewN | apply below_drew1) | exact HB.out)))); have n1_ := Aside0.mk (below_step (by repeat (first | (with_reducible first | exact HB.out | apply below_alloc | apply pw_below_drewN | apply below_drew1) | exact HB.out)) hb); clear HB; have HO115 := n0_; have HB := n1_; clear n0_ n1_; (try clear hb); (try clear hb2); (try clear hk); (try clear hi); (try clear ho0)) | ((with_reducible refine gate_callee (f := 29) rfl ?_); refine goesL_ (some 43) rfl rfl Try.func29 (by kernel_rfl) rfl #[.int .i64 a0, .slice A1 l1.length c1] rfl (by (try simp only [List.map_toArray, List.map_cons, List.map_nil]); first | done | rfl | (simp only [List.length_drop, List.length_take]; rfl)) ?_; (with_reducible refine (drovewayref09_Spoilt.calls a0 _ _ l1 t116 t117 _ ?side1 ?side2 A18.out).mono ?_); (case side1 => repeat (first | exact (Kd.C_below HR1.out HB.out) | (with_reducible refine Kd.C_alloc ?_ _) | (with_reducible refine Kd.C_drewN ?_ _) | (with_reducible refine Kd.C_drew ?_))); (case side2 => exact HC1.out); rintro e w29 ⟨v118, rfl, ho0, hb⟩; refine ⟨_, rfl, ?_⟩; have n0_ := Aside0.mk (Kd.R_elder' (by (with_reducible repeat (first | apply Kd.R_alloc | apply Kd.R_drewN | apply Kd.R_drew)); exact HO115.out) (Kd.R_base ho0) hb); have n1_ := Aside0.mk (Kd.R_lower (Kd.R_new' ho0 (Kd.R_lt (by (with_reducible repeat (first | apply Kd.R_alloc | apply Kd.R_drewN | apply Kd.R_drew)); exact HO115.out))) (below_size (by repeat (first | (with_reducible first | exact HB.out | apply below_alloc | apply pw_below_drewN | apply below_drew1) | exact HB.out)))); have n2_ := Aside0.mk (below_step (by repeat (first | (with_reducible first | exact HB.out | apply below_alloc | apply pw_below_drewN | apply below_drew1) | exact HB.out)) hb); clear HO115; clear HB; have HO115 := n0_; have HO119 := n1_; have HB := n2_; clear n0_ n1_ n2_; (try clear hb); (try clear hb2); (try clear hk); (try clear hi); (try clear ho0); obtain ⟨Ao30, co30, eo30⟩ := Kd.R_slice HO115.out; subst eo30; obtain ⟨Ao31, co31, eo31⟩ := Kd.R_slice HO119.out; subst eo31) | ((with_reducible refine gate_callee (f := 22) rfl ?_); refine goesL_ (some 48) rfl rfl Try.func22 (by kernel_rfl) rfl #[.slice Ao30 t112.length co30, .slice Ao31 t116.length co31] rfl (by (try simp only [List.map_toArray, List.map_cons, List.map_nil]); first | done | rfl | (simp only [List.length_drop, List.length_take]; rfl)) ?_; (with_reducible refine (drovewaylaw09_same.calls kj6 _ _ t112 _ _ t116 true _ ?side1 ?side2 ?side3 ?side4 A19.out).mono ?_); (case side1 => repeat (first | exact (Kd.R_reads' HO115.out).2.2 | (with_reducible refine Kd.C_alloc ?_ _) | (with_reducible refine Kd.C_drewN ?_ _) | (with_reducible refine Kd.C_drew ?_))); (case side2 => exact (Kd.R_reads' HO115.out).2.1); (case side3 => repeat (first | exact (Kd.R_reads' HO119.out).2.2 | (with_reducible refine Kd.C_alloc ?_ _) | (with_reducible refine Kd.C_drewN ?_ _) | (with_reducible refine Kd.C_drew ?_))); (case side4 => exact (Kd.R_reads' HO119.out).2.1); rintro e w' ⟨rfl, ⟨nd, rfl⟩⟩; refine ⟨_, rfl, ?_⟩))
              go_ret
              exact ⟨by first | rfl | (simp [errW_none, errW_some] <;> rfl) | (simp [*, errW_none, errW_some] <;> rfl), by repeat (first | (with_reducible first | exact HB.out | apply below_alloc | apply pw_below_drewN | apply below_drew1) | exact HB.out)⟩
          · replace c20 := Bool.eq_false_iff.mpr c20
            subst c20
            have H1 : (some false) = some r := by rw [if_neg (show ¬ (false = true) by decide)] at H; exact H
            clear H
            have H := H1
            clear H1
            obtain rfl := Option.some.inj H
            go_wp2_with (first | ((with_reducible refine gate_callee (f := 28) rfl ?_); refine goesL_ (some 37) rfl rfl Try.func28 (by kernel_rfl) rfl #[.int .i64 a0, .slice A1 l1.length c1] rfl (by (try simp only [List.map_toArray, List.map_cons, List.map_nil]); first | done | rfl | (simp only [List.length_drop, List.length_take]; rfl)) ?_; (with_reducible refine (feuds_Spoilt.calls a0 _ _ l1 t112 t113 _ ?side1 ?side2 A17.out).mono ?_); (case side1 => repeat (first | exact (Kd.C_below HR1.out HB.out) | (with_reducible refine Kd.C_alloc ?_ _) | (with_reducible refine Kd.C_drewN ?_ _) | (with_reducible refine Kd.C_drew ?_))); (case side2 => exact HC1.out); rintro e w32 ⟨v114, rfl, ho0, hb⟩; refine ⟨_, rfl, ?_⟩; have n0_ := Aside0.mk (Kd.R_lower ho0 (below_size (by repeat (first | (with_reducible first | exact HB.out | apply below_alloc | apply pw_below_drewN | apply below_drew1) | exact HB.out)))); have n1_ := Aside0.mk (below_step (by repeat (first | (with_reducible first | exact HB.out | apply below_alloc | apply pw_below_drewN | apply below_drew1) | exact HB.out)) hb); clear HB; have HO115 := n0_; have HB := n1_; clear n0_ n1_; (try clear hb); (try clear hb2); (try clear hk); (try clear hi); (try clear ho0)) | ((with_reducible refine gate_callee (f := 29) rfl ?_); refine goesL_ (some 43) rfl rfl Try.func29 (by kernel_rfl) rfl #[.int .i64 a0, .slice A1 l1.length c1] rfl (by (try simp only [List.map_toArray, List.map_cons, List.map_nil]); first | done | rfl | (simp only [List.length_drop, List.length_take]; rfl)) ?_; (with_reducible refine (drovewayref09_Spoilt.calls a0 _ _ l1 t116 t117 _ ?side1 ?side2 A18.out).mono ?_); (case side1 => repeat (first | exact (Kd.C_below HR1.out HB.out) | (with_reducible refine Kd.C_alloc ?_ _) | (with_reducible refine Kd.C_drewN ?_ _) | (with_reducible refine Kd.C_drew ?_))); (case side2 => exact HC1.out); rintro e w33 ⟨v118, rfl, ho0, hb⟩; refine ⟨_, rfl, ?_⟩; have n0_ := Aside0.mk (Kd.R_elder' (by (with_reducible repeat (first | apply Kd.R_alloc | apply Kd.R_drewN | apply Kd.R_drew)); exact HO115.out) (Kd.R_base ho0) hb); have n1_ := Aside0.mk (Kd.R_lower (Kd.R_new' ho0 (Kd.R_lt (by (with_reducible repeat (first | apply Kd.R_alloc | apply Kd.R_drewN | apply Kd.R_drew)); exact HO115.out))) (below_size (by repeat (first | (with_reducible first | exact HB.out | apply below_alloc | apply pw_below_drewN | apply below_drew1) | exact HB.out)))); have n2_ := Aside0.mk (below_step (by repeat (first | (with_reducible first | exact HB.out | apply below_alloc | apply pw_below_drewN | apply below_drew1) | exact HB.out)) hb); clear HO115; clear HB; have HO115 := n0_; have HO119 := n1_; have HB := n2_; clear n0_ n1_ n2_; (try clear hb); (try clear hb2); (try clear hk); (try clear hi); (try clear ho0); obtain ⟨Ao34, co34, eo34⟩ := Kd.R_slice HO115.out; subst eo34; obtain ⟨Ao35, co35, eo35⟩ := Kd.R_slice HO119.out; subst eo35) | ((with_reducible refine gate_callee (f := 22) rfl ?_); refine goesL_ (some 48) rfl rfl Try.func22 (by kernel_rfl) rfl #[.slice Ao34 t112.length co34, .slice Ao35 t116.length co35] rfl (by (try simp only [List.map_toArray, List.map_cons, List.map_nil]); first | done | rfl | (simp only [List.length_drop, List.length_take]; rfl)) ?_; (with_reducible refine (drovewaylaw09_same.calls kj6 _ _ t112 _ _ t116 false _ ?side1 ?side2 ?side3 ?side4 A19.out).mono ?_); (case side1 => repeat (first | exact (Kd.R_reads' HO115.out).2.2 | (with_reducible refine Kd.C_alloc ?_ _) | (with_reducible refine Kd.C_drewN ?_ _) | (with_reducible refine Kd.C_drew ?_))); (case side2 => exact (Kd.R_reads' HO115.out).2.1); (case side3 => repeat (first | exact (Kd.R_reads' HO119.out).2.2 | (with_reducible refine Kd.C_alloc ?_ _) | (with_reducible refine Kd.C_drewN ?_ _) | (with_reducible refine Kd.C_drew ?_))); (case side4 => exact (Kd.R_reads' HO119.out).2.1); rintro e w' ⟨rfl, ⟨nd, rfl⟩⟩; refine ⟨_, rfl, ?_⟩))
            go_ret
            exact ⟨by first | rfl | (simp [errW_none, errW_some] <;> rfl) | (simp [*, errW_none, errW_some] <;> rfl), by repeat (first | (with_reducible first | exact HB.out | apply below_alloc | apply pw_below_drewN | apply below_drew1) | exact HB.out)⟩
  · replace c4 := Bool.eq_false_iff.mpr c4
    subst c4
    have H1 : ((drovewaylaw09_alive.f).bind fun t102 => (some t102)) = some r := by rw [if_neg (show ¬ (false = true) by decide)] at H; exact H
    clear H
    have H := H1
    clear H1
    replace H := Option.bind_eq_some_iff.mp H
    obtain ⟨t102, A360, H⟩ := H
    replace H : (some t102) = some r := H
    have A36 := Aside0.mk A360
    clear A360
    obtain rfl := Option.some.inj H
    go_enter Try.func6, Try.ntmps6
    go_wp2_with (first | ((with_reducible refine gate_callee (f := 16) rfl ?_); refine goesL_ (some 10) rfl rfl Try.func16 (by kernel_rfl) rfl #[.slice A1 l1.length c1, .slice none 0 0] rfl (by (try simp only [List.map_toArray, List.map_cons, List.map_nil]); first | done | rfl | (simp only [List.length_drop, List.length_take]; rfl)) ?_; (refine (drovewaylaw09_few.calls _ _ l1 _ _ ([] : List Int) false _ ?side1 ?side2 ?side3 ?side4 A3.out).mono ?_); (case side1 => repeat (first | exact HR1.out | (with_reducible refine Kd.C_alloc ?_ _) | (with_reducible refine Kd.C_drewN ?_ _) | (with_reducible refine Kd.C_drew ?_))); (case side2 => exact HC1.out); (case side3 => exact Kd.C_nil _ _); (case side4 => exact Nat.le_refl _); rintro e w' ⟨rfl, ⟨nd, rfl⟩⟩; refine ⟨_, rfl, ?_⟩) | ((with_reducible refine gate_callee (f := 17) rfl ?_); refine goesL_ (some 12) rfl rfl Try.func17 (by kernel_rfl) rfl #[] rfl (by (try simp only [List.map_toArray, List.map_cons, List.map_nil]); first | done | rfl | (simp only [List.length_drop, List.length_take]; rfl)) ?_; (with_reducible refine (drovewaylaw09_alive.calls  t102 _ A36.out).mono ?_); rintro e w37 ⟨rfl, hb⟩; refine ⟨_, rfl, ?_⟩; have n0_ := Aside0.mk (below_step (by repeat (first | (with_reducible first | exact HB.out | apply below_alloc | apply pw_below_drewN | apply below_drew1) | exact HB.out)) hb); clear HB; have HB := n0_; clear n0_; (try clear hb); (try clear hb2); (try clear hk); (try clear hi)))
    go_ret
    exact ⟨by first | rfl | (simp [errW_none, errW_some] <;> rfl) | (simp [*, errW_none, errW_some] <;> rfl), by repeat (first | (with_reducible first | exact HB.out | apply below_alloc | apply pw_below_drewN | apply below_drew1) | exact HB.out)⟩

end Go.Proofs.Ytaegldcifhgnmaa.PFeudsClans

-- Printed by hprint.py (this claim's own program, over the kit's print.py) out of the translation and contracts by hand. Not trusted: Lean checks it.
namespace Go.Proofs.Ytaegldcifhgnmaa.PFeudsClans
open Go.Proofs.Ytaegldcifhgnmaa.A Go.Proofs.Ytaegldcifhgnmaa.B
open Go.RowKit Go.Proofs.YtaegldcifhgnmaaW.PrintWords Go.Proofs.YtaegldcifhgnmaaW.PrintLast Go.Proofs.YtaegldcifhgnmaaW.PrintMore
attribute [local go_sem] max2_int min2_int max_two min_two max_three min_three max_four min_four   -- for this text's walks alone
set_option linter.unusedVariables false
set_option linter.unusedSimpArgs false

end Go.Proofs.Ytaegldcifhgnmaa.PFeudsClans

/- FeudsClans, plain. -/
namespace Go.Proofs.Ytaegldcifhgnmaa.Pure
open Go.Proofs.Ytaegldcifhgnmaa.A Go.Proofs.Ytaegldcifhgnmaa.B Go.Proofs.Ytaegldcifhgnmaa.PFeudsClans
open Go.RowKit Go.Proofs.YtaegldcifhgnmaaW.PrintWords Go.Proofs.YtaegldcifhgnmaaW.PrintMore

theorem alive_is : ((drovewaylaw09_alive.f).bind fun t => (some t : Option Bool)) = some true := rfl
theorem short_len {l : List S39} {one : Bool} {n : Nat} {x : List Int} (h : shortR l one n = some x) : x.length ≤ n := by
  have key : ∀ (F : Nat → Option (List Int)) k x, firstN F k = some x → ∃ i, i < k ∧ F i = some x := by
    intro F k
    induction k with
    | zero => intro x h; cases h
    | succ k ih =>
      intro x h
      rw [firstN] at h
      cases e : firstN F k with
      | some y =>
        rw [e] at h
        obtain ⟨i, hi, h2⟩ := ih y e
        exact ⟨i, by omega, by rw [h2]; exact h⟩
      | none => rw [e] at h; exact ⟨k, by omega, h⟩
  obtain ⟨k, hk, h2⟩ := key _ _ _ h
  unfold sizeR at h2
  by_cases h3 : 3 ≤ k
  · rw [if_pos h3] at h2
    obtain ⟨i, _, h4⟩ := key _ _ _ h2
    have hs : ∀ fr y, startR l one k i fr = some y → y.length = k := fun fr y hy => by
      have := ringedR_len _ _ _ _ _ _ _ hy
      rw [List.length_singleton] at this
      omega
    unfold pairR pickR at h4
    cases e : startR l one k i (l.getD i z39).f0.toNat with
    | none => rw [e] at h4; have := hs _ _ h4; omega
    | some u =>
      rw [e] at h4
      dsimp only at h4
      cases e2 : startR l one k i (l.getD i z39).f1.toNat with
      | none => rw [e2] at h4; cases h4; have := hs _ _ e; omega
      | some v =>
        rw [e2] at h4
        dsimp only at h4
        have h5 := hs _ _ e
        have h6 := hs _ _ e2
        split at h4 <;> (cases h4; omega)
  · rw [if_neg h3] at h2; cases h2
theorem rRing_len (one : Bool) (n : Int) (l : List S39) : (rRingF one n l).1.length ≤ 1000 := by
  unfold rRingF
  by_cases h : tiesE n l = 0
  · rw [if_pos h]
    have h1 := tiesE_parts h
    cases e : shortR l one n.toNat with
    | none => simp [ringZ]
    | some x => have := short_len e; show x.length ≤ 1000; omega
  · rw [if_neg h]; simp
theorem clans_len (n : Int) (l : List S39) : (clansF n l).1.length ≤ 1000 := by
  unfold clansF
  by_cases ht : tiesE n l = 0
  · have h1 := tiesE_parts ht
    obtain ⟨m, rfl⟩ : ∃ m : Nat, n = m := ⟨n.toNat, by omega⟩
    have := groups_len (q := friendB) (by omega) (tiesE_ok ht)
    rw [if_pos ht, Int.toNat_natCast]
    split
    · exact Nat.zero_le _
    · show (sortI _).length ≤ 1000
      rw [sortI_len]; omega
  · rw [if_neg ht]; exact Nat.zero_le _
theorem FeudsClans (a0 : Int) (l1 : List S39) : ∃ k, drovewaylaw09_FeudsClans.f k a0 l1 = some true := by
  refine Ev.rounds ?_
  unfold drovewaylaw09_FeudsClans.f
  rw [few_eq]
  simp only [Option.bind_some]
  by_cases h60 : l1.length ≤ 60 ∧ ([] : List Int).length ≤ 60
  · rw [show decide (l1.length ≤ 60 ∧ ([] : List Int).length ≤ 60) = true from decide_eq_true h60]
    simp only [if_true]
    have hl : l1.length ≤ 1000 := by omega
    obtain ⟨Y, hY⟩ : ∃ Y, clansF a0 l1 = Y := ⟨_, rfl⟩
    have hYl := clans_len a0 l1
    have hev := clans_ev (n := a0) hl
    unfold feuds_Clans.f
    rw [hY] at hev hYl ⊢
    simp only [Option.bind_some]
    refine Ev.bind (f := fun k bt141 => ((drovewaylaw09_same.f k Y.1 bt141.1).bind fun t145 => (if t145 = true then (drovewaylaw09_FeudsClans.j0 k a0 l1 (Y.2 != bt141.2)) else (drovewaylaw09_FeudsClans.j0 k a0 l1 true)))) hev ?_
    refine Ev.bind (f := fun k t145 => (if t145 = true then (drovewaylaw09_FeudsClans.j0 k a0 l1 (Y.2 != Y.2)) else (drovewaylaw09_FeudsClans.j0 k a0 l1 true))) (same_ev (by omega) rfl) ?_
    rw [bne_self_eq_false]
    obtain ⟨X, hX⟩ : ∃ X, rRingF true a0 l1 = X := ⟨_, rfl⟩
    have hXl := rRing_len true a0 l1
    rw [hX] at hXl
    refine Ev.congr (f := fun k => drovewaylaw09_FeudsClans.j0 k a0 l1 false) (fun k => if_pos rfl) ?_
    refine Ev.step (f := fun k => ((drovewaylaw09_same.f k X.1 X.1).bind fun t154 => (if t154 = true then (if X.2 = X.2 then ((drovewaylaw09_alive.f).bind fun t155 => (some t155)) else (some false)) else (some false)))) (fun k => ?_) ?_
    · rw [drovewaylaw09_FeudsClans.j0, if_neg (by decide)]
      unfold feuds_Spoilt.f drovewayref09_Spoilt.f
      rw [if_pos hl, spoilt_same, hX]; rfl
    · refine Ev.bind (f := fun k t154 => (if t154 = true then (if X.2 = X.2 then ((drovewaylaw09_alive.f).bind fun t155 => (some t155)) else (some false)) else (some false))) (same_ev (by omega) rfl) ?_
      exact Ev.congr (fun k => by rw [if_pos rfl, if_pos rfl]; exact alive_is) (Ev.now _)
  · rw [show decide (l1.length ≤ 60 ∧ ([] : List Int).length ≤ 60) = false from decide_eq_false h60]
    exact Ev.congr (fun k => by rw [if_neg (by decide)]; exact alive_is) (Ev.now _)
end Go.Proofs.Ytaegldcifhgnmaa.Pure

/- FeudsClans, as it is called. -/
namespace Go.Proofs.Ytaegldcifhgnmaa.B
open Go.Proofs.Ytaegldcifhgnmaa.A
open Go.RowKit Go.Proofs.YtaegldcifhgnmaaW.PrintWords Go.Proofs.YtaegldcifhgnmaaW.PrintMore
theorem clans_any (a0 : Int) (A1 : Option Addr) (c1 : Nat) (l1 : List S39) (w : World) (hr1 : Kd.C k39 w A1 l1.length l1) (hc1 : l1.length ≤ c1) :
    Calls Try.prog 6 #[.int .i64 a0, .slice A1 l1.length c1] w fun e w' => e = .returned (.bool true) ∧ Below w.heap.size w w' := by
  obtain ⟨k, h⟩ := Pure.FeudsClans a0 l1
  exact PFeudsClans.drovewaylaw09_FeudsClans.calls k a0 A1 c1 l1 true w hr1 hc1 h
end Go.Proofs.Ytaegldcifhgnmaa.B

/- An argument that is a slice of ties, opened to a row of cells. -/
namespace Go.Proofs.Ytaegldcifhgnmaa.A
open Go.ChangeShapes Go.WideShapes Go.Deep
open Go.RowKit Go.Proofs.YtaegldcifhgnmaaW.PrintWords

theorem list_of {α : Type} {P : Nat → α → Prop} : ∀ n, (∀ i, i < n → ∃ x, P i x) → ∃ l : List α, l.length = n ∧ ∀ (i : Nat) (x : α), l[i]? = some x → P i x := by
  intro n
  induction n with
  | zero => exact fun _ => ⟨[], rfl, fun i x h => by simp at h⟩
  | succ n ih =>
    intro h
    obtain ⟨l, hl, hp⟩ := ih (fun i hi => h i (by omega))
    obtain ⟨x, hx⟩ := h n (by omega)
    refine ⟨l ++ [x], by simp [hl], fun i y hy => ?_⟩
    by_cases hi : i < l.length
    · rw [List.getElem?_append_left hi] at hy
      exact hp i y hy
    · have e : i = n := by
        have := (List.getElem?_eq_some_iff.1 hy).1
        rw [List.length_append, List.length_singleton] at this
        omega
      subst e
      have : x = y := by simpa [← hl] using hy
      subst this
      exact hx

set_option maxRecDepth 100000 in
theorem open_ties {H : Type} {enc : TypeId × Value → H} {W : World} {a : Option Addr} {len cap : Nat} {d : DataW H} {p : List MemPlace} (h : DataW.Trod enc Try.prog W 0 (fun _ => true) true 22 (.slice a len cap) d p) :
    ∃ ps : List S39, ps.length = len ∧ len ≤ cap ∧ cap ≤ maxLen ∧ Kd.C k39 W a len ps := by
  obtain ⟨fuel, hf⟩ := h
  rcases open_slice Try.underlying22 hf with ⟨hcs, _⟩ | ⟨x, l, c, m, n, D, Pl, hcs, _, hl, hm, hmm, _, hi⟩
  · simp [Value.cells] at hcs
    obtain ⟨rfl, rfl, rfl⟩ := hcs
    exact ⟨[], rfl, Nat.le_refl _, Nat.zero_le _, rfl, by omega, fun h => absurd h (by omega)⟩
  · simp [Value.cells] at hcs
    obtain ⟨rfl, rfl, rfl⟩ := hcs
    have hC : Try.prog.cellsOf 39 = 3 := by kernel_rfl
    have he : ∀ i, i < len → ∃ q : S39, W.cell? (x.add (i * 3)) = some (.int .i64 q.f0) ∧ W.cell? (x.add (i * 3 + 1)) = some (.int .i64 q.f1) ∧ W.cell? (x.add (i * 3 + 2)) = some (.bool q.f2) := by
      intro i hil
      obtain ⟨cs', hc, ht'⟩ := hi i (by rw [hmm, if_pos rfl]; omega)
      rw [hC] at hc
      obtain ⟨ys, n', _, _, hlen, hyl, hfd⟩ := DataW.trod_struct Try.underlying39 ht'
      obtain ⟨_, hcl, hat⟩ := World.cells?_some hc
      have h0 := hfd 0 _ rfl
      have h1 := hfd 1 _ rfl
      have h2 := hfd 2 _ rfl
      match cs', hcl, ys, hyl with
      | [c0, c1, c2], _, [y0, y1, y2], _ =>
        have e0 : Try.prog.cellsOf 3 = 1 := by kernel_rfl
        have e4 : Try.prog.cellsOf 4 = 1 := by kernel_rfl
        simp [e0, e4] at h0 h1 h2
        obtain ⟨n0, hn0, _, _⟩ := DataW.trod_int Try.underlying3 h0
        obtain ⟨n1, hn1, _, _⟩ := DataW.trod_int Try.underlying3 h1
        obtain ⟨n2, hn2, _⟩ := DataW.trod_bool Try.underlying4 h2
        simp at hn0 hn1 hn2
        subst hn0 hn1 hn2
        refine ⟨⟨n0, n1, n2⟩, ?_, ?_, ?_⟩
        · have := hat 0 (by omega)
          rw [Go.Deep.add_add] at this
          exact this
        · have := hat 1 (by omega)
          rw [Go.Deep.add_add] at this
          exact this
        · have := hat 2 (by omega)
          rw [Go.Deep.add_add] at this
          exact this
    obtain ⟨ps, hps, hall⟩ := list_of len he
    refine ⟨ps, hps, hl, hm, hps, by unfold maxLen at hm; omega, fun _ => ⟨x, rfl, fun j q hj => ⟨[.int .i64 q.f0, .int .i64 q.f1, .bool q.f2], rfl, k39_mk W q, fun i u hu => ?_⟩⟩⟩
    obtain ⟨g0, g1, g2⟩ := hall j q hj
    match i, hu with
    | 0, hu => cases hu; exact g0
    | 1, hu => cases hu; exact g1
    | 2, hu => cases hu; exact g2
end Go.Proofs.Ytaegldcifhgnmaa.A

/- FeudsClans holds: its code returns true and leaves what it was given as it was. Conditions: those of the given statement, none besides. -/
namespace Go.Proofs.Ytaegldcifhgnmaa.feudsClans
open Go.ChangeShapes Go.WideShapes Go.ChangeAt Go.RowKit
open Go.ChangeMaps (open_string shut_string)
open Go.Proofs.YtaegldcifhgnmaaW.PrintWords
open Go.Proofs.Ytaegldcifhgnmaa.A Go.Proofs.Ytaegldcifhgnmaa.B
set_option linter.unusedVariables false
theorem own : ownKnob Try.prog.godebug = none := by kernel_rfl
theorem laidOut : laidOutB Try.prog = true := by kernel_rfl
def IsRow (k : IntKind) (w : World) (a : Option Addr) (len cap : Nat) (zs : List Int) : Prop :=
  (a = none ∧ len = 0 ∧ cap = 0 ∧ zs = []) ∨
  ∃ x, a = some x ∧ len ≤ cap ∧ cap ≤ maxLen ∧ zs.length = cap ∧ (∀ i, i < zs.length → w.cell? (x.add i) = some (.int k (zs.getD i 0))) ∧ ∀ n ∈ zs, (Lit.int k n).wf = true
set_option maxRecDepth 100000 in
theorem lifted (os : Os) (started : os.Started) (H : Type) (enc : TypeId × Value → H) :
    ReturnsInHanded {} Try.checked os 6 .any (Rows.feudsClansSpec.pre6 enc Try.prog Try.f6 Rows.feudsClansRow.domain false) (Rows.feudsClansSpec.post enc Try.prog Try.f6 false true false false) := by
  refine returnsInHanded_of_change_sized (C := Try.checked) own started (by kernel_rfl) Try.func6
    (ChangeSpec.witness6 (enc := enc) (C := Try.checked) false ⟨#[], #[.int .i64 0, .slice none 0 0], []⟩ 8 (by kernel_rfl) (by kernel_rfl) (by kernel_rfl) (by kernel_rfl)) ?_
  intro W base args ds gs before hval0 hW hcnd hsz0 _
  have hsz : (DataW.weightsEach Try.prog (Try.f6.params.toList ++ Rows.feudsClansSpec.plain.varTypes Try.prog) (ds ++ gs)).all (· ≤ reachBytes) = true := hsz0
  have hval : ∀ (j : Nat) t v, Try.f6.params[j]? = some t → args[j]? = some v → Value.okWide Try.prog W .any base t v := hval0
  have hW' := hW
  obtain ⟨p, q, hA0, hV, rfl, hfz, hnd⟩ := hW
  have hA : DataW.TrodAll enc Try.prog W 0 (fun _ => true) true Try.f6.params.toList args.toList ds p := hA0
  rw [Try.params6] at hA hval hsz
  obtain ⟨v0, vs0, d0, ds0, p0, q0, hargs, rfl, rfl, h0, r0⟩ := trodAll_cons hA
  obtain ⟨v1, vs1, d1, ds1, p1, q1, rfl, rfl, rfl, h1, r1⟩ := trodAll_cons r0
  obtain ⟨rfl, rfl, rfl⟩ := trodAll_nil r1
  obtain rfl : args = #[v0, v1] := by cases args; simp_all
  obtain ⟨rfl, rfl⟩ := trodVars_none hV
  obtain ⟨a0, rfl, rfl, rfl, w0⟩ := open_int Try.underlying3 (hval 0 3 v0 rfl rfl) h0
  obtain ⟨a1, len1, cap1, rfl⟩ := okWide_slice Try.underlying22 (hval 1 22 v1 rfl rfl)
  have k1 := h1
  have lt1 : ∀ x ∈ p1, x.block < W.heap.size := by obtain ⟨m, hm⟩ := k1; exact DataW.trod_lt m _ _ _ hm
  obtain ⟨l1, rfl, hc1, hm1, hr1⟩ := open_ties h1
  clear hA0 hval0 hsz0 hsz
  refine (clans_any a0 a1 cap1 l1 W hr1 hc1).mono fun e W' ⟨he, bel⟩ => ?_
  subst he
  exact ⟨_, rfl, _, _, _, [], _, [], hW', trodAll_mk1 (shut_bool Try.underlying4 _), (trodAll_cons_mk (shut_int Try.underlying3 w0) (trodAll_cons_mk (Below.trod laidOut (by kernel_rfl) (of_decide_eq_true (by kernel_rfl)) k1 bel lt1) trodAll_mk0)), rfl, bel.frame _, fun h => by cases h⟩
theorem over : Rows.feudsClansRow.holds Try.pinned (OpenSpec.ofChange Rows.feudsClansSpec) :=
  OpenClaim.holds_of_wide 6 Try.f6 rfl rfl rfl rfl rfl rfl rfl ⟨rfl, rfl, rfl, rfl, rfl⟩ rfl rfl rfl rfl rfl (by kernel_rfl) Try.func6 (by kernel_rfl)
    (of_decide_eq_true (by kernel_rfl)) (by unfold Func.isWrapper; first | (rw [if_pos (by decide +kernel)]; kernel_rfl) | (rw [if_neg (by decide +kernel)]; exact ⟨rfl, rfl⟩))
    (fun os started H enc _ => lifted os started H enc)
theorem proved : Rows.FeudsClansSaid := over
#print axioms proved
end Go.Proofs.Ytaegldcifhgnmaa.feudsClans
namespace Go.Proofs.Ytaegldcifhgnmaa
/-- The row, under a short name, for the claim. -/
theorem feudsClans_holds : Rows.FeudsClansSaid := feudsClans.proved
end Go.Proofs.Ytaegldcifhgnmaa
