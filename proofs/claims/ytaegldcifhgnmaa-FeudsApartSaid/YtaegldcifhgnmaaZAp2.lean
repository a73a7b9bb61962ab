/- The reference's rings as they are judged, as the kit's print writes them. -/
import Derived.Test.YtaegldcifhgnmaaZAp1
import Derived.Test.YtaegldcifhgnmaaProg
import Derived.Below
import Derived.Deep.Draws
import Derived.Deep.AppendLies
import Derived.Maps.AppendAt
import Derived.OwnWalk
import Derived.Laws.BytesArg
import Derived.Laws.MakeOwn
import Derived.Laws.OwnMore
import Derived.Deep.OwnRows
import Derived.Tactics
import Derived.Lib.ConvBytes
import Derived.Laws.Slices
import Derived.WalkKit
import Derived.KernelRfl
import Derived.RowKit3
import Derived.Deep.LoopGhost
import Derived.Deep.QuietTactic
import Derived.BigQuiet
import Derived.WideLaws
import Derived.Deep.DeepCutAuto
import Derived.Deep.CutBlock
import Derived.Deep.RegionHeld3
import Derived.Laws.Rows
import Derived.Lib.AppendStr
import Derived.ArgAppend
import Derived.Laws.IdiomCopy
import Derived.OrdersHeld
import Derived.Laws.BitsLemmas
import Derived.RowKit
import Derived.Test.YtaegldcifhgnmaaWWords
import Derived.Test.YtaegldcifhgnmaaWLast
import Derived.Test.YtaegldcifhgnmaaWTab
import Derived.Test.YtaegldcifhgnmaaWFour
import Derived.Test.YtaegldcifhgnmaaWQPut
import Derived.Test.YtaegldcifhgnmaaWApart
import Derived.Test.YtaegldcifhgnmaaWArr
import Derived.Test.YtaegldcifhgnmaaWZeros
import Derived.Test.YtaegldcifhgnmaaWFoot
import Derived.Test.YtaegldcifhgnmaaWKept
import Derived.Test.YtaegldcifhgnmaaWShare
import Derived.Test.YtaegldcifhgnmaaWN
import Derived.Test.YtaegldcifhgnmaaWFootNe
import Derived.Test.YtaegldcifhgnmaaWAt
import Derived.Test.YtaegldcifhgnmaaWEqStruct
import Derived.Test.YtaegldcifhgnmaaWRepsOne
import Derived.Test.YtaegldcifhgnmaaWInv
import Derived.Test.YtaegldcifhgnmaaWInvWords
import Derived.Test.YtaegldcifhgnmaaWGuard
import Derived.Test.YtaegldcifhgnmaaWNEv
import Derived.Test.YtaegldcifhgnmaaWMore
import Derived.Sort.OwnSortedInts
import Derived.Lib.SliceRun
/- The reference's rings as they are judged, as the kit's print writes them. -/
namespace Go.Proofs.Ytaegldcifhgnmaa.B
open Go.Proofs.Ytaegldcifhgnmaa.A
open Go.RowKit Go.Proofs.YtaegldcifhgnmaaW.PrintWords Go.Proofs.YtaegldcifhgnmaaW.PrintLast Go.Proofs.YtaegldcifhgnmaaW.PrintMore
section
attribute [local go_sem] max2_int min2_int max_two min_two max_three min_three max_four min_four   -- for this text's walks alone
set_option linter.unusedVariables false
set_option linter.unusedSimpArgs false
/-! ### drovewayref09_other: function 88 -/
def drovewayref09_other.f (a0_0 : Int) (a0_1 : Int) (a0_2 : Bool) (a1 : Int) : Option (Int) := if a0_0 = a1 then (some a0_1) else (if a0_1 = a1 then (some a0_0) else (some (-1)))
set_option maxHeartbeats 8000000 in
set_option maxRecDepth 100000 in
theorem drovewayref09_other.calls (a0_0 : Int) (a0_1 : Int) (a0_2 : Bool) (a1 : Int) (r : Int) (w : World) (h : drovewayref09_other.f a0_0 a0_1 a0_2 a1 = some r) :
    Calls Try.prog 88 #[.agg #[.int .i64 a0_0, .int .i64 a0_1, .bool a0_2], .int .i64 a1] w fun e w' => e = .returned (.int .i64 r) ∧ Below w.heap.size w w' := by
  have hu39 := Try.underlying39
  have HB := Aside0.mk (Below.refl w.heap.size w)
  have H : (if a0_0 = a1 then (some a0_1) else (if a0_1 = a1 then (some a0_0) else (some (-1)))) = some r := h
  clear h
  by_cases c3 : a0_0 = a1
  · rw [if_pos c3] at H
    have c3b0 : (a0_0 == a1) = true := beq_iff_eq.mpr c3
    have c3b1 : (a0_0 != a1) = false := bne_eq_false_iff_eq.mpr c3
    clear c3
    obtain rfl := Option.some.inj H
    go_enter Try.func88, Try.ntmps88
    go_wp2_with (first | ((with_reducible refine gate_dst (N := 2) rfl ?_); refine box_event ?hg (N := 2) ?hd (cs := #[.int .i64 a0_0, .int .i64 a0_1, .bool a0_2]) (t := 39) ?hr ?_; (case hd => rfl); (case hg => rfl); (case hr => first | (go_simp; done) | (go_simp; rfl)); intro gb178 hg w4 hbox hb; have n0_ := Aside0.mk (below_step (by repeat (first | (with_reducible first | exact HB.out | apply below_alloc | apply pw_below_drewN | apply below_drew1) | exact HB.out)) hb); have n1_ := Aside0.mk (hbox); have n2_ := Aside0.mk ((by rw [hg]; exact (below_size (by repeat (first | (with_reducible first | exact HB.out | apply below_alloc | apply pw_below_drewN | apply below_drew1) | exact HB.out))) : w.heap.size ≤ gb178)); have n3_ := Aside0.mk ((by rw [hg]; exact (below_size (by repeat (first | (with_reducible first | exact HB.out | apply below_alloc | apply pw_below_drewN | apply below_drew1) | exact HB.out))) : w.heap.size ≤ gb178)); clear HB; have HB := n0_; have BK178 := n1_; have GW178 := n2_; have GE178 := n3_; clear n0_ n1_ n2_ n3_; clear hb hbox hg; have hcz5_0 : w4.cell? ⟨gb178, 0, none⟩ = some (.int .i64 a0_0) := (blk_cell BK178.out 0).trans rfl; have hcz5_1 : w4.cell? ⟨gb178, 1, none⟩ = some (.int .i64 a0_1) := (blk_cell BK178.out 1).trans rfl; have hcz5_2 : w4.cell? ⟨gb178, 2, none⟩ = some (.bool a0_2) := (blk_cell BK178.out 2).trans rfl; have hfz5_0 := blk_frozen BK178.out 0; have hfz5_1 := blk_frozen BK178.out 1; have hfz5_2 := blk_frozen BK178.out 2))
    go_ret
    exact ⟨by first | rfl | (simp [errW_none, errW_some] <;> rfl) | (simp [*, errW_none, errW_some] <;> rfl), by repeat (first | (with_reducible first | exact HB.out | apply below_alloc | apply pw_below_drewN | apply below_drew1 | refine below_set ?_ GE178.out) | exact HB.out)⟩
  · rw [if_neg c3] at H
    have c3b0 : (a0_0 == a1) = false := beq_eq_false_iff_ne.mpr c3
    have c3b1 : (a0_0 != a1) = true := bne_iff_ne.mpr c3
    by_cases c6 : a0_1 = a1
    · rw [if_pos c6] at H
      have c6b0 : (a0_1 == a1) = true := beq_iff_eq.mpr c6
      have c6b1 : (a0_1 != a1) = false := bne_eq_false_iff_eq.mpr c6
      clear c6
      obtain rfl := Option.some.inj H
      go_enter Try.func88, Try.ntmps88
      go_wp2_with (first | ((with_reducible refine gate_dst (N := 2) rfl ?_); refine box_event ?hg (N := 2) ?hd (cs := #[.int .i64 a0_0, .int .i64 a0_1, .bool a0_2]) (t := 39) ?hr ?_; (case hd => rfl); (case hg => rfl); (case hr => first | (go_simp; done) | (go_simp; rfl)); intro gb178 hg w7 hbox hb; have n0_ := Aside0.mk (below_step (by repeat (first | (with_reducible first | exact HB.out | apply below_alloc | apply pw_below_drewN | apply below_drew1) | exact HB.out)) hb); have n1_ := Aside0.mk (hbox); have n2_ := Aside0.mk ((by rw [hg]; exact (below_size (by repeat (first | (with_reducible first | exact HB.out | apply below_alloc | apply pw_below_drewN | apply below_drew1) | exact HB.out))) : w.heap.size ≤ gb178)); have n3_ := Aside0.mk ((by rw [hg]; exact (below_size (by repeat (first | (with_reducible first | exact HB.out | apply below_alloc | apply pw_below_drewN | apply below_drew1) | exact HB.out))) : w.heap.size ≤ gb178)); clear HB; have HB := n0_; have BK178 := n1_; have GW178 := n2_; have GE178 := n3_; clear n0_ n1_ n2_ n3_; clear hb hbox hg; have hcz8_0 : w7.cell? ⟨gb178, 0, none⟩ = some (.int .i64 a0_0) := (blk_cell BK178.out 0).trans rfl; have hcz8_1 : w7.cell? ⟨gb178, 1, none⟩ = some (.int .i64 a0_1) := (blk_cell BK178.out 1).trans rfl; have hcz8_2 : w7.cell? ⟨gb178, 2, none⟩ = some (.bool a0_2) := (blk_cell BK178.out 2).trans rfl; have hfz8_0 := blk_frozen BK178.out 0; have hfz8_1 := blk_frozen BK178.out 1; have hfz8_2 := blk_frozen BK178.out 2))
      go_ret
      exact ⟨by first | rfl | (simp [errW_none, errW_some] <;> rfl) | (simp [*, errW_none, errW_some] <;> rfl), by repeat (first | (with_reducible first | exact HB.out | apply below_alloc | apply pw_below_drewN | apply below_drew1 | refine below_set ?_ GE178.out) | exact HB.out)⟩
    · rw [if_neg c6] at H
      have c6b0 : (a0_1 == a1) = false := beq_eq_false_iff_ne.mpr c6
      have c6b1 : (a0_1 != a1) = true := bne_iff_ne.mpr c6
      obtain rfl := Option.some.inj H
      go_enter Try.func88, Try.ntmps88
      go_wp2_with (first | ((with_reducible refine gate_dst (N := 2) rfl ?_); refine box_event ?hg (N := 2) ?hd (cs := #[.int .i64 a0_0, .int .i64 a0_1, .bool a0_2]) (t := 39) ?hr ?_; (case hd => rfl); (case hg => rfl); (case hr => first | (go_simp; done) | (go_simp; rfl)); intro gb178 hg w9 hbox hb; have n0_ := Aside0.mk (below_step (by repeat (first | (with_reducible first | exact HB.out | apply below_alloc | apply pw_below_drewN | apply below_drew1) | exact HB.out)) hb); have n1_ := Aside0.mk (hbox); have n2_ := Aside0.mk ((by rw [hg]; exact (below_size (by repeat (first | (with_reducible first | exact HB.out | apply below_alloc | apply pw_below_drewN | apply below_drew1) | exact HB.out))) : w.heap.size ≤ gb178)); have n3_ := Aside0.mk ((by rw [hg]; exact (below_size (by repeat (first | (with_reducible first | exact HB.out | apply below_alloc | apply pw_below_drewN | apply below_drew1) | exact HB.out))) : w.heap.size ≤ gb178)); clear HB; have HB := n0_; have BK178 := n1_; have GW178 := n2_; have GE178 := n3_; clear n0_ n1_ n2_ n3_; clear hb hbox hg; have hcz10_0 : w9.cell? ⟨gb178, 0, none⟩ = some (.int .i64 a0_0) := (blk_cell BK178.out 0).trans rfl; have hcz10_1 : w9.cell? ⟨gb178, 1, none⟩ = some (.int .i64 a0_1) := (blk_cell BK178.out 1).trans rfl; have hcz10_2 : w9.cell? ⟨gb178, 2, none⟩ = some (.bool a0_2) := (blk_cell BK178.out 2).trans rfl; have hfz10_0 := blk_frozen BK178.out 0; have hfz10_1 := blk_frozen BK178.out 1; have hfz10_2 := blk_frozen BK178.out 2))
      go_ret
      exact ⟨by first | rfl | (simp [errW_none, errW_some] <;> rfl) | (simp [*, errW_none, errW_some] <;> rfl), by repeat (first | (with_reducible first | exact HB.out | apply below_alloc | apply pw_below_drewN | apply below_drew1 | refine below_set ?_ GE178.out) | exact HB.out)⟩

/-! ### drovewayref09_walked: function 81 -/
mutual
def drovewayref09_walked.l0 : Nat → List (S39) → List Int → Int → Int → Int → Int → Int → Option (Int × Bool)
  | 0, _, _, _, _, _, _, _ => none
  | k + 1, x0, x1, x2, x8, x9, x10, x11 => if x11 < (x1.length : Int) then (if 0 ≤ x11 then (if 0 ≤ (rd x1 x11) then (if (rd x1 x11) < (x0.length : Int) then ((drovewayref09_other.f ((rd_T39 x0 (rd x1 x11)).f0) ((rd_T39 x0 (rd x1 x11)).f1) ((rd_T39 x0 (rd x1 x11)).f2) x8).bind fun t181 => (if t181 < 0 then (drovewayref09_walked.j1 k x0 x1 x2 x9 x10 x11 t181 true) else (if 0 ≤ t181 then (drovewayref09_walked.j1 k x0 x1 x2 x9 x10 x11 t181 ((Int.tmod (shr .i64 x9 t181) 2) == 1)) else (none)))) else (none)) else (none)) else (none)) else (some (x10, (x8 == x2)))
def drovewayref09_walked.j1 : Nat → List (S39) → List Int → Int → Int → Int → Int → Int → Bool → Option (Int × Bool)
  | 0, _, _, _, _, _, _, _, _ => none
  | k + 1, x0, x1, x2, x9, x10, x11, x12, x37 => if x37 = true then (some (0, false)) else (if 0 ≤ x12 then (if 0 ≤ x11 then (if x11 < (x1.length : Int) then (if 0 ≤ (rd x1 x11) then (if (rd x1 x11) < (x0.length : Int) then (if (rd_T39 x0 (rd x1 x11)).f2 = true then (drovewayref09_walked.l0 k x0 x1 x2 x12 (wrap64 (x9 + (shl .i64 1 x12))) (wrap64 (x10 + 1)) (wrap64 (x11 + 1))) else (drovewayref09_walked.l0 k x0 x1 x2 x12 (wrap64 (x9 + (shl .i64 1 x12))) x10 (wrap64 (x11 + 1)))) else (none)) else (none)) else (none)) else (none)) else (none))
end
def drovewayref09_walked.f (k : Nat) (l0 : List (S39)) (l1 : List Int) (a2 : Int) : Option (Int × Bool) := drovewayref09_walked.l0 k l0 l1 a2 a2 0 0 0
theorem drovewayref09_walked.mono_l : ∀ k, (∀ y0 y1 y2 y3 y4 y5 y6, LeO (drovewayref09_walked.l0 k y0 y1 y2 y3 y4 y5 y6) (drovewayref09_walked.l0 (k + 1) y0 y1 y2 y3 y4 y5 y6)) ∧ (∀ y0 y1 y2 y3 y4 y5 y6 y7, LeO (drovewayref09_walked.j1 k y0 y1 y2 y3 y4 y5 y6 y7) (drovewayref09_walked.j1 (k + 1) y0 y1 y2 y3 y4 y5 y6 y7))
  | 0 => ⟨fun _ _ _ _ _ _ _ r h => by simp [drovewayref09_walked.l0] at h, fun _ _ _ _ _ _ _ _ r h => by simp [drovewayref09_walked.j1] at h⟩
  | k + 1 => by
    obtain ⟨ih0, ih1⟩ := drovewayref09_walked.mono_l k
    refine ⟨?_, ?_⟩
    · intro y0 y1 y2 y3 y4 y5 y6
      unfold drovewayref09_walked.l0
      repeat' first
      | (with_reducible exact ih0 _ _ _ _ _ _ _)
      | (with_reducible exact ih1 _ _ _ _ _ _ _ _)
      | (with_reducible exact LeO.refl _)
      | (with_reducible exact LeO.none _)
      | (with_reducible refine LeO.ite ?_ ?_)
      | (with_reducible refine LeO.bind ?_ (fun _ => ?_))
      | exact ih0 _ _ _ _ _ _ _
      | exact ih1 _ _ _ _ _ _ _ _
      | exact LeO.none _
      | refine LeO.ite ?_ ?_
      | refine LeO.bind ?_ (fun _ => ?_)
    · intro y0 y1 y2 y3 y4 y5 y6 y7
      unfold drovewayref09_walked.j1
      repeat' first
      | (with_reducible exact ih0 _ _ _ _ _ _ _)
      | (with_reducible exact ih1 _ _ _ _ _ _ _ _)
      | (with_reducible exact LeO.refl _)
      | (with_reducible exact LeO.none _)
      | (with_reducible refine LeO.ite ?_ ?_)
      | (with_reducible refine LeO.bind ?_ (fun _ => ?_))
      | exact ih0 _ _ _ _ _ _ _
      | exact ih1 _ _ _ _ _ _ _ _
      | exact LeO.none _
      | refine LeO.ite ?_ ?_
      | refine LeO.bind ?_ (fun _ => ?_)
theorem drovewayref09_walked.mono : ∀ a0 a1 a2 k, LeO (drovewayref09_walked.f k a0 a1 a2) (drovewayref09_walked.f (k + 1) a0 a1 a2) := by
  intro a0 a1 a2 k
  obtain ⟨ih0, ih1⟩ := drovewayref09_walked.mono_l k
  unfold drovewayref09_walked.f
  repeat' first
      | (with_reducible exact ih0 _ _ _ _ _ _ _)
      | (with_reducible exact ih1 _ _ _ _ _ _ _ _)
      | (with_reducible exact LeO.refl _)
      | (with_reducible exact LeO.none _)
      | (with_reducible refine LeO.ite ?_ ?_)
      | (with_reducible refine LeO.bind ?_ (fun _ => ?_))
      | exact ih0 _ _ _ _ _ _ _
      | exact ih1 _ _ _ _ _ _ _ _
      | exact LeO.none _
      | refine LeO.ite ?_ ?_
      | refine LeO.bind ?_ (fun _ => ?_)
set_option maxHeartbeats 8000000 in
set_option maxRecDepth 100000 in
theorem drovewayref09_walked.calls (k : Nat) (A0 : Option Addr) (c0 : Nat) (l0 : List (S39)) (A1 : Option Addr) (c1 : Nat) (l1 : List Int) (a2 : Int) (r1 : Int) (r2 : Bool) (w : World) (hr0 : Kd.C k39 w A0 l0.length l0) (hc0 : l0.length ≤ c0) (hr1 : Kd.C (Kd.int .i64) w A1 l1.length l1) (hc1 : l1.length ≤ c1) (h : drovewayref09_walked.f k l0 l1 a2 = some (r1, r2)) :
    Calls Try.prog 81 #[.slice A0 l0.length c0, .slice A1 l1.length c1, .int .i64 a2] w fun e w' => e = .returned (.tuple #[.int .i64 r1, .bool r2]) ∧ Below w.heap.size w w' := by
  have hu39 := Try.underlying39
  have HR0 := Aside0.mk hr0
  have HC0 := Aside0.mk hc0
  clear hr0 hc0
  have HR1 := Aside0.mk hr1
  have HC1 := Aside0.mk hc1
  clear hr1 hc1
  have HB := Aside0.mk (Below.refl w.heap.size w)
  have H : (drovewayref09_walked.l0 k l0 l1 a2 a2 0 0 0) = some (r1, r2) := h
  clear h
  have H' := Aside0.mk H
  clear H
  go_enter Try.func81, Try.ntmps81
  go_wp2
  go_loopg [8, 9, 10, 11] k (fun kq v8 v9 v10 v11 w' => ∃ (x8_1 : Int) (x9_1 : Int) (x10_1 : Int) (x11_1 : Int), v8 = .int .i64 x8_1 ∧ v9 = .int .i64 x9_1 ∧ v10 = .int .i64 x10_1 ∧ v11 = .int .i64 x11_1 ∧ Aside0 (drovewayref09_walked.l0 kq l0 l1 a2 x8_1 x9_1 x10_1 x11_1 = some (r1, r2)) ∧ Aside0 (kq ≤ k) ∧ Aside0 (Below w.heap.size w w'))
  case atStart => exact ⟨(a2), (0), (0), (0), (by first | rfl | (simp; done) | (simp [*]; done)), (by first | rfl | (simp; done) | (simp [*]; done)), (by first | rfl | (simp; done) | (simp [*]; done)), (by first | rfl | (simp; done) | (simp [*]; done)), H', ⟨Nat.le_refl _⟩, ⟨by repeat (first | (with_reducible first | exact HB.out | apply below_alloc | apply pw_below_drewN | apply below_drew1) | exact HB.out)⟩⟩
  case round =>
    clear H'
    try clear c1
    try clear p2
    obtain ⟨x8_1, x9_1, x10_1, x11_1, rfl, rfl, rfl, rfl, HA, HK1, HB⟩ := hrel
    cases gk with
    | zero => exact absurd HA.out (by simp [drovewayref09_walked.l0])
    | succ k1 =>
      have H := HA.out
      clear HA
      simp only [drovewayref09_walked.l0] at H
      by_cases c4 : x11_1 < (l1.length : Int)
      · rw [if_pos c4] at H
        have c4b0 : decide (x11_1 < (l1.length : Int)) = true := decide_eq_true c4
        clear c4
        by_cases c5 : 0 ≤ x11_1
        · rw [if_pos c5] at H
          have c5b0 : decide (0 ≤ x11_1) = true := decide_eq_true c5
          clear c5
          by_cases c6 : 0 ≤ (rd l1 x11_1)
          · rw [if_pos c6] at H
            have c6b0 : decide (0 ≤ (rd l1 x11_1)) = true := decide_eq_true c6
            clear c6
            by_cases c7 : (rd l1 x11_1) < (l0.length : Int)
            · rw [if_pos c7] at H
              have c7b0 : decide ((rd l1 x11_1) < (l0.length : Int)) = true := decide_eq_true c7
              clear c7
              replace H := Option.bind_eq_some_iff.mp H
              obtain ⟨t181, A80, H⟩ := H
              replace H : (if t181 < 0 then (drovewayref09_walked.j1 k1 l0 l1 a2 x9_1 x10_1 x11_1 t181 true) else (if 0 ≤ t181 then (drovewayref09_walked.j1 k1 l0 l1 a2 x9_1 x10_1 x11_1 t181 ((Int.tmod (shr .i64 x9_1 t181) 2) == 1)) else (none))) = some (r1, r2) := H
              have A8 := Aside0.mk A80
              clear A80
              have HC9 := Aside0.mk H
              clear H
              have p179 : 0 ≤ (x11_1 : Int) := of_decide_eq_true (by first | (with_reducible assumption) | assumption)
              have q179 : x11_1 < (l1.length : Int) := of_decide_eq_true (by first | (with_reducible assumption) | assumption)
              obtain ⟨ad179, e179, hx179_0⟩ := Kd.at_int HR1.out x11_1 p179 q179
              cases e179
              replace hx179_0 := (HB.out.cell (World.block_lt_of_cell? w _ hx179_0)).trans hx179_0
              replace p179 := eq_true p179
              replace q179 := eq_true q179
              have p180 : 0 ≤ ((rd l1 x11_1) : Int) := of_decide_eq_true (by first | (with_reducible assumption) | assumption)
              have q180 : (rd l1 x11_1) < (l0.length : Int) := of_decide_eq_true (by first | (with_reducible assumption) | assumption)
              obtain ⟨ad180, e180, hx180_0, hx180_1, hx180_2⟩ := at_T39 HR0.out (rd l1 x11_1) p180 q180
              cases e180
              replace hx180_0 := (HB.out.cell (World.block_lt_of_cell? w _ hx180_0)).trans hx180_0
              replace hx180_1 := (HB.out.cell (World.block_lt_of_cell? w _ hx180_1)).trans hx180_1
              replace hx180_2 := (HB.out.cell (World.block_lt_of_cell? w _ hx180_2)).trans hx180_2
              replace p180 := eq_true p180
              replace q180 := eq_true q180
              go_upto_region 6 with (first | ((with_reducible refine gate_callee (f := 88) rfl ?_); refine goesL_ (some 28) rfl rfl Try.func88 (by kernel_rfl) rfl #[.agg #[.int .i64 ((rd_T39 l0 (rd l1 x11_1)).f0), .int .i64 ((rd_T39 l0 (rd l1 x11_1)).f1), .bool ((rd_T39 l0 (rd l1 x11_1)).f2)], .int .i64 x8_1] rfl (by (try simp only [List.map_toArray, List.map_cons, List.map_nil]); first | done | rfl | (simp only [List.length_drop, List.length_take]; rfl)) ?_; (with_reducible refine (drovewayref09_other.calls ((rd_T39 l0 (rd l1 x11_1)).f0) ((rd_T39 l0 (rd l1 x11_1)).f1) ((rd_T39 l0 (rd l1 x11_1)).f2) x8_1 t181 _ A8.out).mono ?_); rintro e w10 ⟨rfl, hb⟩; refine ⟨_, rfl, ?_⟩; have n0_ := Aside0.mk (below_step (by repeat (first | (with_reducible first | exact HB.out | apply below_alloc | apply pw_below_drewN | apply below_drew1) | exact HB.out)) hb); clear HB; have HB := n0_; clear n0_; (try clear hb); (try clear hb2); (try clear hk); (try clear hi)))
              (try simp only [Act.put, List.setIfInBounds_toArray, List.set_cons_zero, List.set_cons_succ])
              go_cut [37] (fun v37 wc => ∃ (kq : Nat) (x37_8 : Bool), v37 = .bool x37_8 ∧ Aside0 (drovewayref09_walked.j1 kq l0 l1 a2 x9_1 x10_1 x11_1 t181 x37_8 = some (r1, r2)) ∧ Aside0 (kq ≤ k1) ∧ Aside0 (Below w.heap.size w wc))
              case first =>
                have H := HC9.out
                clear HC9
                by_cases c11 : t181 < 0
                · rw [if_pos c11] at H
                  have c11b0 : decide (t181 < 0) = true := decide_eq_true c11
                  clear c11
                  (first | rw [c11b0] | (simp only [i64_w, i32_w]; rw [c11b0]) | skip)
                  have H' := Aside0.mk H
                  clear H
                  go_wp2
                  go_meet
                  case rel => exact ⟨_, (true), (by first | rfl | (simp; done) | (simp [*]; done)), H', ⟨by have := HK1.out; first | omega | exact Nat.le_refl _⟩, ⟨by repeat (first | (with_reducible first | exact HB.out | apply below_alloc | apply pw_below_drewN | apply below_drew1) | exact HB.out)⟩⟩
                · rw [if_neg c11] at H
                  have c11b0 : decide (t181 < 0) = false := decide_eq_false c11
                  clear c11
                  (first | rw [c11b0] | (simp only [i64_w, i32_w]; rw [c11b0]) | skip)
                  by_cases c12 : 0 ≤ t181
                  · rw [if_pos c12] at H
                    have c12b0 := eq_true c12
                    have c12b1 : decide (0 ≤ t181) = true := decide_eq_true c12
                    clear c12
                    obtain ⟨ji13, hji13⟩ : ∃ j_ : Int, (shr .i64 x9_1 t181) = j_ := ⟨_, rfl⟩
                    replace H : (drovewayref09_walked.j1 k1 l0 l1 a2 x9_1 x10_1 x11_1 t181 ((Int.tmod (ji13) 2) == 1)) = some (r1, r2) := by first | (rw [hji13] at H; exact H) | (simp only [hji13] at H ⊢; exact H)
                    have hji13_ : (x9_1 / 2 ^ min t181.toNat 64) = ji13 := hji13
                    have hji13z : t181 ≤ 64 → (x9_1 / 2 ^ t181.toNat) = ji13 := shr_small hji13
                    have H' := Aside0.mk H
                    clear H
                    go_wp2
                    go_meet
                    case rel => exact ⟨_, (((Int.tmod (ji13) 2) == 1)), (by first | rfl | (simp; done) | (simp only [← hji13] <;> (first | rfl | simp)) | (simp [*]; done)), H', ⟨by have := HK1.out; first | omega | exact Nat.le_refl _⟩, ⟨by repeat (first | (with_reducible first | exact HB.out | apply below_alloc | apply pw_below_drewN | apply below_drew1) | exact HB.out)⟩⟩
                  · rw [if_neg c12] at H
                    exact absurd H (by simp)
              case rest =>
                clear HC9
                try clear c1
                try clear p1
                try clear q1
                try clear hx1
                try clear p2
                try clear c4
                try clear c4b0
                try clear c5
                try clear c5b0
                try clear c6
                try clear c6b0
                try clear c7
                try clear c7b0
                try clear c8
                try clear c11
                try clear c11b0
                try clear c12
                try clear c12b0
                try clear c12b1
                try clear hx179_0
                try clear hx180_0
                try clear hx180_1
                try clear hx180_2
                try clear p179
                try clear p180
                try clear p2
                try clear q179
                try clear q180
                obtain ⟨kq, x37_8, rfl, HA, HJ8, HB⟩ := hcut
                cases kq with
                | zero => exact absurd HA.out (by simp [drovewayref09_walked.j1])
                | succ kj8 =>
                  have H := HA.out
                  clear HA
                  simp only [drovewayref09_walked.j1] at H
                  by_cases c14 : x37_8 = true
                  · subst c14
                    have H1 : (some (0, false)) = some (r1, r2) := by rw [if_pos rfl] at H; exact H
                    clear H
                    have H := H1
                    clear H1
                    simp only [Option.some.injEq, Prod.mk.injEq] at H
                    obtain ⟨rfl, rfl⟩ := H
                    go_wp2
                    go_ret2
                    exact ⟨by first | rfl | (simp [errW_none, errW_some] <;> rfl) | (simp [*, errW_none, errW_some] <;> rfl), by repeat (first | (with_reducible first | exact HB.out | apply below_alloc | apply pw_below_drewN | apply below_drew1) | exact HB.out)⟩
                  · replace c14 := Bool.eq_false_iff.mpr c14
                    subst c14
                    have H1 : (if 0 ≤ t181 then (if 0 ≤ x11_1 then (if x11_1 < (l1.length : Int) then (if 0 ≤ (rd l1 x11_1) then (if (rd l1 x11_1) < (l0.length : Int) then (if (rd_T39 l0 (rd l1 x11_1)).f2 = true then (drovewayref09_walked.l0 kj8 l0 l1 a2 t181 (wrap64 (x9_1 + (shl .i64 1 t181))) (wrap64 (x10_1 + 1)) (wrap64 (x11_1 + 1))) else (drovewayref09_walked.l0 kj8 l0 l1 a2 t181 (wrap64 (x9_1 + (shl .i64 1 t181))) x10_1 (wrap64 (x11_1 + 1)))) else (none)) else (none)) else (none)) else (none)) else (none)) = some (r1, r2) := by rw [if_neg (show ¬ (false = true) by decide)] at H; exact H
                    clear H
                    have H := H1
                    clear H1
                    by_cases c15 : 0 ≤ t181
                    · rw [if_pos c15] at H
                      have c15b0 := eq_true c15
                      have c15b1 : decide (0 ≤ t181) = true := decide_eq_true c15
                      clear c15
                      obtain ⟨ji16, hji16⟩ : ∃ j_ : Int, (shl .i64 1 t181) = j_ := ⟨_, rfl⟩
                      replace H : (if 0 ≤ x11_1 then (if x11_1 < (l1.length : Int) then (if 0 ≤ (rd l1 x11_1) then (if (rd l1 x11_1) < (l0.length : Int) then (if (rd_T39 l0 (rd l1 x11_1)).f2 = true then (drovewayref09_walked.l0 kj8 l0 l1 a2 t181 (wrap64 (x9_1 + (ji16))) (wrap64 (x10_1 + 1)) (wrap64 (x11_1 + 1))) else (drovewayref09_walked.l0 kj8 l0 l1 a2 t181 (wrap64 (x9_1 + (ji16))) x10_1 (wrap64 (x11_1 + 1)))) else (none)) else (none)) else (none)) else (none)) = some (r1, r2) := by first | (rw [hji16] at H; exact H) | (simp only [hji16] at H ⊢; exact H)
                      have hji16_ : (IntKind.i64.wrap (1 * 2 ^ min t181.toNat 64)) = ji16 := hji16
                      have hji16z : t181 ≤ 64 → (IntKind.i64.wrap (1 * 2 ^ t181.toNat)) = ji16 := shl_small hji16
                      have hji16u : (IntKind.i64.wrap (2 ^ min t181.toNat 64)) = ji16 := by have h_ := hji16_; rw [Int.one_mul] at h_; exact h_
                      have hji16v : t181 ≤ 64 → (IntKind.i64.wrap (2 ^ t181.toNat)) = ji16 := fun hle_ => by have h_ := hji16z hle_; rw [Int.one_mul] at h_; exact h_
                      have hji16y : (wrap64 (1 * 2 ^ min t181.toNat 64)) = ji16 := (i64_w _).symm.trans hji16_
                      have hji16x : t181 ≤ 64 → (wrap64 (1 * 2 ^ t181.toNat)) = ji16 := fun h_ => (i64_w _).symm.trans (hji16z h_)
                      by_cases c17 : 0 ≤ x11_1
                      · rw [if_pos c17] at H
                        have c17b0 : decide (0 ≤ x11_1) = true := decide_eq_true c17
                        clear c17
                        by_cases c18 : x11_1 < (l1.length : Int)
                        · rw [if_pos c18] at H
                          have c18b0 : decide (x11_1 < (l1.length : Int)) = true := decide_eq_true c18
                          clear c18
                          by_cases c19 : 0 ≤ (rd l1 x11_1)
                          · rw [if_pos c19] at H
                            have c19b0 : decide (0 ≤ (rd l1 x11_1)) = true := decide_eq_true c19
                            clear c19
                            by_cases c20 : (rd l1 x11_1) < (l0.length : Int)
                            · rw [if_pos c20] at H
                              have c20b0 : decide ((rd l1 x11_1) < (l0.length : Int)) = true := decide_eq_true c20
                              clear c20
                              obtain ⟨bq21, hbq21⟩ : ∃ b_ : Bool, b_ = ((rd_T39 l0 (rd l1 x11_1)).f2) := ⟨_, rfl⟩
                              replace H : (if bq21 = true then (drovewayref09_walked.l0 kj8 l0 l1 a2 t181 (wrap64 (x9_1 + (ji16))) (wrap64 (x10_1 + 1)) (wrap64 (x11_1 + 1))) else (drovewayref09_walked.l0 kj8 l0 l1 a2 t181 (wrap64 (x9_1 + (ji16))) x10_1 (wrap64 (x11_1 + 1)))) = some (r1, r2) := by rw [← hbq21] at H; exact H
                              have Nbq21 := Aside0.mk hbq21
                              clear hbq21
                              by_cases c22 : bq21 = true
                              · subst c22
                                have H1 : (drovewayref09_walked.l0 kj8 l0 l1 a2 t181 (wrap64 (x9_1 + (ji16))) (wrap64 (x10_1 + 1)) (wrap64 (x11_1 + 1))) = some (r1, r2) := by rw [if_pos rfl] at H; exact H
                                clear H
                                have H := H1
                                clear H1
                                have H' := Aside0.mk H
                                clear H
                                have p182 : 0 ≤ (x11_1 : Int) := of_decide_eq_true (by first | (with_reducible assumption) | assumption)
                                have q182 : x11_1 < (l1.length : Int) := of_decide_eq_true (by first | (with_reducible assumption) | assumption)
                                obtain ⟨ad182, e182, hx182_0⟩ := Kd.at_int HR1.out x11_1 p182 q182
                                obtain rfl : ad179 = ad182 := (by injection e182)
                                replace hx182_0 := (HB.out.cell (World.block_lt_of_cell? w _ hx182_0)).trans hx182_0
                                replace p182 := eq_true p182
                                replace q182 := eq_true q182
                                have p183 : 0 ≤ ((rd l1 x11_1) : Int) := of_decide_eq_true (by first | (with_reducible assumption) | assumption)
                                have q183 : (rd l1 x11_1) < (l0.length : Int) := of_decide_eq_true (by first | (with_reducible assumption) | assumption)
                                obtain ⟨ad183, e183, hx183_0, hx183_1, hx183_2⟩ := at_T39 HR0.out (rd l1 x11_1) p183 q183
                                (try rw [← Nbq21.out] at hx183_2)
                                obtain rfl : ad180 = ad183 := (by injection e183)
                                replace hx183_0 := (HB.out.cell (World.block_lt_of_cell? w _ hx183_0)).trans hx183_0
                                replace hx183_1 := (HB.out.cell (World.block_lt_of_cell? w _ hx183_1)).trans hx183_1
                                replace hx183_2 := (HB.out.cell (World.block_lt_of_cell? w _ hx183_2)).trans hx183_2
                                replace p183 := eq_true p183
                                replace q183 := eq_true q183
                                go_wp2
                                go_roundg kj8
                                case measure => have := HK1.out; have := HJ8.out; omega
                                case rel => exact ⟨(t181), (wrap64 (x9_1 + (ji16))), (wrap64 (x10_1 + 1)), (wrap64 (x11_1 + 1)), (by first | rfl | (simp; done) | (simp [*]; done)), (by first | rfl | (simp; done) | (simp only [← hji16] <;> (first | rfl | simp)) | (simp [*]; done)), (by first | rfl | (simp; done) | (simp [*]; done)), (by first | rfl | (simp; done) | (simp [*]; done)), H', ⟨by have := HK1.out; have := HJ8.out; omega⟩, ⟨by repeat (first | (with_reducible first | exact HB.out | apply below_alloc | apply pw_below_drewN | apply below_drew1) | exact HB.out)⟩⟩
                              · replace c22 := Bool.eq_false_iff.mpr c22
                                subst c22
                                have H1 : (drovewayref09_walked.l0 kj8 l0 l1 a2 t181 (wrap64 (x9_1 + (ji16))) x10_1 (wrap64 (x11_1 + 1))) = some (r1, r2) := by rw [if_neg (show ¬ (false = true) by decide)] at H; exact H
                                clear H
                                have H := H1
                                clear H1
                                have H' := Aside0.mk H
                                clear H
                                have p182 : 0 ≤ (x11_1 : Int) := of_decide_eq_true (by first | (with_reducible assumption) | assumption)
                                have q182 : x11_1 < (l1.length : Int) := of_decide_eq_true (by first | (with_reducible assumption) | assumption)
                                obtain ⟨ad182, e182, hx182_0⟩ := Kd.at_int HR1.out x11_1 p182 q182
                                obtain rfl : ad179 = ad182 := (by injection e182)
                                replace hx182_0 := (HB.out.cell (World.block_lt_of_cell? w _ hx182_0)).trans hx182_0
                                replace p182 := eq_true p182
                                replace q182 := eq_true q182
                                have p183 : 0 ≤ ((rd l1 x11_1) : Int) := of_decide_eq_true (by first | (with_reducible assumption) | assumption)
                                have q183 : (rd l1 x11_1) < (l0.length : Int) := of_decide_eq_true (by first | (with_reducible assumption) | assumption)
                                obtain ⟨ad183, e183, hx183_0, hx183_1, hx183_2⟩ := at_T39 HR0.out (rd l1 x11_1) p183 q183
                                (try rw [← Nbq21.out] at hx183_2)
                                obtain rfl : ad180 = ad183 := (by injection e183)
                                replace hx183_0 := (HB.out.cell (World.block_lt_of_cell? w _ hx183_0)).trans hx183_0
                                replace hx183_1 := (HB.out.cell (World.block_lt_of_cell? w _ hx183_1)).trans hx183_1
                                replace hx183_2 := (HB.out.cell (World.block_lt_of_cell? w _ hx183_2)).trans hx183_2
                                replace p183 := eq_true p183
                                replace q183 := eq_true q183
                                go_wp2
                                go_roundg kj8
                                case measure => have := HK1.out; have := HJ8.out; omega
                                case rel => exact ⟨(t181), (wrap64 (x9_1 + (ji16))), (x10_1), (wrap64 (x11_1 + 1)), (by first | rfl | (simp; done) | (simp [*]; done)), (by first | rfl | (simp; done) | (simp only [← hji16] <;> (first | rfl | simp)) | (simp [*]; done)), (by first | rfl | (simp; done) | (simp [*]; done)), (by first | rfl | (simp; done) | (simp [*]; done)), H', ⟨by have := HK1.out; have := HJ8.out; omega⟩, ⟨by repeat (first | (with_reducible first | exact HB.out | apply below_alloc | apply pw_below_drewN | apply below_drew1) | exact HB.out)⟩⟩
                            · rw [if_neg c20] at H
                              exact absurd H (by simp)
                          · rw [if_neg c19] at H
                            exact absurd H (by simp)
                        · rw [if_neg c18] at H
                          exact absurd H (by simp)
                      · rw [if_neg c17] at H
                        exact absurd H (by simp)
                    · rw [if_neg c15] at H
                      exact absurd H (by simp)
            · rw [if_neg c7] at H
              exact absurd H (by simp)
          · rw [if_neg c6] at H
            exact absurd H (by simp)
        · rw [if_neg c5] at H
          exact absurd H (by simp)
      · rw [if_neg c4] at H
        have c4b0 : decide (x11_1 < (l1.length : Int)) = false := decide_eq_false c4
        clear c4
        simp only [Option.some.injEq, Prod.mk.injEq] at H
        obtain ⟨rfl, rfl⟩ := H
        go_wp2
        go_ret2
        exact ⟨by first | rfl | (simp [errW_none, errW_some] <;> rfl) | (simp [*, errW_none, errW_some] <;> rfl), by repeat (first | (with_reducible first | exact HB.out | apply below_alloc | apply pw_below_drewN | apply below_drew1) | exact HB.out)⟩

/-! ### drovewayref09_isRing: function 64 -/
def drovewayref09_isRing.l0 : Nat → List (S39) → List Int → Int → Option (Int × Bool)
  | 0, _, _, _ => none
  | k + 1, x0, x1, x6 => if x6 < (x1.length : Int) then (if 0 ≤ x6 then (if (rd x1 x6) < 0 then (some (0, false)) else (if (rd x1 x6) ≥ (x0.length : Int) then (some (0, false)) else (drovewayref09_isRing.l0 k x0 x1 (wrap64 (x6 + 1))))) else (none)) else (if 0 < (x1.length : Int) then (if 0 ≤ (rd x1 0) then (if (rd x1 0) < (x0.length : Int) then ((drovewayref09_walked.f k x0 x1 ((rd_T39 x0 (rd x1 0)).f0)).bind fun bt188 => (if bt188.2 = true then (some (bt188.1, true)) else ((drovewayref09_walked.f k x0 x1 ((rd_T39 x0 (rd x1 0)).f1)).bind fun bt192 => (if bt192.2 = true then (some (bt192.1, true)) else (some (0, false)))))) else (none)) else (none)) else (none))
def drovewayref09_isRing.f (k : Nat) (l0 : List (S39)) (l1 : List Int) : Option (Int × Bool) := if (l1.length : Int) < 3 then (some (0, false)) else (drovewayref09_isRing.l0 k l0 l1 0)
theorem drovewayref09_isRing.mono_l : ∀ k, (∀ y0 y1 y2, LeO (drovewayref09_isRing.l0 k y0 y1 y2) (drovewayref09_isRing.l0 (k + 1) y0 y1 y2))
  | 0 => fun _ _ _ r h => by simp [drovewayref09_isRing.l0] at h
  | k + 1 => by
    have ih0 := drovewayref09_isRing.mono_l k
    · intro y0 y1 y2
      unfold drovewayref09_isRing.l0
      repeat' first
      | (with_reducible exact ih0 _ _ _)
      | (with_reducible exact drovewayref09_walked.mono _ _ _ _)
      | (with_reducible exact LeO.refl _)
      | (with_reducible exact LeO.none _)
      | (with_reducible refine LeO.ite ?_ ?_)
      | (with_reducible refine LeO.bind ?_ (fun _ => ?_))
      | exact ih0 _ _ _
      | exact drovewayref09_walked.mono _ _ _ _
      | exact LeO.none _
      | refine LeO.ite ?_ ?_
      | refine LeO.bind ?_ (fun _ => ?_)
theorem drovewayref09_isRing.mono : ∀ a0 a1 k, LeO (drovewayref09_isRing.f k a0 a1) (drovewayref09_isRing.f (k + 1) a0 a1) := by
  intro a0 a1 k
  have ih0 := drovewayref09_isRing.mono_l k
  unfold drovewayref09_isRing.f
  repeat' first
      | (with_reducible exact ih0 _ _ _)
      | (with_reducible exact drovewayref09_walked.mono _ _ _ _)
      | (with_reducible exact LeO.refl _)
      | (with_reducible exact LeO.none _)
      | (with_reducible refine LeO.ite ?_ ?_)
      | (with_reducible refine LeO.bind ?_ (fun _ => ?_))
      | exact ih0 _ _ _
      | exact drovewayref09_walked.mono _ _ _ _
      | exact LeO.none _
      | refine LeO.ite ?_ ?_
      | refine LeO.bind ?_ (fun _ => ?_)
set_option maxHeartbeats 8000000 in
set_option maxRecDepth 100000 in
theorem drovewayref09_isRing.calls (k : Nat) (A0 : Option Addr) (c0 : Nat) (l0 : List (S39)) (A1 : Option Addr) (c1 : Nat) (l1 : List Int) (r1 : Int) (r2 : Bool) (w : World) (hr0 : Kd.C k39 w A0 l0.length l0) (hc0 : l0.length ≤ c0) (hr1 : Kd.C (Kd.int .i64) w A1 l1.length l1) (hc1 : l1.length ≤ c1) (h : drovewayref09_isRing.f k l0 l1 = some (r1, r2)) :
    Calls Try.prog 64 #[.slice A0 l0.length c0, .slice A1 l1.length c1] w fun e w' => e = .returned (.tuple #[.int .i64 r1, .bool r2]) ∧ Below w.heap.size w w' := by
  have HR0 := Aside0.mk hr0
  have HC0 := Aside0.mk hc0
  clear hr0 hc0
  have HR1 := Aside0.mk hr1
  have HC1 := Aside0.mk hc1
  clear hr1 hc1
  have HB := Aside0.mk (Below.refl w.heap.size w)
  have H : (if (l1.length : Int) < 3 then (some (0, false)) else (drovewayref09_isRing.l0 k l0 l1 0)) = some (r1, r2) := h
  clear h
  by_cases c3 : (l1.length : Int) < 3
  · rw [if_pos c3] at H
    have c3b0 : decide ((l1.length : Int) < 3) = true := decide_eq_true c3
    have c3b1 : decide (l1.length < 3) = true := decide_eq_true (by omega)
    clear c3
    simp only [Option.some.injEq, Prod.mk.injEq] at H
    obtain ⟨rfl, rfl⟩ := H
    go_enter Try.func64, Try.ntmps64
    go_wp2
    go_ret2
    exact ⟨by first | rfl | (simp [errW_none, errW_some] <;> rfl) | (simp [*, errW_none, errW_some] <;> rfl), by repeat (first | (with_reducible first | exact HB.out | apply below_alloc | apply pw_below_drewN | apply below_drew1) | exact HB.out)⟩
  · rw [if_neg c3] at H
    have c3b0 : decide ((l1.length : Int) < 3) = false := decide_eq_false c3
    have c3b1 : decide (l1.length < 3) = false := decide_eq_false (by omega)
    clear c3
    have H' := Aside0.mk H
    clear H
    go_enter Try.func64, Try.ntmps64
    go_wp2
    go_loopg [6] k (fun kq v6 w' => ∃ (x6_1 : Int), v6 = .int .i64 x6_1 ∧ Aside0 (drovewayref09_isRing.l0 kq l0 l1 x6_1 = some (r1, r2)) ∧ Aside0 (kq ≤ k) ∧ Aside0 (Below w.heap.size w w'))
    case atStart => exact ⟨(0), (by first | rfl | (simp; done) | (simp [*]; done)), H', ⟨Nat.le_refl _⟩, ⟨by repeat (first | (with_reducible first | exact HB.out | apply below_alloc | apply pw_below_drewN | apply below_drew1) | exact HB.out)⟩⟩
    case round =>
      clear H'
      try clear c1
      try clear p2
      try clear c3
      try clear c3b0
      try clear c3b1
      obtain ⟨x6_1, rfl, HA, HK1, HB⟩ := hrel
      cases gk with
      | zero => exact absurd HA.out (by simp [drovewayref09_isRing.l0])
      | succ k1 =>
        have H := HA.out
        clear HA
        simp only [drovewayref09_isRing.l0] at H
        by_cases c4 : x6_1 < (l1.length : Int)
        · rw [if_pos c4] at H
          have c4b0 : decide (x6_1 < (l1.length : Int)) = true := decide_eq_true c4
          clear c4
          by_cases c5 : 0 ≤ x6_1
          · rw [if_pos c5] at H
            have c5b0 : decide (0 ≤ x6_1) = true := decide_eq_true c5
            clear c5
            by_cases c6 : (rd l1 x6_1) < 0
            · rw [if_pos c6] at H
              have c6b0 : decide ((rd l1 x6_1) < 0) = true := decide_eq_true c6
              clear c6
              simp only [Option.some.injEq, Prod.mk.injEq] at H
              obtain ⟨rfl, rfl⟩ := H
              have p184 : 0 ≤ (x6_1 : Int) := of_decide_eq_true (by first | (with_reducible assumption) | assumption)
              have q184 : x6_1 < (l1.length : Int) := of_decide_eq_true (by first | (with_reducible assumption) | assumption)
              obtain ⟨ad184, e184, hx184_0⟩ := Kd.at_int HR1.out x6_1 p184 q184
              cases e184
              replace hx184_0 := (HB.out.cell (World.block_lt_of_cell? w _ hx184_0)).trans hx184_0
              replace p184 := eq_true p184
              replace q184 := eq_true q184
              go_wp2
              go_ret2
              exact ⟨by first | rfl | (simp [errW_none, errW_some] <;> rfl) | (simp [*, errW_none, errW_some] <;> rfl), by repeat (first | (with_reducible first | exact HB.out | apply below_alloc | apply pw_below_drewN | apply below_drew1) | exact HB.out)⟩
            · rw [if_neg c6] at H
              have c6b0 : decide ((rd l1 x6_1) < 0) = false := decide_eq_false c6
              clear c6
              by_cases c7 : (rd l1 x6_1) ≥ (l0.length : Int)
              · rw [if_pos c7] at H
                have c7b0 : decide ((l0.length : Int) ≤ (rd l1 x6_1)) = true := decide_eq_true c7
                clear c7
                simp only [Option.some.injEq, Prod.mk.injEq] at H
                obtain ⟨rfl, rfl⟩ := H
                have p184 : 0 ≤ (x6_1 : Int) := of_decide_eq_true (by first | (with_reducible assumption) | assumption)
                have q184 : x6_1 < (l1.length : Int) := of_decide_eq_true (by first | (with_reducible assumption) | assumption)
                obtain ⟨ad184, e184, hx184_0⟩ := Kd.at_int HR1.out x6_1 p184 q184
                cases e184
                replace hx184_0 := (HB.out.cell (World.block_lt_of_cell? w _ hx184_0)).trans hx184_0
                replace p184 := eq_true p184
                replace q184 := eq_true q184
                have p185 : 0 ≤ (x6_1 : Int) := of_decide_eq_true (by first | (with_reducible assumption) | assumption)
                have q185 : x6_1 < (l1.length : Int) := of_decide_eq_true (by first | (with_reducible assumption) | assumption)
                obtain ⟨ad185, e185, hx185_0⟩ := Kd.at_int HR1.out x6_1 p185 q185
                obtain rfl : ad184 = ad185 := (by injection e185)
                replace hx185_0 := (HB.out.cell (World.block_lt_of_cell? w _ hx185_0)).trans hx185_0
                replace p185 := eq_true p185
                replace q185 := eq_true q185
                go_wp2
                go_ret2
                exact ⟨by first | rfl | (simp [errW_none, errW_some] <;> rfl) | (simp [*, errW_none, errW_some] <;> rfl), by repeat (first | (with_reducible first | exact HB.out | apply below_alloc | apply pw_below_drewN | apply below_drew1) | exact HB.out)⟩
              · rw [if_neg c7] at H
                have c7b0 : decide ((l0.length : Int) ≤ (rd l1 x6_1)) = false := decide_eq_false c7
                clear c7
                have H' := Aside0.mk H
                clear H
                have p184 : 0 ≤ (x6_1 : Int) := of_decide_eq_true (by first | (with_reducible assumption) | assumption)
                have q184 : x6_1 < (l1.length : Int) := of_decide_eq_true (by first | (with_reducible assumption) | assumption)
                obtain ⟨ad184, e184, hx184_0⟩ := Kd.at_int HR1.out x6_1 p184 q184
                cases e184
                replace hx184_0 := (HB.out.cell (World.block_lt_of_cell? w _ hx184_0)).trans hx184_0
                replace p184 := eq_true p184
                replace q184 := eq_true q184
                have p185 : 0 ≤ (x6_1 : Int) := of_decide_eq_true (by first | (with_reducible assumption) | assumption)
                have q185 : x6_1 < (l1.length : Int) := of_decide_eq_true (by first | (with_reducible assumption) | assumption)
                obtain ⟨ad185, e185, hx185_0⟩ := Kd.at_int HR1.out x6_1 p185 q185
                obtain rfl : ad184 = ad185 := (by injection e185)
                replace hx185_0 := (HB.out.cell (World.block_lt_of_cell? w _ hx185_0)).trans hx185_0
                replace p185 := eq_true p185
                replace q185 := eq_true q185
                go_wp2
                go_roundg k1
                case measure => have := HK1.out; omega
                case rel => exact ⟨(wrap64 (x6_1 + 1)), (by first | rfl | (simp; done) | (simp [*]; done)), H', ⟨by have := HK1.out; omega⟩, ⟨by repeat (first | (with_reducible first | exact HB.out | apply below_alloc | apply pw_below_drewN | apply below_drew1) | exact HB.out)⟩⟩
          · rw [if_neg c5] at H
            exact absurd H (by simp)
        · rw [if_neg c4] at H
          have c4b0 : decide (x6_1 < (l1.length : Int)) = false := decide_eq_false c4
          clear c4
          by_cases c8 : 0 < (l1.length : Int)
          · rw [if_pos c8] at H
            have c8b0 : decide (0 < (l1.length : Int)) = true := decide_eq_true c8
            have c8b1 : decide (0 < l1.length) = true := decide_eq_true (by omega)
            clear c8
            by_cases c9 : 0 ≤ (rd l1 0)
            · rw [if_pos c9] at H
              have c9b0 : decide (0 ≤ (rd l1 0)) = true := decide_eq_true c9
              clear c9
              by_cases c10 : (rd l1 0) < (l0.length : Int)
              · rw [if_pos c10] at H
                have c10b0 : decide ((rd l1 0) < (l0.length : Int)) = true := decide_eq_true c10
                clear c10
                replace H := Option.bind_eq_some_iff.mp H
                obtain ⟨⟨t188, t189⟩, A110, H⟩ := H
                replace H : (if t189 = true then (some (t188, true)) else ((drovewayref09_walked.f k1 l0 l1 ((rd_T39 l0 (rd l1 0)).f1)).bind fun bt192 => (if bt192.2 = true then (some (bt192.1, true)) else (some (0, false))))) = some (r1, r2) := H
                have A11 := Aside0.mk A110
                clear A110
                by_cases c12 : t189 = true
                · subst c12
                  have H1 : (some (t188, true)) = some (r1, r2) := by rw [if_pos rfl] at H; exact H
                  clear H
                  have H := H1
                  clear H1
                  simp only [Option.some.injEq, Prod.mk.injEq] at H
                  obtain ⟨rfl, rfl⟩ := H
                  have p186 : 0 ≤ (0 : Int) := (by omega)
                  have q186 : 0 < (l1.length : Int) := of_decide_eq_true (by first | (with_reducible assumption) | assumption)
                  obtain ⟨ad186, e186, hx186_0⟩ := Kd.at_int HR1.out 0 p186 q186
                  cases e186
                  have qi186 : (0 < l1.length) = True := eq_true (by omega)
                  (try rw [show ((0 : Int)).toNat = 0 from rfl] at hx186_0)
                  (try rw [Addr.add_zero'] at hx186_0)
                  replace hx186_0 := (HB.out.cell (World.block_lt_of_cell? w _ hx186_0)).trans hx186_0
                  replace p186 := eq_true p186
                  replace q186 := eq_true q186
                  have p187 : 0 ≤ ((rd l1 0) : Int) := of_decide_eq_true (by first | (with_reducible assumption) | assumption)
                  have q187 : (rd l1 0) < (l0.length : Int) := of_decide_eq_true (by first | (with_reducible assumption) | assumption)
                  obtain ⟨ad187, e187, hx187_0, hx187_1, hx187_2⟩ := at_T39 HR0.out (rd l1 0) p187 q187
                  cases e187
                  replace hx187_0 := (HB.out.cell (World.block_lt_of_cell? w _ hx187_0)).trans hx187_0
                  replace hx187_1 := (HB.out.cell (World.block_lt_of_cell? w _ hx187_1)).trans hx187_1
                  replace hx187_2 := (HB.out.cell (World.block_lt_of_cell? w _ hx187_2)).trans hx187_2
                  replace p187 := eq_true p187
                  replace q187 := eq_true q187
                  go_wp2_with (first | ((with_reducible refine gate_callee (f := 81) rfl ?_); refine goesL_ (some 42) rfl rfl Try.func81 (by kernel_rfl) rfl #[.slice (some ad187) l0.length c0, .slice (some ad186) l1.length c1, .int .i64 ((rd_T39 l0 (rd l1 0)).f0)] rfl (by (try simp only [List.map_toArray, List.map_cons, List.map_nil]); first | done | rfl | (simp only [List.length_drop, List.length_take]; rfl)) ?_; (with_reducible refine (drovewayref09_walked.calls k1 _ _ l0 _ _ l1 ((rd_T39 l0 (rd l1 0)).f0) t188 true _ ?side1 ?side2 ?side3 ?side4 A11.out).mono ?_); (case side1 => repeat (first | exact (Kd.C_below HR0.out HB.out) | (with_reducible refine Kd.C_alloc ?_ _) | (with_reducible refine Kd.C_drewN ?_ _) | (with_reducible refine Kd.C_drew ?_))); (case side2 => exact HC0.out); (case side3 => repeat (first | exact (Kd.C_below HR1.out HB.out) | (with_reducible refine Kd.C_alloc ?_ _) | (with_reducible refine Kd.C_drewN ?_ _) | (with_reducible refine Kd.C_drew ?_))); (case side4 => exact HC1.out); rintro e w13 ⟨rfl, hb⟩; refine ⟨_, rfl, ?_⟩; have n0_ := Aside0.mk (below_step (by repeat (first | (with_reducible first | exact HB.out | apply below_alloc | apply pw_below_drewN | apply below_drew1) | exact HB.out)) hb); clear HB; have HB := n0_; clear n0_; (try clear hb); (try clear hb2); (try clear hk); (try clear hi)))
                  go_ret2
                  exact ⟨by first | rfl | (simp [errW_none, errW_some] <;> rfl) | (simp [*, errW_none, errW_some] <;> rfl), by repeat (first | (with_reducible first | exact HB.out | apply below_alloc | apply pw_below_drewN | apply below_drew1) | exact HB.out)⟩
                · replace c12 := Bool.eq_false_iff.mpr c12
                  subst c12
                  have H1 : ((drovewayref09_walked.f k1 l0 l1 ((rd_T39 l0 (rd l1 0)).f1)).bind fun bt192 => (if bt192.2 = true then (some (bt192.1, true)) else (some (0, false)))) = some (r1, r2) := by rw [if_neg (show ¬ (false = true) by decide)] at H; exact H
                  clear H
                  have H := H1
                  clear H1
                  replace H := Option.bind_eq_some_iff.mp H
                  obtain ⟨⟨t192, t193⟩, A140, H⟩ := H
                  replace H : (if t193 = true then (some (t192, true)) else (some (0, false))) = some (r1, r2) := H
                  have A14 := Aside0.mk A140
                  clear A140
                  by_cases c15 : t193 = true
                  · subst c15
                    have H1 : (some (t192, true)) = some (r1, r2) := by rw [if_pos rfl] at H; exact H
                    clear H
                    have H := H1
                    clear H1
                    simp only [Option.some.injEq, Prod.mk.injEq] at H
                    obtain ⟨rfl, rfl⟩ := H
                    have p186 : 0 ≤ (0 : Int) := (by omega)
                    have q186 : 0 < (l1.length : Int) := of_decide_eq_true (by first | (with_reducible assumption) | assumption)
                    obtain ⟨ad186, e186, hx186_0⟩ := Kd.at_int HR1.out 0 p186 q186
                    cases e186
                    have qi186 : (0 < l1.length) = True := eq_true (by omega)
                    (try rw [show ((0 : Int)).toNat = 0 from rfl] at hx186_0)
                    (try rw [Addr.add_zero'] at hx186_0)
                    replace hx186_0 := (HB.out.cell (World.block_lt_of_cell? w _ hx186_0)).trans hx186_0
                    replace p186 := eq_true p186
                    replace q186 := eq_true q186
                    have p187 : 0 ≤ ((rd l1 0) : Int) := of_decide_eq_true (by first | (with_reducible assumption) | assumption)
                    have q187 : (rd l1 0) < (l0.length : Int) := of_decide_eq_true (by first | (with_reducible assumption) | assumption)
                    obtain ⟨ad187, e187, hx187_0, hx187_1, hx187_2⟩ := at_T39 HR0.out (rd l1 0) p187 q187
                    cases e187
                    replace hx187_0 := (HB.out.cell (World.block_lt_of_cell? w _ hx187_0)).trans hx187_0
                    replace hx187_1 := (HB.out.cell (World.block_lt_of_cell? w _ hx187_1)).trans hx187_1
                    replace hx187_2 := (HB.out.cell (World.block_lt_of_cell? w _ hx187_2)).trans hx187_2
                    replace p187 := eq_true p187
                    replace q187 := eq_true q187
                    go_wp2_with (first | ((with_reducible refine gate_callee (f := 81) rfl ?_); refine goesL_ (some 42) rfl rfl Try.func81 (by kernel_rfl) rfl #[.slice (some ad187) l0.length c0, .slice (some ad186) l1.length c1, .int .i64 ((rd_T39 l0 (rd l1 0)).f0)] rfl (by (try simp only [List.map_toArray, List.map_cons, List.map_nil]); first | done | rfl | (simp only [List.length_drop, List.length_take]; rfl)) ?_; (with_reducible refine (drovewayref09_walked.calls k1 _ _ l0 _ _ l1 ((rd_T39 l0 (rd l1 0)).f0) t188 false _ ?side1 ?side2 ?side3 ?side4 A11.out).mono ?_); (case side1 => repeat (first | exact (Kd.C_below HR0.out HB.out) | (with_reducible refine Kd.C_alloc ?_ _) | (with_reducible refine Kd.C_drewN ?_ _) | (with_reducible refine Kd.C_drew ?_))); (case side2 => exact HC0.out); (case side3 => repeat (first | exact (Kd.C_below HR1.out HB.out) | (with_reducible refine Kd.C_alloc ?_ _) | (with_reducible refine Kd.C_drewN ?_ _) | (with_reducible refine Kd.C_drew ?_))); (case side4 => exact HC1.out); rintro e w16 ⟨rfl, hb⟩; refine ⟨_, rfl, ?_⟩; have n0_ := Aside0.mk (below_step (by repeat (first | (with_reducible first | exact HB.out | apply below_alloc | apply pw_below_drewN | apply below_drew1) | exact HB.out)) hb); clear HB; have HB := n0_; clear n0_; (try clear hb); (try clear hb2); (try clear hk); (try clear hi); have p190 : 0 ≤ (0 : Int) := (by omega); have q190 : 0 < (l1.length : Int) := of_decide_eq_true (by first | (with_reducible assumption) | assumption); obtain ⟨ad190, e190, hx190_0⟩ := Kd.at_int HR1.out 0 p190 q190; obtain rfl : ad186 = ad190 := (by injection e190); have qi190 : (0 < l1.length) = True := eq_true (by omega); (try rw [show ((0 : Int)).toNat = 0 from rfl] at hx190_0); (try rw [Addr.add_zero'] at hx190_0); replace hx190_0 := (HB.out.cell (World.block_lt_of_cell? w _ hx190_0)).trans hx190_0; replace p190 := eq_true p190; replace q190 := eq_true q190; have p191 : 0 ≤ ((rd l1 0) : Int) := of_decide_eq_true (by first | (with_reducible assumption) | assumption); have q191 : (rd l1 0) < (l0.length : Int) := of_decide_eq_true (by first | (with_reducible assumption) | assumption); obtain ⟨ad191, e191, hx191_0, hx191_1, hx191_2⟩ := at_T39 HR0.out (rd l1 0) p191 q191; obtain rfl : ad187 = ad191 := (by injection e191); replace hx191_0 := (HB.out.cell (World.block_lt_of_cell? w _ hx191_0)).trans hx191_0; replace hx191_1 := (HB.out.cell (World.block_lt_of_cell? w _ hx191_1)).trans hx191_1; replace hx191_2 := (HB.out.cell (World.block_lt_of_cell? w _ hx191_2)).trans hx191_2; replace p191 := eq_true p191; replace q191 := eq_true q191) | ((with_reducible refine gate_callee (f := 81) rfl ?_); refine goesL_ (some 57) rfl rfl Try.func81 (by kernel_rfl) rfl #[.slice (some ad187) l0.length c0, .slice (some ad186) l1.length c1, .int .i64 ((rd_T39 l0 (rd l1 0)).f1)] rfl (by (try simp only [List.map_toArray, List.map_cons, List.map_nil]); first | done | rfl | (simp only [List.length_drop, List.length_take]; rfl)) ?_; (with_reducible refine (drovewayref09_walked.calls k1 _ _ l0 _ _ l1 ((rd_T39 l0 (rd l1 0)).f1) t192 true _ ?side1 ?side2 ?side3 ?side4 A14.out).mono ?_); (case side1 => repeat (first | exact (Kd.C_below HR0.out HB.out) | (with_reducible refine Kd.C_alloc ?_ _) | (with_reducible refine Kd.C_drewN ?_ _) | (with_reducible refine Kd.C_drew ?_))); (case side2 => exact HC0.out); (case side3 => repeat (first | exact (Kd.C_below HR1.out HB.out) | (with_reducible refine Kd.C_alloc ?_ _) | (with_reducible refine Kd.C_drewN ?_ _) | (with_reducible refine Kd.C_drew ?_))); (case side4 => exact HC1.out); rintro e w17 ⟨rfl, hb⟩; refine ⟨_, rfl, ?_⟩; have n0_ := Aside0.mk (below_step (by repeat (first | (with_reducible first | exact HB.out | apply below_alloc | apply pw_below_drewN | apply below_drew1) | exact HB.out)) hb); clear HB; have HB := n0_; clear n0_; (try clear hb); (try clear hb2); (try clear hk); (try clear hi)))
                    go_ret2
                    exact ⟨by first | rfl | (simp [errW_none, errW_some] <;> rfl) | (simp [*, errW_none, errW_some] <;> rfl), by repeat (first | (with_reducible first | exact HB.out | apply below_alloc | apply pw_below_drewN | apply below_drew1) | exact HB.out)⟩
                  · replace c15 := Bool.eq_false_iff.mpr c15
                    subst c15
                    have H1 : (some (0, false)) = some (r1, r2) := by rw [if_neg (show ¬ (false = true) by decide)] at H; exact H
                    clear H
                    have H := H1
                    clear H1
                    simp only [Option.some.injEq, Prod.mk.injEq] at H
                    obtain ⟨rfl, rfl⟩ := H
                    have p186 : 0 ≤ (0 : Int) := (by omega)
                    have q186 : 0 < (l1.length : Int) := of_decide_eq_true (by first | (with_reducible assumption) | assumption)
                    obtain ⟨ad186, e186, hx186_0⟩ := Kd.at_int HR1.out 0 p186 q186
                    cases e186
                    have qi186 : (0 < l1.length) = True := eq_true (by omega)
                    (try rw [show ((0 : Int)).toNat = 0 from rfl] at hx186_0)
                    (try rw [Addr.add_zero'] at hx186_0)
                    replace hx186_0 := (HB.out.cell (World.block_lt_of_cell? w _ hx186_0)).trans hx186_0
                    replace p186 := eq_true p186
                    replace q186 := eq_true q186
                    have p187 : 0 ≤ ((rd l1 0) : Int) := of_decide_eq_true (by first | (with_reducible assumption) | assumption)
                    have q187 : (rd l1 0) < (l0.length : Int) := of_decide_eq_true (by first | (with_reducible assumption) | assumption)
                    obtain ⟨ad187, e187, hx187_0, hx187_1, hx187_2⟩ := at_T39 HR0.out (rd l1 0) p187 q187
                    cases e187
                    replace hx187_0 := (HB.out.cell (World.block_lt_of_cell? w _ hx187_0)).trans hx187_0
                    replace hx187_1 := (HB.out.cell (World.block_lt_of_cell? w _ hx187_1)).trans hx187_1
                    replace hx187_2 := (HB.out.cell (World.block_lt_of_cell? w _ hx187_2)).trans hx187_2
                    replace p187 := eq_true p187
                    replace q187 := eq_true q187
                    go_wp2_with (first | ((with_reducible refine gate_callee (f := 81) rfl ?_); refine goesL_ (some 42) rfl rfl Try.func81 (by kernel_rfl) rfl #[.slice (some ad187) l0.length c0, .slice (some ad186) l1.length c1, .int .i64 ((rd_T39 l0 (rd l1 0)).f0)] rfl (by (try simp only [List.map_toArray, List.map_cons, List.map_nil]); first | done | rfl | (simp only [List.length_drop, List.length_take]; rfl)) ?_; (with_reducible refine (drovewayref09_walked.calls k1 _ _ l0 _ _ l1 ((rd_T39 l0 (rd l1 0)).f0) t188 false _ ?side1 ?side2 ?side3 ?side4 A11.out).mono ?_); (case side1 => repeat (first | exact (Kd.C_below HR0.out HB.out) | (with_reducible refine Kd.C_alloc ?_ _) | (with_reducible refine Kd.C_drewN ?_ _) | (with_reducible refine Kd.C_drew ?_))); (case side2 => exact HC0.out); (case side3 => repeat (first | exact (Kd.C_below HR1.out HB.out) | (with_reducible refine Kd.C_alloc ?_ _) | (with_reducible refine Kd.C_drewN ?_ _) | (with_reducible refine Kd.C_drew ?_))); (case side4 => exact HC1.out); rintro e w18 ⟨rfl, hb⟩; refine ⟨_, rfl, ?_⟩; have n0_ := Aside0.mk (below_step (by repeat (first | (with_reducible first | exact HB.out | apply below_alloc | apply pw_below_drewN | apply below_drew1) | exact HB.out)) hb); clear HB; have HB := n0_; clear n0_; (try clear hb); (try clear hb2); (try clear hk); (try clear hi); have p190 : 0 ≤ (0 : Int) := (by omega); have q190 : 0 < (l1.length : Int) := of_decide_eq_true (by first | (with_reducible assumption) | assumption); obtain ⟨ad190, e190, hx190_0⟩ := Kd.at_int HR1.out 0 p190 q190; obtain rfl : ad186 = ad190 := (by injection e190); have qi190 : (0 < l1.length) = True := eq_true (by omega); (try rw [show ((0 : Int)).toNat = 0 from rfl] at hx190_0); (try rw [Addr.add_zero'] at hx190_0); replace hx190_0 := (HB.out.cell (World.block_lt_of_cell? w _ hx190_0)).trans hx190_0; replace p190 := eq_true p190; replace q190 := eq_true q190; have p191 : 0 ≤ ((rd l1 0) : Int) := of_decide_eq_true (by first | (with_reducible assumption) | assumption); have q191 : (rd l1 0) < (l0.length : Int) := of_decide_eq_true (by first | (with_reducible assumption) | assumption); obtain ⟨ad191, e191, hx191_0, hx191_1, hx191_2⟩ := at_T39 HR0.out (rd l1 0) p191 q191; obtain rfl : ad187 = ad191 := (by injection e191); replace hx191_0 := (HB.out.cell (World.block_lt_of_cell? w _ hx191_0)).trans hx191_0; replace hx191_1 := (HB.out.cell (World.block_lt_of_cell? w _ hx191_1)).trans hx191_1; replace hx191_2 := (HB.out.cell (World.block_lt_of_cell? w _ hx191_2)).trans hx191_2; replace p191 := eq_true p191; replace q191 := eq_true q191) | ((with_reducible refine gate_callee (f := 81) rfl ?_); refine goesL_ (some 57) rfl rfl Try.func81 (by kernel_rfl) rfl #[.slice (some ad187) l0.length c0, .slice (some ad186) l1.length c1, .int .i64 ((rd_T39 l0 (rd l1 0)).f1)] rfl (by (try simp only [List.map_toArray, List.map_cons, List.map_nil]); first | done | rfl | (simp only [List.length_drop, List.length_take]; rfl)) ?_; (with_reducible refine (drovewayref09_walked.calls k1 _ _ l0 _ _ l1 ((rd_T39 l0 (rd l1 0)).f1) t192 false _ ?side1 ?side2 ?side3 ?side4 A14.out).mono ?_); (case side1 => repeat (first | exact (Kd.C_below HR0.out HB.out) | (with_reducible refine Kd.C_alloc ?_ _) | (with_reducible refine Kd.C_drewN ?_ _) | (with_reducible refine Kd.C_drew ?_))); (case side2 => exact HC0.out); (case side3 => repeat (first | exact (Kd.C_below HR1.out HB.out) | (with_reducible refine Kd.C_alloc ?_ _) | (with_reducible refine Kd.C_drewN ?_ _) | (with_reducible refine Kd.C_drew ?_))); (case side4 => exact HC1.out); rintro e w19 ⟨rfl, hb⟩; refine ⟨_, rfl, ?_⟩; have n0_ := Aside0.mk (below_step (by repeat (first | (with_reducible first | exact HB.out | apply below_alloc | apply pw_below_drewN | apply below_drew1) | exact HB.out)) hb); clear HB; have HB := n0_; clear n0_; (try clear hb); (try clear hb2); (try clear hk); (try clear hi)))
                    go_ret2
                    exact ⟨by first | rfl | (simp [errW_none, errW_some] <;> rfl) | (simp [*, errW_none, errW_some] <;> rfl), by repeat (first | (with_reducible first | exact HB.out | apply below_alloc | apply pw_below_drewN | apply below_drew1) | exact HB.out)⟩
              · rw [if_neg c10] at H
                exact absurd H (by simp)
            · rw [if_neg c9] at H
              exact absurd H (by simp)
          · rw [if_neg c8] at H
            exact absurd H (by simp)

-- NOT PRINTED: function 77 (drovewayref09_ringed)

-- NOT PRINTED: function 51 (drovewayref09_shortest)

-- NOT PRINTED: function 21 (drovewayref09_Ring)

/-! ### drovewayref09_IsRing: function 40 -/
def drovewayref09_IsRing.f (k : Nat) (a0 : Int) (l1 : List (S39)) (l2 : List Int) : Option (Int × Bool × Int) := (drovewayref09_Ties.f k a0 l1).bind fun t276 => (if t276 = 0 then ((drovewayref09_isRing.f k l1 l2).bind fun bt277 => (some (bt277.1, bt277.2, 0))) else (some (0, false, t276)))
theorem drovewayref09_IsRing.mono : ∀ a0 a1 a2 k, LeO (drovewayref09_IsRing.f k a0 a1 a2) (drovewayref09_IsRing.f (k + 1) a0 a1 a2) := by
  intro a0 a1 a2 k
  unfold drovewayref09_IsRing.f
  repeat' first
      | (with_reducible exact drovewayref09_Ties.mono _ _ _)
      | (with_reducible exact drovewayref09_isRing.mono _ _ _)
      | (with_reducible exact LeO.refl _)
      | (with_reducible exact LeO.none _)
      | (with_reducible refine LeO.ite ?_ ?_)
      | (with_reducible refine LeO.bind ?_ (fun _ => ?_))
      | exact drovewayref09_Ties.mono _ _ _
      | exact drovewayref09_isRing.mono _ _ _
      | exact LeO.none _
      | refine LeO.ite ?_ ?_
      | refine LeO.bind ?_ (fun _ => ?_)
set_option maxHeartbeats 8000000 in
set_option maxRecDepth 100000 in
theorem drovewayref09_IsRing.calls (k : Nat) (a0 : Int) (A1 : Option Addr) (c1 : Nat) (l1 : List (S39)) (A2 : Option Addr) (c2 : Nat) (l2 : List Int) (r1 : Int) (r2 : Bool) (r3 : Int) (w : World) (hr1 : Kd.C k39 w A1 l1.length l1) (hc1 : l1.length ≤ c1) (hr2 : Kd.C (Kd.int .i64) w A2 l2.length l2) (hc2 : l2.length ≤ c2) (h : drovewayref09_IsRing.f k a0 l1 l2 = some (r1, r2, r3)) :
    Calls Try.prog 40 #[.int .i64 a0, .slice A1 l1.length c1, .slice A2 l2.length c2] w fun e w' => e = .returned (.tuple #[.int .i64 r1, .bool r2, .int .i64 r3]) ∧ Below w.heap.size w w' := by
  have HR1 := Aside0.mk hr1
  have HC1 := Aside0.mk hc1
  clear hr1 hc1
  have HR2 := Aside0.mk hr2
  have HC2 := Aside0.mk hc2
  clear hr2 hc2
  have HB := Aside0.mk (Below.refl w.heap.size w)
  have H : ((drovewayref09_Ties.f k a0 l1).bind fun t276 => (if t276 = 0 then ((drovewayref09_isRing.f k l1 l2).bind fun bt277 => (some (bt277.1, bt277.2, 0))) else (some (0, false, t276)))) = some (r1, r2, r3) := h
  clear h
  replace H := Option.bind_eq_some_iff.mp H
  obtain ⟨t276, A40, H⟩ := H
  replace H : (if t276 = 0 then ((drovewayref09_isRing.f k l1 l2).bind fun bt277 => (some (bt277.1, bt277.2, 0))) else (some (0, false, t276))) = some (r1, r2, r3) := H
  have A4 := Aside0.mk A40
  clear A40
  by_cases c5 : t276 = 0
  · rw [if_pos c5] at H
    have c5b0 : (t276 == 0) = true := beq_iff_eq.mpr c5
    have c5b1 : (t276 != 0) = false := bne_eq_false_iff_eq.mpr c5
    clear c5
    replace H := Option.bind_eq_some_iff.mp H
    obtain ⟨⟨t277, t278⟩, A60, H⟩ := H
    replace H : (some (t277, t278, 0)) = some (r1, r2, r3) := H
    have A6 := Aside0.mk A60
    clear A60
    simp only [Option.some.injEq, Prod.mk.injEq] at H
    obtain ⟨rfl, rfl, rfl⟩ := H
    go_enter Try.func40, Try.ntmps40
    go_wp2_with (first | ((with_reducible refine gate_callee (f := 24) rfl ?_); refine goesL_ (some 14) rfl rfl Try.func24 (by kernel_rfl) rfl #[.int .i64 a0, .slice A1 l1.length c1] rfl (by (try simp only [List.map_toArray, List.map_cons, List.map_nil]); first | done | rfl | (simp only [List.length_drop, List.length_take]; rfl)) ?_; (with_reducible refine (drovewayref09_Ties.calls k a0 _ _ l1 t276 _ ?side1 ?side2 A4.out).mono ?_); (case side1 => repeat (first | exact HR1.out | (with_reducible refine Kd.C_alloc ?_ _) | (with_reducible refine Kd.C_drewN ?_ _) | (with_reducible refine Kd.C_drew ?_))); (case side2 => exact HC1.out); rintro e w' ⟨rfl, ⟨nd, rfl⟩⟩; refine ⟨_, rfl, ?_⟩) | ((with_reducible refine gate_callee (f := 64) rfl ?_); refine goesL_ (some 21) rfl rfl Try.func64 (by kernel_rfl) rfl #[.slice A1 l1.length c1, .slice A2 l2.length c2] rfl (by (try simp only [List.map_toArray, List.map_cons, List.map_nil]); first | done | rfl | (simp only [List.length_drop, List.length_take]; rfl)) ?_; (with_reducible refine (drovewayref09_isRing.calls k _ _ l1 _ _ l2 t277 t278 _ ?side1 ?side2 ?side3 ?side4 A6.out).mono ?_); (case side1 => repeat (first | exact HR1.out | (with_reducible refine Kd.C_alloc ?_ _) | (with_reducible refine Kd.C_drewN ?_ _) | (with_reducible refine Kd.C_drew ?_))); (case side2 => exact HC1.out); (case side3 => repeat (first | exact HR2.out | (with_reducible refine Kd.C_alloc ?_ _) | (with_reducible refine Kd.C_drewN ?_ _) | (with_reducible refine Kd.C_drew ?_))); (case side4 => exact HC2.out); rintro e w7 ⟨rfl, hb⟩; refine ⟨_, rfl, ?_⟩; have n0_ := Aside0.mk (below_step (by repeat (first | (with_reducible first | exact HB.out | apply below_alloc | apply pw_below_drewN | apply below_drew1) | exact HB.out)) hb); clear HB; have HB := n0_; clear n0_; (try clear hb); (try clear hb2); (try clear hk); (try clear hi)))
    go_ret3
    exact ⟨by first | rfl | (simp [errW_none, errW_some] <;> rfl) | (simp [*, errW_none, errW_some] <;> rfl), by repeat (first | (with_reducible first | exact HB.out | apply below_alloc | apply pw_below_drewN | apply below_drew1) | exact HB.out)⟩
  · rw [if_neg c5] at H
    have c5b0 : (t276 == 0) = false := beq_eq_false_iff_ne.mpr c5
    have c5b1 : (t276 != 0) = true := bne_iff_ne.mpr c5
    simp only [Option.some.injEq, Prod.mk.injEq] at H
    obtain ⟨rfl, rfl, rfl⟩ := H
    go_enter Try.func40, Try.ntmps40
    go_wp2_with (first | ((with_reducible refine gate_callee (f := 24) rfl ?_); refine goesL_ (some 14) rfl rfl Try.func24 (by kernel_rfl) rfl #[.int .i64 a0, .slice A1 l1.length c1] rfl (by (try simp only [List.map_toArray, List.map_cons, List.map_nil]); first | done | rfl | (simp only [List.length_drop, List.length_take]; rfl)) ?_; (with_reducible refine (drovewayref09_Ties.calls k a0 _ _ l1 t276 _ ?side1 ?side2 A4.out).mono ?_); (case side1 => repeat (first | exact HR1.out | (with_reducible refine Kd.C_alloc ?_ _) | (with_reducible refine Kd.C_drewN ?_ _) | (with_reducible refine Kd.C_drew ?_))); (case side2 => exact HC1.out); rintro e w' ⟨rfl, ⟨nd, rfl⟩⟩; refine ⟨_, rfl, ?_⟩))
    go_ret3
    exact ⟨by first | rfl | (simp [errW_none, errW_some] <;> rfl) | (simp [*, errW_none, errW_some] <;> rfl), by repeat (first | (with_reducible first | exact HB.out | apply below_alloc | apply pw_below_drewN | apply below_drew1) | exact HB.out)⟩

-- NOT PRINTED: function 9 (drovewaylaw09_FeudsRings)

end
end Go.Proofs.Ytaegldcifhgnmaa.B

/- append to a row of whole numbers that is cut to its own length: one step of a region that draws its order. -/
namespace Go.Proofs.Ytaegldcifhgnmaa.B
open Go.Proofs.Ytaegldcifhgnmaa.A
open Go.RowKit Go.Proofs.YtaegldcifhgnmaaW.PrintWords Go.Proofs.YtaegldcifhgnmaaW.PrintMore

theorem grown_some {w w' : World} (h : w.grownBy w' none) (row : Option Nat) : w.grownBy w' row := ⟨h.os, h.tape, h.output, h.size, fun k hk _ => h.block k hk (by intro e; cases e)⟩
theorem appendI_run {W : World} {B : Nat} {A1 : Option Addr} {n c1 : Nat} {now : List Int} (p : Int) (ty : TypeId) (HO : Kd.R (Kd.int .i64) 3 W B (fun _ => True) (.slice A1 n c1) now) (hB : B ≤ W.heap.size) (hn : n ≤ 1000) :
    ∃ v1 w1, (Builtin.append_ #[28, 28] ty #[.slice A1 n n, .slice (some ⟨W.heap.size, 0, none⟩) 1 1]).run Try.prog (W.alloc (.cells #[.int .i64 p] 3)) = .ok v1 w1 ∧ Kd.R (Kd.int .i64) 3 w1 B (fun _ => True) v1 (now ++ [p]) ∧ Below W.heap.size W w1 := by
  obtain ⟨i0, hi, hzz⟩ := Option.map_eq_some_iff.1 info3
  simp only [Prod.mk.injEq] at hzz
  obtain ⟨hz0, hz1, hz2⟩ := hzz
  have hnl : n = now.length := (Kd.R_reads' HO).1
  obtain ⟨h0, inner, hown, hr⟩ := HO
  have hnews := World.news_of_block (cs := #[.int .i64 p]) (t := 3) (fr := (0, 0)) (heap_alloc_new W (.cells #[.int .i64 p] 3))
  have hsz : (Kd.int .i64).sz = 1 := rfl
  have key : ∃ v1 w1, (Builtin.append_ #[28, 28] ty #[.slice A1 n n, .slice (some ⟨W.heap.size, 0, none⟩) 1 1]).run Try.prog (W.alloc (.cells #[.int .i64 p] 3)) = .ok v1 w1 ∧ w1.ownsRow (W.heap.size + 1) 3 1 v1 (n + 1) (inner ++ [.int .i64 p]) ∧ (W.alloc (.cells #[.int .i64 p] 3)).grownBy w1 none := by
    rcases hown.2 with ⟨e1, e2⟩ | ⟨g, cap, cur, e1, hg, hh, hc, hcm, hcs, ht⟩
    · injection e1 with e3 e4 e5
      subst e3 e4
      have hin : inner = [] := by
        have := hown.1
        rw [← hnl, Nat.zero_mul] at this
        exact List.eq_nil_of_length_eq_zero this
      rw [hin]
      obtain ⟨v1, w1, h1, h2, h3, _⟩ := run_append_own_at (P := Try.prog) (W.alloc (.cells #[.int .i64 p] 3)) (W.heap.size + 1) 28 ty 3 i0 (.int .i64 0) 1 8 Try.underlying28 hi hz0 hz1 hz2 rfl (by decide) (.slice none 0 0) 0 [] (own_nil _ _ _ _) ⟨W.heap.size, 0, none⟩ 1 1 [.int .i64 p] rfl hnews (by intro u hu; simp at hu; subst hu; rfl) (by decide) (by decide) (by simp)
      exact ⟨v1, w1, h1, h2, h3⟩
    · injection e1 with e3 e4 e5
      subst e3
      rw [hsz] at hcs ht hown
      have hlen := hown.1
      rw [← hnl] at hlen ht
      have holds : ∀ j u, inner[j]? = some u → (W.alloc (.cells #[.int .i64 p] 3)).cell? ((⟨g, 0, none⟩ : Addr).add j) = some u := by
        intro j u hu
        have hgl : g < W.heap.size := by
          have := (Array.getElem?_eq_some_iff.1 hh).1
          exact this
        have hb2 : (W.alloc (.cells #[.int .i64 p] 3)).heap[g]? = some (.cells cur 3 (0, 0)) := by
          rw [← hh]
          exact (below_alloc (Below.refl W.heap.size W) _).block g hgl
        refine World.news_of_block hb2 j u ?_
        rw [← ht, List.getElem?_take] at hu
        split at hu
        · exact hu
        · cases hu
      obtain ⟨v1, w1, h1, h2, h3⟩ := run_append_arg_grows (P := Try.prog) (w := W.alloc (.cells #[.int .i64 p] 3)) 28 ty 3 i0 (.int .i64 0) 1 8 Try.underlying28 hi hz0 hz1 hz2 rfl (by decide) ⟨g, 0, none⟩ n n inner hlen holds ⟨W.heap.size, 0, none⟩ 1 1 [.int .i64 p] rfl hnews (by omega) (by simp only [maxLen]; omega) (by omega)
      exact ⟨v1, w1, h1, by simpa using h2, h3⟩
  obtain ⟨v1, w1, h1, h2, h3⟩ := key
  have hgr : W.grownBy w1 none := World.grownBy.trans (World.grownBy_alloc W _ _) h3
  refine ⟨v1, w1, h1, ?_, (below_alloc (Below.refl W.heap.size W) _).grown h3 (by simp) (fun k hk => by cases hk)⟩
  have hown1 : w1.ownsRow B 3 (Kd.int .i64).sz v1 (now.length + 1) (inner ++ [.int .i64 p]) := by rw [← hnl]; exact own_weaken h2 (by omega)
  refine Kd.R_appended (okp := fun _ => False) h0 hr rfl (fun _ hk => hk.elim) (fun _ _ => trivial) hown1 (grown_some hgr _) ?_
  right
  rcases h2.2 with ⟨_, e⟩ | ⟨g, cap, cur, e, hg, _⟩
  · omega
  · exact ⟨g, by rw [e]; rfl, by omega⟩
section
variable {ops : Array Oper} {o : Oper} {a : Act} {Q : Exit → Act → World → Prop} {K : Act → World → Prop}
theorem step_appendI {W : World} {B : Nat} {A1 : Option Addr} {n c1 : Nat} {now : List Int} (p : Int) (hw : Region.wanted o (yielded ops a.tmps) = true) (s x : Operand) (ho : o.op = .call { callee := .builtin .append, args := #[s, x], argTypes := #[28, 28] })
    (hs : a.eval s = .slice A1 n n) (hx : a.eval x = .slice (some ⟨W.heap.size, 0, none⟩) 1 1) (HO : Kd.R (Kd.int .i64) 3 W B (fun _ => True) (.slice A1 n c1) now) (hB : B ≤ W.heap.size) (hn : n ≤ 1000)
    (h : ∀ v1 w1, Kd.R (Kd.int .i64) 3 w1 B (fun _ => True) v1 (now ++ [p]) → Below W.heap.size W w1 → K (a.put o.dst v1) w1) :
    if Region.wanted o (yielded ops a.tmps) = true then Oper.wp Try.prog o a (W.alloc (.cells #[.int .i64 p] 3)) K Q else K (a.put o.dst undef) (W.alloc (.cells #[.int .i64 p] 3)) := by
  obtain ⟨v1, w1, hr, h1, h2⟩ := appendI_run p o.type HO hB hn
  rw [if_pos hw]
  unfold Oper.wp execOp
  simp only [ho, resolve, invoke, builtin, Sem.run_bind, Sem.run_pure, Result.andThen_ok, List.map_toArray, List.map_cons, List.map_nil, hs, hx, hr]
  exact h v1 w1 h1 h2
end
end Go.Proofs.Ytaegldcifhgnmaa.B

/- Rows of whole numbers of the call's own, sorted. -/
namespace Go.Proofs.Ytaegldcifhgnmaa.A
open Go.RowKit Go.Proofs.YtaegldcifhgnmaaW.PrintWords Go.Sort Go.Lib

/-- A row's world behind a store of a whole row. -/
theorem own_put {W : World} {base g n cap q : Nat} {os : Array Obj} {xs ys : List Int} (h : Kd.R (Kd.int .i64) 3 W base (fun _ => True) (.slice (some ⟨g, 0, none⟩) n cap) xs) (hl : ys.length = xs.length) :
    Kd.R (Kd.int .i64) 3 (grow (putRow (Value.int .i64) (Sort.ahead W q) g 0 ys.toArray) os) base (fun _ => True) (.slice (some ⟨g, 0, none⟩) n cap) ys ∧ W.grownBy (grow (putRow (Value.int .i64) (Sort.ahead W q) g 0 ys.toArray) os) (some g) := by
  have ho := Kd.own_of_R h
  rcases ho.2 with ⟨h0, _⟩ | ⟨g', cap', cur, hv, hg, hb, h1, h2, h3, h4⟩
  · cases h0
  · cases hv
    have := ownsRow_sortedI (os := os) (n := q) (ts := ys) (ss := xs) hl hg hb h1 h2 h3
    refine ⟨Kd.R_of_own (by rw [hl]; exact this) (fun _ _ => trivial), grownBy_sortedI _⟩
theorem own_holds {W : World} {base g n cap : Nat} {xs : List Int} (h : Kd.R (Kd.int .i64) 3 W base (fun _ => True) (.slice (some ⟨g, 0, none⟩) n cap) xs) : Holds (Value.int .i64) W g 0 xs.toArray := by
  rcases (Kd.own_of_R h).2 with ⟨h0, _⟩ | ⟨g', cap', cur, hv, hg, hb, h1, h2, h3, h4⟩
  · cases h0
  · cases hv
    exact holds_of_blockI hb (by simpa [encs] using h4)
theorem own_form {W : World} {base : Nat} {v : Value} {xs : List Int} (h : Kd.R (Kd.int .i64) 3 W base (fun _ => True) v xs) (h0 : 0 < xs.length) : ∃ g cap, v = .slice (some ⟨g, 0, none⟩) xs.length cap ∧ base ≤ g ∧ g < W.heap.size ∧ xs.length ≤ cap := by
  have ho := Kd.own_of_R h
  rcases ho.2 with ⟨_, h1⟩ | ⟨g', cap', cur, hv, hg, hb, h1, h2, h3, h4⟩
  · omega
  · exact ⟨g', cap', hv, hg, blk_lt hb, h1⟩

/-- Sorted. -/
def sortI (l : List Int) : List Int := l.mergeSort fun x y => decide (x ≤ y)
theorem sortI_len (l : List Int) : (sortI l).length = l.length := List.length_mergeSort _
theorem sort_any {v : Value} {base : Nat} {xs : List Int} {w : World} (h : Kd.R (Kd.int .i64) 3 w base (fun _ => True) v xs) (hl : xs.length ≤ 1000) :
    Calls Try.prog 78 #[v] w fun e w' => e = .returned (.tuple #[]) ∧ Kd.R (Kd.int .i64) 3 w' base (fun _ => True) v (sortI xs) ∧ w.grownBy w' v.ownBlock := by
  by_cases h0 : 0 < xs.length
  · obtain ⟨g, cap, rfl, hg, hlt, hc⟩ := own_form h h0
    refine (Try.slices_Sort_int g 0 cap xs w (own_holds h) hlt (by omega)).mono ?_
    rintro e w' ⟨rfl, n, os, rfl⟩
    exact ⟨rfl, own_put h (sortI_len xs)⟩
  · have hnil : xs = [] := List.length_eq_zero_iff.1 (by omega)
    subst hnil
    obtain ⟨A, c, rfl, _, _⟩ := Kd.R_reads h
    refine (Try.slices_Sort_int_none A c w).mono ?_
    rintro e w' ⟨rfl, rfl⟩
    exact ⟨rfl, by rw [show sortI [] = [] by simp [sortI]]; exact h, World.grownBy.refl _ _⟩

end Go.Proofs.Ytaegldcifhgnmaa.A

/- The groups of drovers, plain. -/
namespace Go.Proofs.Ytaegldcifhgnmaa.A
open Go.RowKit Go.Proofs.YtaegldcifhgnmaaW.PrintWords Go.Proofs.YtaegldcifhgnmaaW.PrintMore

/-- a without b. -/
def less (a b : Nat) : Nat := a ^^^ (a &&& b)
theorem tb_less (a b i : Nat) : (less a b).testBit i = (a.testBit i && !b.testBit i) := by
  unfold less
  rw [Nat.testBit_xor, Nat.testBit_and]
  cases a.testBit i <;> cases b.testBit i <;> rfl
theorem less_lt {a b k : Nat} (h : a < 2 ^ k) : less a b < 2 ^ k := Nat.xor_lt_two_pow h (Nat.lt_of_le_of_lt Nat.and_le_left h)
theorem andNot64 (a b : Nat) (ha : a < 2 ^ 62) (_hb : b < 2 ^ 62) : bits .andNot .i64 (a : Int) (b : Int) = ((less a b : Nat) : Int) := by
  have e : (BitVec.ofInt IntKind.i64.bits (a : Int) &&& ~~~ BitVec.ofInt IntKind.i64.bits (b : Int)).toNat = less a b := by
    rw [BitVec.ofInt_natCast, BitVec.ofInt_natCast]
    apply Nat.eq_of_testBit_eq
    intro i
    rw [tb_less, BitVec.testBit_toNat, BitVec.getLsbD_and, BitVec.getLsbD_not, BitVec.getLsbD_ofNat, BitVec.getLsbD_ofNat]
    by_cases hi : i < IntKind.i64.bits
    · simp [hi]
    · rw [tb_big ha (j := i) (by have : IntKind.i64.bits = 64 := rfl; omega)]
      simp
  show IntKind.i64.wrap _ = _
  simp only [e]
  exact wrap64_nat _ (by omega) (by exact_mod_cast less_lt ha)

/-- The least drover of a set, as a set. -/
def lowB (x : Nat) : Nat := less x (x - 1)
theorem low_table : (List.range 256).all (fun x => decide (bits .and .i64 (x : Int) (-(x : Int)) = (lowB x : Int))) = true := by decide +kernel
theorem low_ask {x : Nat} (h : x < 256) : bits .and .i64 (x : Int) (-(x : Int)) = (lowB x : Int) := by
  have := List.all_eq_true.1 low_table x (List.mem_range.2 h)
  exact of_decide_eq_true this

def pairB (t : S39) : Nat := 2 ^ t.f0.toNat ||| 2 ^ t.f1.toNat
/-- A set, with the drovers that a tie adds. -/
def addT (q : S39 → Bool) (t : S39) (x : Nat) : Nat := if q t = true ∧ x &&& pairB t ≠ 0 then x ||| pairB t else x
/-- With those that the first k ties add, one after another. -/
def addK (q : S39 → Bool) (l : List S39) (x : Nat) : Nat → Nat
  | 0 => x
  | k + 1 => addT q (l.getD k z39) (addK q l x k)
def spread (q : S39 → Bool) (l : List S39) (x : Nat) : Nat → Nat
  | 0 => x
  | k + 1 => addK q l (spread q l x k) l.length
/-- The groups of those that are left. -/
def groupsL (q : S39 → Bool) (n : Nat) (l : List S39) : Nat → Nat → List Int
  | 0, _ => []
  | f + 1, left => if left = 0 then [] else ((spread q l (lowB left) n : Nat) : Int) :: groupsL q n l f (less left (spread q l (lowB left) n))
def groupsF (q : S39 → Bool) (n : Nat) (l : List S39) : List Int := groupsL q n l (2 ^ n) (2 ^ n - 1)

theorem addT_sup {q : S39 → Bool} {t : S39} {x i : Nat} (h : x.testBit i = true) : (addT q t x).testBit i = true := by
  unfold addT
  split
  · rw [Nat.testBit_or, h]; rfl
  · exact h
theorem addK_sup {q : S39 → Bool} {l : List S39} {x i : Nat} (h : x.testBit i = true) : ∀ k, (addK q l x k).testBit i = true
  | 0 => h
  | k + 1 => addT_sup (addK_sup h k)
theorem spread_sup {q : S39 → Bool} {l : List S39} {x i : Nat} (h : x.testBit i = true) : ∀ k, (spread q l x k).testBit i = true
  | 0 => h
  | k + 1 => addK_sup (spread_sup h k) _
/-- Ties of m drovers. -/
def okN (m : Nat) (l : List S39) : Prop := ∀ t ∈ l, 0 ≤ t.f0 ∧ t.f0 < m ∧ 0 ≤ t.f1 ∧ t.f1 < m
theorem pairB_lt {m : Nat} {t : S39} (h : 0 ≤ t.f0 ∧ t.f0 < m ∧ 0 ≤ t.f1 ∧ t.f1 < m) : pairB t < 2 ^ m :=
  or_lt (Nat.pow_lt_pow_right (by decide) (by omega)) (Nat.pow_lt_pow_right (by decide) (by omega))
theorem addK_lt {q : S39 → Bool} {l : List S39} {x m : Nat} (hl : okN m l) (hx : x < 2 ^ m) : ∀ k, k ≤ l.length → addK q l x k < 2 ^ m
  | 0, _ => hx
  | k + 1, hk => by
    unfold addK addT
    split
    · exact or_lt (addK_lt hl hx k (by omega)) (pairB_lt (hl _ (getD_mem z39 (by omega))))
    · exact addK_lt hl hx k (by omega)
theorem spread_lt {q : S39 → Bool} {l : List S39} {x m : Nat} (hl : okN m l) (hx : x < 2 ^ m) : ∀ k, spread q l x k < 2 ^ m
  | 0 => hx
  | k + 1 => addK_lt hl (spread_lt hl hx k) _ (Nat.le_refl _)
theorem lowB_lt {x m : Nat} (h : x < 2 ^ m) : lowB x < 2 ^ m := less_lt h
theorem low_bit_table : (List.range 256).all (fun x => x == 0 || (List.range 8).any fun i => x.testBit i && (lowB x).testBit i) = true := by decide +kernel
theorem low_bit {x : Nat} (h : x < 256) (h0 : x ≠ 0) : ∃ i, x.testBit i = true ∧ (lowB x).testBit i = true := by
  have := List.all_eq_true.1 low_bit_table x (List.mem_range.2 h)
  rw [Bool.or_eq_true, beq_iff_eq] at this
  rcases this with h1 | h1
  · exact absurd h1 h0
  · obtain ⟨i, _, hi⟩ := List.any_eq_true.1 h1
    rw [Bool.and_eq_true] at hi
    exact ⟨i, hi.1, hi.2⟩
theorem less_le (a b : Nat) : less a b ≤ a := by
  have : a &&& less a b = less a b := by
    apply Nat.eq_of_testBit_eq
    intro i
    rw [Nat.testBit_and, tb_less]
    cases a.testBit i <;> simp
  rw [← this]
  exact Nat.and_le_left
theorem less_dec {a b i : Nat} (ha : a.testBit i = true) (hb : b.testBit i = true) : less a b < a := by
  have h1 := less_le a b
  rcases Nat.lt_or_eq_of_le h1 with h | h
  · exact h
  · have := tb_less a b i
    rw [h, ha, hb] at this
    cases this
end Go.Proofs.Ytaegldcifhgnmaa.A

/- The groups of drovers: the walk. -/
namespace Go.Proofs.Ytaegldcifhgnmaa.A
open Go.RowKit Go.Proofs.YtaegldcifhgnmaaW.PrintWords Go.Proofs.YtaegldcifhgnmaaW.PrintMore

/-- A function value that says of a tie whether something is true of it. -/
structure SaysT (gq : Nat) (q : S39 → Bool) : Prop where
  enters : ∀ args w, (callFunc gq args).run Try.prog w = .ok (.enter gq args) w
  call : ∀ (t : S39) (W : World), Calls Try.prog gq #[.agg #[.int .i64 t.f0, .int .i64 t.f1, .bool t.f2]] W fun e w' => e = .returned (.bool (q t)) ∧ Below W.heap.size W w'

/-- What is held. -/
structure Held (w : World) (n : Nat) (A : Option Addr) (c : Nat) (l : List S39) (v : Value) (out : List Int) (W : World) : Prop where
  net : W.heap[w.heap.size]? = some (.cells #[.int .i64 n, .slice A l.length c] 59 (0, 0))
  below : Below w.heap.size w W
  row : Kd.R (Kd.int .i64) 3 W (w.heap.size + 1) (fun _ => True) v out
theorem held_next {w W W' : World} {n : Nat} {A : Option Addr} {c : Nat} {l : List S39} {v : Value} {out : List Int} (h : Held w n A c l v out W) (hb : Below W.heap.size W W') : Held w n A c l v out W' :=
  ⟨(hb.block _ (blk_lt h.net)).trans h.net, below_then h.below h.below.size hb, Kd.R_below h.row hb⟩

set_option maxRecDepth 100000 in
set_option maxHeartbeats 3200000 in
theorem groups_calls (gq : Nat) (q : S39 → Bool) (hsay : SaysT gq q) (n : Nat) (hn : n ≤ 8) (A : Option Addr) (c : Nat) (l : List S39) (hok : okN n l) (hl : l.length ≤ 1000) (w : World) (hr : Kd.C k39 w A l.length l) :
    Calls Try.prog 52 #[.agg #[.int .i64 n, .slice A l.length c], .func (.func gq) #[] #[]] w fun e w' => ∃ v, e = .returned v ∧ Kd.R (Kd.int .i64) 3 w' w.heap.size (fun _ => True) v (sortI (groupsF q n l)) ∧ Below w.heap.size w w' := by
  have HS := Aside0.mk hsay
  have HR := Aside0.mk hr
  have HO := Aside0.mk hok
  have eg := hsay.enters
  have hg0 := heap_alloc_new w (.cells #[.int .i64 n, .slice A l.length c] 59)
  have hb0 : Below w.heap.size w (w.alloc (.cells #[.int .i64 n, .slice A l.length c] 59)) := below_alloc (Below.refl _ _) _
  have H0 := Aside0.mk (And.intro hg0 hb0)
  obtain ⟨F, hF⟩ : ∃ F, groupsF q n l = F := ⟨_, rfl⟩
  have HF := Aside0.mk hF
  have hp8 := pow8 hn
  have hw : wrap64 (2 ^ n) = ((2 ^ n : Nat) : Int) := by rw [wrap64_two (by omega), pow_cast]
  obtain ⟨N, hN⟩ : ∃ N, 2 ^ n = N := ⟨_, rfl⟩
  have hN1 : 1 ≤ N := by rw [← hN]; exact Nat.two_pow_pos n
  rw [hF]
  rw [hN] at hw hp8
  have HN := Aside0.mk hN
  clear hsay hr hok hg0 hb0 hF hN
  go_enter Try.func52, Try.ntmps52
  go_wp2
  rw [hw]
  clear hw
  have hstart : Aside0 (Held w n A c l (.slice none 0 0) [] (w.alloc (.cells #[.int .i64 n, .slice A l.length c] 59))) := ⟨⟨H0.out.1, H0.out.2, Kd.R_nil _ _ _ _ _⟩⟩
  go_loopg [5, 6, 7, 9, 10] N (fun gg v5 v6 _ _ _ wr => ∃ (f left : Nat) (out : List Int), v6 = .int .i64 left ∧ left < N ∧ f ≤ gg ∧ left ≤ f ∧ out.length + f ≤ 256 ∧ Aside0 (Held w n A c l v5 out wr) ∧ Aside0 (out ++ groupsL q n l f left = F))
  case atStart => exact ⟨N, N - 1, [], by go_num, by omega, by omega, by omega, by simpa using hp8, hstart, ⟨by rw [← HF.out, groupsF, HN.out]; rfl⟩⟩
  case round =>
    clear hstart
    obtain ⟨f, left, out, rfl, hlN, hfg, hlf, hof, HW, HE⟩ := hrel
    obtain ⟨n0, n1, _, _⟩ := cells2 HW.out.net
    by_cases h0 : 0 < left
    · have hz : (0 : Int) < (left : Int) := by omega
      obtain ⟨f, rfl⟩ : ∃ f', f = f' + 1 := ⟨f - 1, by omega⟩
      have hlow := low_ask (x := left) (by omega)
      have hlb : Aside0 (lowB left < 2 ^ n) := ⟨lowB_lt (by rw [HN.out]; exact hlN)⟩
      obtain ⟨x0, hx0⟩ : ∃ x0, lowB left = x0 := ⟨_, rfl⟩
      rw [hx0] at hlow hlb
      have HX0 := Aside0.mk hx0
      clear hx0
      go_wp2
      obtain ⟨wo, rfl⟩ : ∃ wo : World, wo = wr := ⟨_, rfl⟩
      clear n0 n1 hlow
      go_loopg [7, 9, 10, 23] n (fun g2 v7 _ _ v23 wr => ∃ r : Nat, r ≤ n ∧ n - r ≤ g2 ∧ v23 = .int .i64 r ∧ v7 = .int .i64 (spread q l x0 r) ∧ Aside0 (Held w n A c l u5 out wr))
      case atStart => exact ⟨0, Nat.zero_le _, by omega, rfl, rfl, HW⟩
      case round =>
        clear HW
        obtain ⟨r, hrn, hg2, rfl, rfl, HW⟩ := hrel
        obtain ⟨n0, n1, _, _⟩ := cells2 HW.out.net
        by_cases hrlt : r < n
        · have hrz : (r : Int) < (n : Int) := by omega
          go_wp2
          obtain ⟨wo2, rfl⟩ : ∃ wo : World, wo = wr := ⟨_, rfl⟩
          clear n0 n1
          obtain ⟨y, hy⟩ : ∃ y, spread q l x0 r = y := ⟨_, rfl⟩
          have HYY := Aside0.mk hy
          have hyl : Aside0 (y < 2 ^ n) := ⟨by rw [← hy]; exact spread_lt HO.out hlb.out r⟩
          rw [hy]
          clear hy
          go_loopg [7, 9, 10, 28] l.length (fun g3 v7 _ _ v28 wr => ∃ k : Nat, k ≤ l.length ∧ l.length - k ≤ g3 ∧ v28 = .int .i64 k ∧ v7 = .int .i64 (addK q l y k) ∧ Aside0 (Held w n A c l u5 out wr))
          case atStart => exact ⟨0, Nat.zero_le _, by omega, rfl, rfl, HW⟩
          case round =>
            clear HW
            obtain ⟨k, hkl, hg3, rfl, rfl, HW⟩ := hrel
            by_cases hklt : k < l.length
            · have hkz : (k : Int) < (l.length : Int) := by omega
              obtain ⟨ad, rfl, hx0, hx1, hx2⟩ := at_T39 (Kd.C_below HR.out HW.out.below) (k : Int) (by omega) (by omega)
              rw [Int.toNat_natCast] at hx0 hx1 hx2
              have hrd : rd_T39 l (k : Int) = l.getD k z39 := by simp [rd_T39]
              rw [hrd] at hx0 hx1 hx2
              have hts := HO.out _ (getD_mem z39 hklt)
              have hsuc : addK q l y (k + 1) = addT q (l.getD k z39) (addK q l y k) := rfl
              have hxl := addK_lt (q := q) HO.out hyl.out k (by omega)
              generalize hy : l.getD k z39 = t at hx0 hx1 hx2 hts hsuc
              obtain ⟨a, b, f⟩ := t
              dsimp only at hx0 hx1 hx2 hts
              obtain ⟨h1, h2, h3, h4⟩ := hts
              obtain ⟨a, rfl⟩ := Int.eq_ofNat_of_zero_le h1
              obtain ⟨b, rfl⟩ := Int.eq_ofNat_of_zero_le h3
              have hPl : pairB ⟨a, b, f⟩ < 2 ^ n := pairB_lt ⟨h1, h2, h3, h4⟩
              obtain ⟨P, hP⟩ : ∃ P, pairB ⟨a, b, f⟩ = P := ⟨_, rfl⟩
              have hP2 : 2 ^ a ||| 2 ^ b = P := hP
              rw [hP] at hPl
              have HSU : Aside0 (addK q l y (k + 1) = if q ⟨a, b, f⟩ = true ∧ addK q l y k &&& P ≠ 0 then addK q l y k ||| P else addK q l y k) := ⟨by rw [hsuc, addT, hP]⟩
              obtain ⟨x, hx⟩ : ∃ x, addK q l y k = x := ⟨_, rfl⟩
              rw [hx] at hxl HSU ⊢
              have hor0 : bits .or .i64 (2 ^ a) (2 ^ b) = (P : Int) := by rw [pow_cast, pow_cast, or64 (2 ^ a) (2 ^ b) (two_lt (by omega)) (two_lt (by omega)), hP2]
              have hpa : IntKind.i64.wrap ((2 : Int) ^ a) = 2 ^ a := by rw [pow_cast]; exact wrap64_nat _ (Int.natCast_nonneg _) (by exact_mod_cast two_lt (show a < 62 by omega))
              have hpb : IntKind.i64.wrap ((2 : Int) ^ b) = 2 ^ b := by rw [pow_cast]; exact wrap64_nat _ (Int.natCast_nonneg _) (by exact_mod_cast two_lt (show b < 62 by omega))
              have hand : bits .and .i64 (x : Int) (P : Int) = ((x &&& P : Nat) : Int) := and64 x P (lt62 hxl (by omega)) (lt62 hPl (by omega))
              have horx : bits .or .i64 (x : Int) (P : Int) = ((x ||| P : Nat) : Int) := or64 x P (lt62 hxl (by omega)) (lt62 hPl (by omega))
              have HORX := Aside0.mk horx
              have HAND := Aside0.mk hand
              clear hrd hsuc hy hP hP2 hx hxl hPl horx hand h1 h3
              cases hqq : q ⟨a, b, f⟩ with
              | false =>
                have HQ := Aside0.mk hqq
                have HX : Aside0 (x = addK q l y (k + 1)) := ⟨by rw [HSU.out, if_neg (fun h => by rw [hqq] at h; cases h.1)]⟩
                clear hqq
                go_wp2
                go_quiet (fail)
                clear hor0 hpa hpb
                have HW2 := Aside0.mk (held_next HW.out (pw_below_drewN (below_alloc (Below.refl wr.heap.size wr) (.cells #[.int .i64 (a : Int), .int .i64 (b : Int), .bool f] 39)) nq))
                go_wp2_with (go_at_fn gq; go_must (refine (HS.out.call ⟨a, b, f⟩ _).mono ?_; rw [HQ.out]; rintro e w3 ⟨rfl, hb3⟩; have HW3 := Aside0.mk (held_next HW2.out hb3); clear hb3))
                go_roundg (l.length - (k + 1))
                case measure => omega
                case rel => exact ⟨k + 1, by omega, by omega, by go_num, by rw [← HX.out], HW3⟩
              | true =>
                have HQ := Aside0.mk hqq
                by_cases hz : x &&& P = 0
                · have hzz : (bits .and .i64 (x : Int) (P : Int) != 0) = false := by rw [HAND.out, hz]; rfl
                  have HX : Aside0 (x = addK q l y (k + 1)) := ⟨by rw [HSU.out, if_neg (fun h => h.2 hz)]⟩
                  clear hqq hz
                  go_wp2
                  go_quiet (fail)
                  clear hor0 hpa hpb
                  have HW2 := Aside0.mk (held_next HW.out (pw_below_drewN (below_alloc (Below.refl wr.heap.size wr) (.cells #[.int .i64 (a : Int), .int .i64 (b : Int), .bool f] 39)) nq))
                  go_wp2_with (go_at_fn gq; go_must (refine (HS.out.call ⟨a, b, f⟩ _).mono ?_; rw [HQ.out]; rintro e w3 ⟨rfl, hb3⟩; have HW3 := Aside0.mk (held_next HW2.out hb3); clear hb3))
                  go_roundg (l.length - (k + 1))
                  case measure => omega
                  case rel => exact ⟨k + 1, by omega, by omega, by go_num, by rw [← HX.out], HW3⟩
                · have hzz : (bits .and .i64 (x : Int) (P : Int) != 0) = true := by rw [HAND.out, bne_iff_ne]; omega
                  have HX : Aside0 (addK q l y (k + 1) = x ||| P) := ⟨by rw [HSU.out, if_pos ⟨hqq, hz⟩]⟩
                  have horx := HORX.out
                  clear hqq hz
                  go_wp2
                  go_quiet (fail)
                  clear hor0 hpa hpb
                  have HW2 := Aside0.mk (held_next HW.out (pw_below_drewN (below_alloc (Below.refl wr.heap.size wr) (.cells #[.int .i64 (a : Int), .int .i64 (b : Int), .bool f] 39)) nq))
                  go_wp2_with (go_at_fn gq; go_must (refine (HS.out.call ⟨a, b, f⟩ _).mono ?_; rw [HQ.out]; rintro e w3 ⟨rfl, hb3⟩; have HW3 := Aside0.mk (held_next HW2.out hb3); clear hb3))
                  go_roundg (l.length - (k + 1))
                  case measure => omega
                  case rel => exact ⟨k + 1, by omega, by omega, by go_num, by rw [HX.out], HW3⟩
            · have hkz : ¬ (k : Int) < (l.length : Int) := by omega
              have hke : k = l.length := by omega
              have HK : Aside0 (addK q l y k = spread q l x0 (r + 1)) := ⟨by rw [hke, ← HYY.out]; rfl⟩
              rw [HK.out]
              clear hke
              go_wp2
              go_roundg (n - (r + 1))
              case measure => omega
              case rel => exact ⟨r + 1, by omega, by omega, by go_num, rfl, HW⟩
        · have hrz : ¬ (r : Int) < (n : Int) := by omega
          have hre : r = n := by omega
          obtain ⟨A1, c1, hv1, hc1, _⟩ := Kd.R_reads HW.out.row
          subst hv1
          clear hc1
          obtain ⟨x, hx⟩ : ∃ x, spread q l x0 r = x := ⟨_, rfl⟩
          have hxl : x < 2 ^ n := by rw [← hx]; exact spread_lt HO.out hlb.out r
          have hsub : less left x < left := by
            obtain ⟨i, hi1, hi2⟩ := low_bit (x := left) (by omega) (by omega)
            rw [HX0.out] at hi2
            exact less_dec hi1 (by rw [← hx]; exact spread_sup hi2 r)
          have hnot : bits .andNot .i64 (left : Int) (x : Int) = ((less left x : Nat) : Int) := andNot64 left x (by omega) (lt62 hxl (by omega))
          have HG : Aside0 (groupsL q n l (f + 1) left = (x : Int) :: groupsL q n l f (less left x)) := ⟨by rw [groupsL, if_neg (by omega), HX0.out]; rw [hre] at hx; rw [hx]⟩
          rw [hx]
          have hre' : (r : Int) = n := by omega
          clear hx hre hxl
          go_wp2_with (at_builtin; go_must (refine Kd.R_append (Kd.int .i64) (w0 := wr) (w.heap.size + 1) rfl (.tmp 53) (.tmp 55) 28 3 (.int .i64 0) 8 rfl Try.underlying28 info3 rfl (by decide) (by omega) (.slice A1 out.length c1) out (x : Int) [.int .i64 (x : Int)] (fun _ => True) (fun _ => False) rfl rfl rfl (fun _ hk => hk.elim) (fun _ _ => trivial) HW.out.row (Below.refl _ _) (by have := blk_lt HW.out.net; omega) (by omega) ?_; intro v4 w4 ho hbb hg4 hat; have HW4 : Aside0 (Held w n A c l v4 (out ++ [(x : Int)]) w4) := ⟨⟨(hg4.block _ (blk_lt HW.out.net) (fun e => by have := Kd.R_base HW.out.row _ e.symm; omega)).trans HW.out.net, HW.out.below.grown hg4 HW.out.below.size (fun k hk => by have := Kd.R_base HW.out.row k hk; omega), ho⟩⟩; clear ho hbb hg4 hat))
          go_roundg f
          case measure => omega
          case rel => exact ⟨f, less left x, out ++ [(x : Int)], rfl, by omega, Nat.le_refl _, by omega, by rw [List.length_append, List.length_singleton]; omega, HW4, ⟨by rw [← HE.out, HG.out, List.append_assoc]; rfl⟩⟩
    · have hz : ¬ (0 : Int) < (left : Int) := by omega
      have hl0 : left = 0 := by omega
      have HFF : Aside0 (out = F) := ⟨by rw [← HE.out, hl0]; cases f <;> simp [groupsL]⟩
      have hlen : out.length ≤ 1000 := by omega
      clear hl0
      go_wp2_with (go_at_call 78; go_must (refine (sort_any HW.out.row hlen).mono ?_; rintro e w2 ⟨rfl, hr2, hg2⟩; have HR2 := Aside0.mk hr2; have HB2 := Aside0.mk (HW.out.below.grown hg2 HW.out.below.size (fun k hk => by have := Kd.R_base HW.out.row k hk; omega)); clear hr2 hg2))
      go_ret
      exact ⟨_, rfl, by rw [← HFF.out]; exact Kd.R_lower HR2.out (by omega), HB2.out⟩
end Go.Proofs.Ytaegldcifhgnmaa.A

/- Classes and Clans: what they return. -/
namespace Go.Proofs.Ytaegldcifhgnmaa.A
open Go.RowKit Go.Proofs.YtaegldcifhgnmaaW.PrintWords Go.Proofs.YtaegldcifhgnmaaW.PrintMore

def friendB (t : S39) : Bool := !t.f2
def anyT (_ : S39) : Bool := true
theorem enters53 : ∀ args w, (callFunc 53 args).run Try.prog w = .ok (.enter 53 args) w := enters_of Try.func53 (by kernel_rfl) rfl
theorem enters60 : ∀ args w, (callFunc 60 args).run Try.prog w = .ok (.enter 60 args) w := enters_of Try.func60 (by kernel_rfl) rfl
theorem enters55 : ∀ args w, (callFunc 55 args).run Try.prog w = .ok (.enter 55 args) w := enters_of Try.func55 (by kernel_rfl) rfl
set_option maxRecDepth 100000 in
set_option maxHeartbeats 400000 in
theorem friend_calls (t : S39) (W : World) : Calls Try.prog 53 #[.agg #[.int .i64 t.f0, .int .i64 t.f1, .bool t.f2]] W fun e w' => e = .returned (.bool (friendB t)) ∧ Below W.heap.size W w' := by
  have HB := Aside0.mk (below_alloc (Below.refl W.heap.size W) (.cells #[.int .i64 t.f0, .int .i64 t.f1, .bool t.f2] 39))
  unfold friendB
  go_enter Try.func53, Try.ntmps53
  go_wp2
  go_ret
  exact ⟨rfl, HB.out⟩
theorem says_friend : SaysT 53 friendB := ⟨enters53, friend_calls⟩
set_option maxRecDepth 100000 in
set_option maxHeartbeats 400000 in
theorem any_calls (t : S39) (W : World) : Calls Try.prog 60 #[.agg #[.int .i64 t.f0, .int .i64 t.f1, .bool t.f2]] W fun e w' => e = .returned (.bool (anyT t)) ∧ Below W.heap.size W w' := by
  have HB := Aside0.mk (below_alloc (Below.refl W.heap.size W) (.cells #[.int .i64 t.f0, .int .i64 t.f1, .bool t.f2] 39))
  unfold anyT
  go_enter Try.func60, Try.ntmps60
  go_wp2
  go_ret
  exact ⟨rfl, HB.out⟩
theorem says_any : SaysT 60 anyT := ⟨enters60, any_calls⟩

theorem tiesE_ok {m : Nat} {l : List S39} (h : tiesE m l = 0) : okN m l := by
  obtain ⟨hn, hl, ho⟩ := tiesE_parts h
  intro t ht
  obtain ⟨i, hi, rfl⟩ := List.mem_iff_getElem.1 ht
  have := okT_parts (okTies_parts ho hi).1
  rw [List.getD_eq_getElem?_getD, List.getElem?_eq_getElem hi] at this
  simp only [Option.getD_some] at this
  omega

/-! ### Classes -/
def classK (n : Nat) (l : List S39) : Int := (l.length : Int) - n + (groupsF anyT n l).length
def feuds_Classes.f (a0 : Int) (l1 : List S39) : Option (Int × Int) :=
  if tiesE a0 l1 = 0 then (if 0 ≤ classK a0.toNat l1 ∧ classK a0.toNat l1 ≤ 60 then some (((2 ^ (classK a0.toNat l1).toNat : Nat) : Int), 0) else none) else some (0, tiesE a0 l1)

set_option maxRecDepth 100000 in
set_option maxHeartbeats 800000 in
theorem Classes_err (n : Int) (A : Option Addr) (c : Nat) (l : List S39) (w : World) (hr : Kd.C k39 w A l.length l) (E : Int) (h : tiesE n l = E) (h0 : E ≠ 0) :
    Calls Try.prog 32 #[.int .i64 n, .slice A l.length c] w fun e w' => e = .returned (.tuple #[.int .i64 0, .int .i64 E]) ∧ Below w.heap.size w w' := by
  have HR := Aside0.mk hr
  have HE := Aside0.mk h
  have hg := errne h0
  have H0 := Aside0.mk h0
  clear hr h h0
  go_enter Try.func32, Try.ntmps32
  go_wp2_with (go_at_call 46; refine (read_err HR.out HE.out H0.out).mono ?_; rintro e w' ⟨rfl, hb'⟩; have HB := Aside0.mk hb'; clear hb')
  go_ret2
  exact ⟨rfl, below_alloc HB.out _⟩

set_option maxRecDepth 100000 in
set_option maxHeartbeats 800000 in
theorem Classes_good (m : Nat) (A : Option Addr) (c : Nat) (l : List S39) (w : World) (hr : Kd.C k39 w A l.length l) (h : tiesE m l = 0) (k : Nat) (hk : classK m l = k) (hk60 : k ≤ 60) :
    Calls Try.prog 32 #[.int .i64 m, .slice A l.length c] w fun e w' => e = .returned (.tuple #[.int .i64 ((2 ^ k : Nat) : Int), .int .i64 0]) ∧ Below w.heap.size w w' := by
  have hm : m ≤ 8 := by have := (tiesE_parts h).1; omega
  have hl20 : l.length ≤ 20 := (tiesE_parts h).2.1
  have HR := Aside0.mk hr
  have HS := Aside0.mk (tiesE_ok h)
  have HE := Aside0.mk h
  obtain ⟨G, hG⟩ : ∃ G, (sortI (groupsF anyT m l)).length = G := ⟨_, rfl⟩
  have hkk : (l.length : Int) - m + G = k := by rw [← hG, sortI_len]; exact hk
  have HG := Aside0.mk hG
  have hp : wrap64 (2 ^ k) = ((2 ^ k : Nat) : Int) := by rw [wrap64_two (by omega), pow_cast]
  obtain ⟨P, hP⟩ : ∃ P, 2 ^ k = P := ⟨_, rfl⟩
  rw [hP] at hp ⊢
  clear hr h hk hG hP
  go_enter Try.func32, Try.ntmps32
  go_wp2_with (first
    | (go_at_call 46; refine (read_good HR.out HE.out).mono ?_; rintro e w1 ⟨rfl, hb1⟩; have HB1 := Aside0.mk (below_alloc hb1 (.cells #[.int .i64 (m : Int), .slice A l.length c] 59)); clear hb1)
    | (go_at_call 52; go_must (refine (groups_calls 60 anyT says_any m hm A c l HS.out (by omega) _ (Kd.C_below HR.out HB1.out)).mono ?_; rintro e w2 ⟨v2, rfl, hr2, hb2⟩; have HB2 := Aside0.mk (below_then HB1.out HB1.out.size hb2); obtain ⟨A2, c2, hv2, hc2, _⟩ := Kd.R_reads hr2; rw [HG.out] at hv2; subst hv2; clear hr2 hb2 hc2)))
  go_ret2
  rw [hp]
  exact ⟨rfl, HB2.out⟩
theorem feuds_Classes.calls (a0 : Int) (A1 : Option Addr) (c1 : Nat) (l1 : List S39) (r1 : Int) (r2 : Int) (w : World) (hr1 : Kd.C k39 w A1 l1.length l1) (_hc1 : l1.length ≤ c1) (h : feuds_Classes.f a0 l1 = some (r1, r2)) :
    Calls Try.prog 32 #[.int .i64 a0, .slice A1 l1.length c1] w fun e w' => e = .returned (.tuple #[.int .i64 r1, .int .i64 r2]) ∧ Below w.heap.size w w' := by
  unfold feuds_Classes.f at h
  by_cases h0 : tiesE a0 l1 = 0
  · rw [if_pos h0] at h
    have h1 := tiesE_parts h0
    obtain ⟨m, rfl⟩ : ∃ m : Nat, a0 = m := ⟨a0.toNat, by omega⟩
    rw [Int.toNat_natCast] at h
    by_cases hk : 0 ≤ classK m l1 ∧ classK m l1 ≤ 60
    · rw [if_pos hk] at h
      cases h
      exact Classes_good m A1 c1 l1 w hr1 h0 (classK m l1).toNat (by omega) (by omega)
    · rw [if_neg hk] at h; cases h
  · rw [if_neg h0] at h
    cases h
    exact Classes_err a0 A1 c1 l1 w hr1 _ rfl h0

/-! ### Clans -/
def bothB (t : S39) (x : Int) : Bool := x.toNat.testBit t.f0.toNat && x.toNat.testBit t.f1.toNat
def clashB (l : List S39) (G : List Int) (k : Nat) : Bool := (List.range k).any fun i => (l.getD i z39).f2 && G.any (bothB (l.getD i z39))
def clansF (n : Int) (l : List S39) : List Int × Int :=
  if tiesE n l = 0 then (if clashB l (sortI (groupsF friendB n.toNat l)) l.length = true then ([], 10) else (sortI (groupsF friendB n.toNat l), 0)) else ([], tiesE n l)
theorem clashB_succ (l : List S39) (G : List Int) (k : Nat) : clashB l G (k + 1) = (clashB l G k || ((l.getD k z39).f2 && G.any (bothB (l.getD k z39)))) := by
  unfold clashB
  rw [List.range_succ, List.any_append, List.any_cons, List.any_nil, Bool.or_false]

set_option maxRecDepth 100000 in
set_option maxHeartbeats 800000 in
theorem both_pred (a b : Nat) (f : Bool) (ha : a < 60) (hb : b < 60) (G : List Int) (hG : ∀ x ∈ G, 0 ≤ x ∧ x < 4611686018427387904) (g : Nat) (w : World) (hc : w.heap[g]? = some (.cells #[.int .i64 a, .int .i64 b, .bool f] 39 (0, 0))) :
    PredB 55 #[.pointer (some ⟨g, 0, none⟩)] (fun x => .int .i64 x) (bothB ⟨a, b, f⟩) G w := by
  intro W x hx hbl
  obtain ⟨h0, h1⟩ := hG x hx
  obtain ⟨y, rfl⟩ := Int.eq_ofNat_of_zero_le h0
  obtain ⟨c0, c1, _, _, _, _⟩ := cells3 ((hbl.block _ (blk_lt hc)).trans hc)
  have HB := Aside0.mk hbl
  have ea := bit_ask (y := y) (k := a) (by omega) (by omega)
  have eb := bit_ask (y := y) (k := b) (by omega) (by omega)
  have hv : bothB ⟨a, b, f⟩ (y : Int) = (y.testBit a && y.testBit b) := by unfold bothB; dsimp only; rw [Int.toNat_natCast, Int.toNat_natCast, Int.toNat_natCast]
  rw [hv]
  show Calls Try.prog 55 #[.int .i64 y, .pointer (some ⟨g, 0, none⟩)] W fun e w' => e = .returned (.bool (y.testBit a && y.testBit b)) ∧ Below w.heap.size w w'
  clear hbl hc hx hG hv
  cases h1 : y.testBit a with
  | false =>
    rw [h1] at ea
    go_enter Try.func55, Try.ntmps55
    go_wp2
    go_ret
    exact ⟨rfl, HB.out⟩
  | true =>
    rw [h1] at ea
    go_enter Try.func55, Try.ntmps55
    go_wp2
    go_ret
    exact ⟨rfl, HB.out⟩
end Go.Proofs.Ytaegldcifhgnmaa.A

/- Clans: its walk. -/
namespace Go.Proofs.Ytaegldcifhgnmaa.A
open Go.RowKit Go.Proofs.YtaegldcifhgnmaaW.PrintWords Go.Proofs.YtaegldcifhgnmaaW.PrintMore

theorem groupsL_mem {q : S39 → Bool} {n : Nat} {l : List S39} (hl : okN n l) : ∀ (f left : Nat), left < 2 ^ n → ∀ x ∈ groupsL q n l f left, ∃ y : Nat, x = y ∧ y < 2 ^ n
  | 0, _, _, x, hx => by cases hx
  | f + 1, left, h, x, hx => by
    rw [groupsL] at hx
    by_cases h0 : left = 0
    · rw [if_pos h0] at hx; cases hx
    · rw [if_neg h0] at hx
      rcases List.mem_cons.1 hx with rfl | hx
      · exact ⟨_, rfl, spread_lt hl (lowB_lt h) n⟩
      · exact groupsL_mem hl f _ (less_lt h) x hx
theorem groupsF_mem {q : S39 → Bool} {n : Nat} {l : List S39} (hl : okN n l) {x : Int} (hx : x ∈ groupsF q n l) : ∃ y : Nat, x = y ∧ y < 2 ^ n :=
  groupsL_mem hl _ _ (by have := Nat.two_pow_pos n; omega) x hx
theorem sortI_mem {l : List Int} {x : Int} : x ∈ sortI l ↔ x ∈ l := List.mem_mergeSort

set_option maxRecDepth 100000 in
set_option maxHeartbeats 800000 in
theorem Clans_err (n : Int) (A : Option Addr) (c : Nat) (l : List S39) (w : World) (hr : Kd.C k39 w A l.length l) (E : Int) (h : tiesE n l = E) (h0 : E ≠ 0) :
    Calls Try.prog 26 #[.int .i64 n, .slice A l.length c] w (FoundPost ([], E) w) := by
  have HR := Aside0.mk hr
  have HE := Aside0.mk h
  have hg := errne h0
  have H0 := Aside0.mk h0
  clear hr h h0
  go_enter Try.func26, Try.ntmps26
  go_wp2_with (go_at_call 46; refine (read_err HR.out HE.out H0.out).mono ?_; rintro e w' ⟨rfl, hb'⟩; have HB := Aside0.mk hb'; clear hb')
  go_ret2
  exact ⟨_, rfl, Kd.R_nil _ _ _ _ _, below_alloc HB.out _⟩

set_option maxRecDepth 100000 in
set_option maxHeartbeats 1600000 in
theorem Clans_good (m : Nat) (A : Option Addr) (c : Nat) (l : List S39) (w : World) (hr : Kd.C k39 w A l.length l) (h : tiesE m l = 0) (G : List Int) (hG : sortI (groupsF friendB m l) = G) (Z : List Int × Int) (hZ : (if clashB l G l.length = true then ([], 10) else (G, 0)) = Z) :
    Calls Try.prog 26 #[.int .i64 m, .slice A l.length c] w (FoundPost Z w) := by
  have HZ := Aside0.mk hZ
  clear hZ
  have hm : m ≤ 8 := by have := (tiesE_parts h).1; omega
  have hl20 : l.length ≤ 20 := (tiesE_parts h).2.1
  have HR := Aside0.mk hr
  have HS := Aside0.mk (tiesE_ok h)
  have HSM := Aside0.mk (tiesE_small h)
  have HE := Aside0.mk h
  have HG := Aside0.mk hG
  have HM : Aside0 (∀ x ∈ G, 0 ≤ x ∧ x < 4611686018427387904) := ⟨fun x hx => by
    rw [← hG, sortI_mem] at hx
    obtain ⟨y, rfl, hy⟩ := groupsF_mem (tiesE_ok h) hx
    have := pow8 hm
    omega⟩
  clear hr h hG
  go_enter Try.func26, Try.ntmps26
  go_wp2_with (first
    | (go_at_call 46; refine (read_good HR.out HE.out).mono ?_; rintro e w1 ⟨rfl, hb1⟩; have HB1 := Aside0.mk (below_alloc hb1 (.cells #[.int .i64 (m : Int), .slice A l.length c] 59)); clear hb1)
    | (go_at_call 52; go_must (refine (groups_calls 53 friendB says_friend m hm A c l HS.out (by omega) _ (Kd.C_below HR.out HB1.out)).mono ?_; rw [HG.out]; rintro e w2 ⟨v2, rfl, hr2, hb2⟩; obtain ⟨A2, c2, rfl, hc2, _⟩ := Kd.R_reads hr2; have HI0 : Aside0 (Below w.heap.size w w2 ∧ Kd.R (Kd.int .i64) 3 w2 w.heap.size (fun _ => True) (.slice A2 G.length c2) G) := ⟨below_then HB1.out HB1.out.size hb2, Kd.R_lower hr2 HB1.out.size⟩; clear hr2 hb2 hc2)))
  go_loopg [10, 24] l.length (fun gg _ v24 wr => ∃ i : Nat, i ≤ l.length ∧ l.length - i ≤ gg ∧ v24 = .int .i64 i ∧ Aside0 (Below w.heap.size w wr ∧ Kd.R (Kd.int .i64) 3 wr w.heap.size (fun _ => True) (.slice A2 G.length c2) G) ∧ Aside0 (clashB l G i = false))
  case atStart => exact ⟨0, Nat.zero_le _, by omega, rfl, HI0, ⟨rfl⟩⟩
  case round =>
    clear HI0
    obtain ⟨i, hi, hgg, rfl, HI, HC⟩ := hrel
    by_cases hlt : i < l.length
    · have hltz : (i : Int) < (l.length : Int) := by omega
      obtain ⟨ad, rfl, hx0, hx1, hx2⟩ := at_T39 (Kd.C_below HR.out HI.out.1) (i : Int) (by omega) (by omega)
      rw [Int.toNat_natCast] at hx0 hx1 hx2
      have hrd : rd_T39 l (i : Int) = l.getD i z39 := by simp [rd_T39]
      rw [hrd] at hx0 hx1 hx2
      have hts := HSM.out _ (getD_mem z39 hlt)
      have hsu := clashB_succ l G i
      generalize hy : l.getD i z39 = t at hx0 hx1 hx2 hts hsu
      obtain ⟨a, b, f⟩ := t
      dsimp only at hx0 hx1 hx2 hts
      obtain ⟨h1, h2, h3, h4⟩ := hts
      obtain ⟨a, rfl⟩ := Int.eq_ofNat_of_zero_le h1
      obtain ⟨b, rfl⟩ := Int.eq_ofNat_of_zero_le h3
      have HSU := Aside0.mk hsu
      have HY := Aside0.mk hy
      have hb8 : Aside0 (Below wr.heap.size wr (wr.alloc (.cells #[.int .i64 a, .int .i64 b, .bool f] 39))) := ⟨below_alloc (Below.refl _ _) _⟩
      have hc8 : Aside0 ((wr.alloc (.cells #[.int .i64 a, .int .i64 b, .bool f] 39)).heap[wr.heap.size]? = some (.cells #[.int .i64 a, .int .i64 b, .bool f] 39 (0, 0))) := ⟨heap_alloc_new _ _⟩
      clear hrd hy hsu h1 h3
      cases f with
      | false =>
        go_wp2
        go_roundg (l.length - (i + 1))
        case measure => omega
        case rel => exact ⟨i + 1, by omega, by omega, by go_num, ⟨below_then HI.out.1 HI.out.1.size hb8.out, Kd.R_below HI.out.2 hb8.out⟩, ⟨by rw [HSU.out, HC.out]; rfl⟩⟩
      | true =>
        have hrr := Aside0.mk (Kd.R_reads' HI.out.2).2.2
        cases hq : G.any (bothB ⟨a, b, true⟩) with
        | false =>
          have HQ := Aside0.mk hq
          clear hq
          go_wp2_with (go_at_call 54; go_must (refine (ContainsFunc_int 55 #[.pointer (some ⟨wr.heap.size, 0, none⟩)] (bothB ⟨a, b, true⟩) enters55 A2 G.length c2 G _ (Kd.C_below hrr.out hb8.out) (both_pred a b true (by omega) (by omega) G HM.out wr.heap.size _ hc8.out)).mono ?_; rw [HQ.out]; rintro e w3 ⟨rfl, hb3⟩; have HB3 := Aside0.mk (below_then hb8.out hb8.out.size hb3); clear hb3))
          go_roundg (l.length - (i + 1))
          case measure => omega
          case rel => exact ⟨i + 1, by omega, by omega, by go_num, ⟨below_then HI.out.1 HI.out.1.size HB3.out, Kd.R_below HI.out.2 HB3.out⟩, ⟨by rw [HSU.out, HC.out, HQ.out]; rfl⟩⟩
        | true =>
          have HQ := Aside0.mk hq
          have HCL : Aside0 (clashB l G l.length = true) := ⟨by
            unfold clashB
            rw [List.any_eq_true]
            refine ⟨i, List.mem_range.2 hlt, ?_⟩
            rw [HY.out, hq]; rfl⟩
          clear hq
          go_wp2_with (go_at_call 54; go_must (refine (ContainsFunc_int 55 #[.pointer (some ⟨wr.heap.size, 0, none⟩)] (bothB ⟨a, b, true⟩) enters55 A2 G.length c2 G _ (Kd.C_below hrr.out hb8.out) (both_pred a b true (by omega) (by omega) G HM.out wr.heap.size _ hc8.out)).mono ?_; rw [HQ.out]; rintro e w3 ⟨rfl, hb3⟩; have HB3 := Aside0.mk (below_then hb8.out hb8.out.size hb3); clear hb3))
          go_ret2
          rw [← HZ.out, if_pos HCL.out]
          exact ⟨_, rfl, Kd.R_nil _ _ _ _ _, below_then HI.out.1 HI.out.1.size HB3.out⟩
    · have hltz : ¬ (i : Int) < (l.length : Int) := by omega
      have hie : i = l.length := by omega
      have HCL : Aside0 (¬ clashB l G l.length = true) := ⟨by rw [← hie, HC.out]; simp⟩
      clear hie
      go_wp2
      go_ret2
      rw [← HZ.out, if_neg HCL.out]
      exact ⟨_, rfl, HI.out.2, HI.out.1⟩

def feuds_Clans.f (a0 : Int) (l1 : List S39) : Option (List Int × Int) := some (clansF a0 l1)
theorem feuds_Clans.calls (a0 : Int) (A1 : Option Addr) (c1 : Nat) (l1 : List S39) (r1 : List Int) (r2 : Int) (w : World) (hr1 : Kd.C k39 w A1 l1.length l1) (_hc1 : l1.length ≤ c1) (h : feuds_Clans.f a0 l1 = some (r1, r2)) :
    Calls Try.prog 26 #[.int .i64 a0, .slice A1 l1.length c1] w fun e w' => ∃ v0_ : Value, e = .returned (.tuple #[v0_, .int .i64 r2]) ∧ Kd.R (Kd.int .i64) 3 w' w.heap.size (fun _ => True) v0_ r1 ∧ Below w.heap.size w w' := by
  have h := Option.some.inj h
  have : Calls Try.prog 26 #[.int .i64 a0, .slice A1 l1.length c1] w (FoundPost (clansF a0 l1) w) := by
    unfold clansF
    by_cases h0 : tiesE a0 l1 = 0
    · have h1 := tiesE_parts h0
      obtain ⟨m, rfl⟩ : ∃ m : Nat, a0 = m := ⟨a0.toNat, by omega⟩
      rw [if_pos h0, Int.toNat_natCast]
      exact Clans_good m A1 c1 l1 w hr1 h0 _ rfl _ rfl
    · rw [if_neg h0]
      exact Clans_err a0 A1 c1 l1 w hr1 _ rfl h0
  rw [h] at this
  exact this
end Go.Proofs.Ytaegldcifhgnmaa.A

/- What the program returns for three drovers, all at feud. -/
namespace Go.Proofs.Ytaegldcifhgnmaa.A
open Go.RowKit Go.Proofs.YtaegldcifhgnmaaW.PrintWords Go.Proofs.YtaegldcifhgnmaaW.PrintMore

def threeL : List S39 := [⟨0, 1, true⟩, ⟨0, 2, true⟩, ⟨1, 2, true⟩]
def twoL : List S39 := [⟨0, 1, false⟩, ⟨0, 2, true⟩]
theorem three_Sides : feuds_Sides.f 3 threeL = some (0, 10) := by decide +kernel
theorem three_Ring : feuds_Ring.f 3 threeL = some ([0, 1, 2], 0) := by decide +kernel
theorem three_Least : feuds_Least.f 3 threeL = some (1, [2], 0) := by decide +kernel
theorem three_groups : groupsF friendB 3 threeL = [1, 2, 4] := by decide +kernel
theorem sort_124 : sortI [1, 2, 4] = [1, 2, 4] := by
  unfold sortI
  refine List.mergeSort_of_pairwise ?_
  simp
theorem three_Clans : feuds_Clans.f 3 threeL = some ([1, 2, 4], 0) := by
  have h0 : tiesE 3 threeL = 0 := by decide +kernel
  have h1 : clashB threeL [1, 2, 4] threeL.length = false := by decide +kernel
  unfold feuds_Clans.f clansF
  rw [if_pos h0, show (3 : Int).toNat = 3 from rfl, three_groups, sort_124, h1]
  rfl
theorem three_Classes : feuds_Classes.f 3 threeL = some (2, 0) := by decide +kernel
theorem two_Sides : feuds_Sides.f 3 twoL = some (3, 0) := by decide +kernel
end Go.Proofs.Ytaegldcifhgnmaa.A

/- alive: what every right program knows of three drovers. -/
namespace Go.Proofs.Ytaegldcifhgnmaa.B
open Go.Proofs.Ytaegldcifhgnmaa.A
open Go.RowKit Go.Proofs.YtaegldcifhgnmaaW.PrintWords Go.Proofs.YtaegldcifhgnmaaW.PrintMore

theorem same_calls {A : Option Addr} {c : Nat} {l : List Int} {A2 : Option Addr} {c2 : Nat} {l2 : List Int} {w : World} (hr : Kd.C (Kd.int .i64) w A l.length l) (hc : l.length ≤ c) (hr2 : Kd.C (Kd.int .i64) w A2 l2.length l2) (hc2 : l2.length ≤ c2) {r : Bool} (h : drovewaylaw09_same.f 10 l l2 = some r) :
    Calls Try.prog 22 #[.slice A l.length c, .slice A2 l2.length c2] w fun e w' => e = .returned (.bool r) ∧ Below w.heap.size w w' :=
  (drovewaylaw09_same.calls 10 A c l A2 c2 l2 r w hr hc hr2 hc2 h).mono fun _ _ ⟨a, b⟩ => ⟨a, b.below⟩

theorem three_calls (w : World) : Calls Try.prog 45 #[] w fun e w' => ∃ A c, e = .returned (.slice A 3 c) ∧ 3 ≤ c ∧ Kd.C k39 w' A 3 threeL ∧ Below w.heap.size w w' :=
  (drovewaylaw09_three.calls threeL w rfl).mono fun _ _ ⟨v, h1, h2, h3⟩ => by
    obtain ⟨A, c, rfl, hc, hC⟩ := Kd.R_reads h2
    exact ⟨A, c, h1, hc, hC, h3⟩

def drovewaylaw09_alive.f : Option Bool := some true
theorem two_reads (W : World) : Kd.C k39 (W.alloc (.cells #[.int .i64 0, .int .i64 1, .bool false, .int .i64 0, .int .i64 2, .bool true] 39)) (some ⟨W.heap.size, 0, none⟩) 2 twoL := by
  refine ⟨rfl, by decide, fun _ => ⟨_, rfl, fun j p hj => ?_⟩⟩
  have hb := heap_alloc_new W (.cells #[.int .i64 0, .int .i64 1, .bool false, .int .i64 0, .int .i64 2, .bool true] 39)
  refine ⟨_, rfl, k39_mk _ p, fun i u hu => ?_⟩
  rw [add_plain, blk_cell hb]
  match j, hj, i, hu with
  | 0, hj, 0, hu => cases hj; exact hu
  | 0, hj, 1, hu => cases hj; exact hu
  | 0, hj, 2, hu => cases hj; exact hu
  | 1, hj, 0, hu => cases hj; exact hu
  | 1, hj, 1, hu => cases hj; exact hu
  | 1, hj, 2, hu => cases hj; exact hu

theorem lit_reads (W : World) (l : List Int) (hl : l.length ≤ 1000) : Kd.C (Kd.int .i64) (W.alloc (.cells (l.map fun x => Value.int .i64 x).toArray 3)) (some ⟨W.heap.size, 0, none⟩) l.length l := by
  have hb := heap_alloc_new W (.cells (l.map fun x => Value.int .i64 x).toArray 3)
  refine ⟨rfl, by omega, fun _ => ⟨_, rfl, fun j p hj => ⟨[.int .i64 p], rfl, rfl, fun i u hu => ?_⟩⟩⟩
  rw [add_plain, blk_cell hb]
  match i, hu with
  | 0, hu =>
    cases hu
    show (l.map fun x => Value.int .i64 x).toArray[j * 1 + 0]? = _
    rw [Nat.mul_one, Nat.add_zero, List.getElem?_toArray, List.getElem?_map, hj]; rfl

set_option maxRecDepth 100000 in
set_option maxHeartbeats 3200000 in
theorem alive_calls (w : World) : Calls Try.prog 17 #[] w fun e w' => e = .returned (.bool true) ∧ Below w.heap.size w w' := by
  have HB := Aside0.mk (Below.refl w.heap.size w)
  go_enter Try.func17, Try.ntmps17
  go_wp2_with fail
  refine (three_calls _).mono ?_
  rintro e w1a ⟨A1, c1, rfl, hc1, hC1, hb⟩
  have HC1 := Aside0.mk hC1; have Hc1 := Aside0.mk hc1; have HB1 := Aside0.mk (below_then HB.out HB.out.size hb); clear hC1 hc1 hb
  go_wp2_with fail
  refine (feuds_Sides.calls 3 A1 c1 threeL 0 10 _ HC1.out Hc1.out three_Sides).mono ?_
  rintro e w1b ⟨rfl, hb⟩; have HB2 := Aside0.mk (below_then HB1.out HB1.out.size hb); clear hb HC1 Hc1
  go_wp2_with fail
  refine (three_calls _).mono ?_
  rintro e w2a ⟨A2, c2, rfl, hc2, hC2, hb⟩
  have HC2 := Aside0.mk hC2; have Hc2 := Aside0.mk hc2; have HB3 := Aside0.mk (below_then HB2.out HB2.out.size hb); clear hC2 hc2 hb
  go_wp2_with fail
  refine (feuds_Ring.calls 3 A2 c2 threeL [0, 1, 2] 0 _ HC2.out Hc2.out three_Ring).mono ?_
  rintro e w2b ⟨v, rfl, hr, hb⟩; obtain ⟨AR, cR, rfl, hcR, hRR⟩ := Kd.R_reads hr; have HcR := Aside0.mk hcR; have HRR := Aside0.mk hRR; have HB4 := Aside0.mk (below_then HB3.out HB3.out.size hb); clear hb HC2 Hc2 hr hcR hRR
  go_wp2_with fail
  refine (three_calls _).mono ?_
  rintro e w3a ⟨A3, c3, rfl, hc3, hC3, hb⟩
  have HC3 := Aside0.mk hC3; have Hc3 := Aside0.mk hc3; have HB5 := Aside0.mk (below_then HB4.out HB4.out.size hb); have HRR' := Aside0.mk (Kd.C_below HRR.out hb); clear HRR; have HRR := HRR'; clear HRR'; clear hC3 hc3 hb
  go_wp2_with fail
  refine (feuds_Least.calls 3 A3 c3 threeL 1 [2] 0 _ HC3.out Hc3.out three_Least).mono ?_
  rintro e w3b ⟨v, rfl, hr, hb⟩; obtain ⟨AL, cL, rfl, hcL, hLL⟩ := Kd.R_reads hr; have HcL := Aside0.mk hcL; have HLL := Aside0.mk hLL; have HB6 := Aside0.mk (below_then HB5.out HB5.out.size hb); have HRR' := Aside0.mk (Kd.C_below HRR.out hb); clear HRR; have HRR := HRR'; clear HRR'; clear hb HC3 Hc3 hr hcL hLL
  go_wp2_with fail
  refine (three_calls _).mono ?_
  rintro e w4a ⟨A4, c4, rfl, hc4, hC4, hb⟩
  have HC4 := Aside0.mk hC4; have Hc4 := Aside0.mk hc4; have HB7 := Aside0.mk (below_then HB6.out HB6.out.size hb); have HRR' := Aside0.mk (Kd.C_below HRR.out hb); clear HRR; have HRR := HRR'; clear HRR'; have HLL' := Aside0.mk (Kd.C_below HLL.out hb); clear HLL; have HLL := HLL'; clear HLL'; clear hC4 hc4 hb
  go_wp2_with fail
  refine (feuds_Clans.calls 3 A4 c4 threeL [1, 2, 4] 0 _ HC4.out Hc4.out three_Clans).mono ?_
  rintro e w4b ⟨v, rfl, hr, hb⟩; obtain ⟨AC, cC, rfl, hcC, hCC⟩ := Kd.R_reads hr; have HcC := Aside0.mk hcC; have HCC := Aside0.mk hCC; have HB8 := Aside0.mk (below_then HB7.out HB7.out.size hb); have HRR' := Aside0.mk (Kd.C_below HRR.out hb); clear HRR; have HRR := HRR'; clear HRR'; have HLL' := Aside0.mk (Kd.C_below HLL.out hb); clear HLL; have HLL := HLL'; clear HLL'; clear hb HC4 Hc4 hr hcC hCC
  go_wp2_with fail
  refine (three_calls _).mono ?_
  rintro e w5a ⟨A5, c5, rfl, hc5, hC5, hb⟩
  have HC5 := Aside0.mk hC5; have Hc5 := Aside0.mk hc5; have HB9 := Aside0.mk (below_then HB8.out HB8.out.size hb); have HRR' := Aside0.mk (Kd.C_below HRR.out hb); clear HRR; have HRR := HRR'; clear HRR'; have HLL' := Aside0.mk (Kd.C_below HLL.out hb); clear HLL; have HLL := HLL'; clear HLL'; have HCC' := Aside0.mk (Kd.C_below HCC.out hb); clear HCC; have HCC := HCC'; clear HCC'; clear hC5 hc5 hb
  go_wp2_with fail
  refine (feuds_Classes.calls 3 A5 c5 threeL 2 0 _ HC5.out Hc5.out three_Classes).mono ?_
  rintro e w5b ⟨rfl, hb⟩; have HB10 := Aside0.mk (below_then HB9.out HB9.out.size hb); have HRR' := Aside0.mk (Kd.C_below HRR.out hb); clear HRR; have HRR := HRR'; clear HRR'; have HLL' := Aside0.mk (Kd.C_below HLL.out hb); clear HLL; have HLL := HLL'; clear HLL'; have HCC' := Aside0.mk (Kd.C_below HCC.out hb); clear HCC; have HCC := HCC'; clear HCC'; clear hb HC5 Hc5
  go_wp2_with fail
  refine (feuds_Sides.calls 3 _ 2 twoL 3 0 _ (two_reads w5b) (Nat.le_refl 2) two_Sides).mono ?_
  rintro e w6b ⟨rfl, hb0⟩; have hb := below_then (below_alloc (Below.refl w5b.heap.size w5b) (.cells #[.int .i64 0, .int .i64 1, .bool false, .int .i64 0, .int .i64 2, .bool true] 39)) (below_alloc (Below.refl w5b.heap.size w5b) (.cells #[.int .i64 0, .int .i64 1, .bool false, .int .i64 0, .int .i64 2, .bool true] 39)).size hb0; have HB11 := Aside0.mk (below_then HB10.out HB10.out.size hb); have HRR' := Aside0.mk (Kd.C_below HRR.out hb); clear HRR; have HRR := HRR'; clear HRR'; have HLL' := Aside0.mk (Kd.C_below HLL.out hb); clear HLL; have HLL := HLL'; clear HLL'; have HCC' := Aside0.mk (Kd.C_below HCC.out hb); clear HCC; have HCC := HCC'; clear HCC'; clear hb hb0
  go_wp2_with fail
  have hlit := lit_reads w6b [0, 1, 2] (by decide)
  refine (same_calls (l := [0, 1, 2]) (l2 := [0, 1, 2]) (Kd.C_below HRR.out (below_alloc (Below.refl _ _) _)) HcR.out hlit (Nat.le_refl _) (r := true) (by kernel_rfl)).mono ?_
  rintro e w7b ⟨rfl, hb0⟩; have hb := below_then (below_alloc (Below.refl w6b.heap.size w6b) (.cells #[.int .i64 0, .int .i64 1, .int .i64 2] 3)) (below_alloc (Below.refl w6b.heap.size w6b) (.cells #[.int .i64 0, .int .i64 1, .int .i64 2] 3)).size hb0; have HB12 := Aside0.mk (below_then HB11.out HB11.out.size hb); have HRR' := Aside0.mk (Kd.C_below HRR.out hb); clear HRR; have HRR := HRR'; clear HRR'; have HLL' := Aside0.mk (Kd.C_below HLL.out hb); clear HLL; have HLL := HLL'; clear HLL'; have HCC' := Aside0.mk (Kd.C_below HCC.out hb); clear HCC; have HCC := HCC'; clear HCC'; clear hb hb0 hlit
  go_wp2_with fail
  have hlit := lit_reads w7b [2] (by decide)
  refine (same_calls (l := [2]) (l2 := [2]) (Kd.C_below HLL.out (below_alloc (Below.refl _ _) _)) HcL.out hlit (Nat.le_refl _) (r := true) (by kernel_rfl)).mono ?_
  rintro e w8b ⟨rfl, hb0⟩; have hb := below_then (below_alloc (Below.refl w7b.heap.size w7b) (.cells #[.int .i64 2] 3)) (below_alloc (Below.refl w7b.heap.size w7b) (.cells #[.int .i64 2] 3)).size hb0; have HB13 := Aside0.mk (below_then HB12.out HB12.out.size hb); have HLL' := Aside0.mk (Kd.C_below HLL.out hb); clear HLL; have HLL := HLL'; clear HLL'; have HCC' := Aside0.mk (Kd.C_below HCC.out hb); clear HCC; have HCC := HCC'; clear HCC'; clear hb hb0 hlit
  go_wp2_with fail
  have hlit := lit_reads w8b [1, 2, 4] (by decide)
  refine (same_calls (l := [1, 2, 4]) (l2 := [1, 2, 4]) (Kd.C_below HCC.out (below_alloc (Below.refl _ _) _)) HcC.out hlit (Nat.le_refl _) (r := true) (by kernel_rfl)).mono ?_
  rintro e w9b ⟨rfl, hb0⟩; have hb := below_then (below_alloc (Below.refl w8b.heap.size w8b) (.cells #[.int .i64 1, .int .i64 2, .int .i64 4] 3)) (below_alloc (Below.refl w8b.heap.size w8b) (.cells #[.int .i64 1, .int .i64 2, .int .i64 4] 3)).size hb0; have HB14 := Aside0.mk (below_then HB13.out HB13.out.size hb); have HLL' := Aside0.mk (Kd.C_below HLL.out hb); clear HLL; have HLL := HLL'; clear HLL'; have HCC' := Aside0.mk (Kd.C_below HCC.out hb); clear HCC; have HCC := HCC'; clear HCC'; clear hb hb0 hlit
  go_wp2_with fail
  go_ret
  exact ⟨rfl, HB14.out⟩
theorem drovewaylaw09_alive.calls (r : Bool) (w : World) (h : drovewaylaw09_alive.f = some r) : Calls Try.prog 17 #[] w fun e w' => e = .returned (.bool r) ∧ Below w.heap.size w w' := by
  cases h
  exact alive_calls w
end Go.Proofs.Ytaegldcifhgnmaa.B

/- What the law package's own small functions and the reference's Ties compute (plain). -/
namespace Go.Proofs.Ytaegldcifhgnmaa.B
open Go.Proofs.Ytaegldcifhgnmaa.A
open Go.RowKit Go.Proofs.YtaegldcifhgnmaaW.PrintWords Go.Proofs.YtaegldcifhgnmaaW.PrintMore

theorem few_eq (l : List S39) (r : List Int) : drovewaylaw09_few.f l r = some (decide (l.length ≤ 60 ∧ r.length ≤ 60)) := by
  unfold drovewaylaw09_few.f
  by_cases h1 : (l.length : Int) ≤ 60
  · rw [if_pos h1]
    congr 1
    rw [decide_eq_decide]
    omega
  · rw [if_neg h1]
    congr 1
    symm
    rw [decide_eq_false_iff_not]
    omega
theorem wrapS {i n : Nat} (h : i < n) (hn : n ≤ 140737488351232) : wrap64 ((i : Int) + 1) = ((i + 1 : Nat) : Int) := by rw [wrap64_id] <;> omega

/-! ### same -/
theorem same_l0 (l : List Int) (hl : l.length ≤ 140737488351232) : ∀ n i, l.length - i = n → i ≤ l.length → Ev (fun k => drovewaylaw09_same.l0 k l l (i : Int)) true := by
  intro n
  induction n with
  | zero =>
    intro i hn hi
    refine Ev.step (f := fun _ => some true) (fun k => ?_) (Ev.now _)
    rw [drovewaylaw09_same.l0, if_neg (by omega)]
  | succ n ih =>
    intro i hn hi
    refine Ev.step (fun k => ?_) (ih (i + 1) (by omega) (by omega))
    rw [drovewaylaw09_same.l0, if_pos (by omega), if_pos (by omega), if_pos (by omega), if_pos rfl, wrapS (show i < l.length by omega) hl]
theorem same_ev {l l' : List Int} (hl : l.length ≤ 140737488351232) (h : l = l') : Ev (fun k => drovewaylaw09_same.f k l l') true := by
  subst h
  refine Ev.congr (fun k => ?_) (same_l0 l hl _ 0 rfl (Nat.zero_le _))
  unfold drovewaylaw09_same.f
  rw [if_pos rfl]
  rfl

/-! ### Ties -/
theorem rdT (l : List S39) (i : Nat) : rd_T39 l (i : Int) = l.getD i z39 := by simp [rd_T39]

section
variable {n : Int} {l : List S39}
theorem ties_l1_ok (hl : l.length ≤ 1000) {i : Nat} (hi : i < l.length) {r : Int} (h : Ev (fun k => drovewayref09_Ties.l0 k n l ((i + 1 : Nat) : Int)) r) (hp : ∀ j, j < i → pairT (l.getD j z39) ≠ pairT (l.getD i z39)) : ∀ m j, i - j = m → j ≤ i → Ev (fun k => drovewayref09_Ties.l1 k n l (i : Int) (j : Int)) r := by
  intro m
  induction m with
  | zero =>
    intro j hm hj
    refine Ev.step (fun k => ?_) h
    rw [drovewayref09_Ties.l1, if_neg (by omega), wrapS hi (by omega)]
  | succ m ih =>
    intro j hm hj
    refine Ev.step (fun k => ?_) (ih (j + 1) (by omega) (by omega))
    have hne := hp j (by omega)
    rw [drovewayref09_Ties.l1, if_pos (by omega), if_pos (by omega), if_pos (by omega), if_pos (by omega), if_pos (by omega), rdT, rdT, wrapS (show j < l.length by omega) (by omega)]
    by_cases h0 : (l.getD j z39).f0 = (l.getD i z39).f0
    · rw [if_pos h0, if_neg (fun h1 => hne (by unfold pairT; rw [h0, h1]))]
    · rw [if_neg h0]
theorem ties_l1_bad (hl : l.length ≤ 1000) {i q : Nat} (hi : i < l.length) (hq : q < i) (he : pairT (l.getD q z39) = pairT (l.getD i z39)) : ∀ m j, q - j = m → j ≤ q → Ev (fun k => drovewayref09_Ties.l1 k n l (i : Int) (j : Int)) 2 := by
  intro m
  induction m with
  | zero =>
    intro j hm hj
    obtain rfl : j = q := by omega
    unfold pairT at he
    rw [Prod.mk.injEq] at he
    refine Ev.step (f := fun _ => some 2) (fun k => ?_) (Ev.now _)
    rw [drovewayref09_Ties.l1, if_pos (by omega), if_pos (by omega), if_pos (by omega), if_pos (by omega), if_pos (by omega), rdT, rdT, if_pos he.1, if_pos he.2]
  | succ m ih =>
    intro j hm hj
    have h2 := ih (j + 1) (by omega) (by omega)
    by_cases h : pairT (l.getD j z39) = pairT (l.getD i z39)
    · unfold pairT at h
      rw [Prod.mk.injEq] at h
      refine Ev.step (f := fun _ => some 2) (fun k => ?_) (Ev.now _)
      rw [drovewayref09_Ties.l1, if_pos (by omega), if_pos (by omega), if_pos (by omega), if_pos (by omega), if_pos (by omega), rdT, rdT, if_pos h.1, if_pos h.2]
    · refine Ev.step (fun k => ?_) h2
      rw [drovewayref09_Ties.l1, if_pos (by omega), if_pos (by omega), if_pos (by omega), if_pos (by omega), if_pos (by omega), rdT, rdT, wrapS (show j < l.length by omega) (by omega)]
      by_cases h0 : (l.getD j z39).f0 = (l.getD i z39).f0
      · rw [if_pos h0, if_neg (fun h1 => h (by unfold pairT; rw [h0, h1]))]
      · rw [if_neg h0]
theorem ties_l0_in {i : Nat} (hi : i < l.length) (k : Nat) : drovewayref09_Ties.l0 (k + 1) n l (i : Int) = drovewayref09_Ties.j2 k n l (i : Int) (!okT n (l.getD i z39)) := by
  rw [drovewayref09_Ties.l0, if_pos (by omega), if_pos (by omega), rdT]
  unfold okT
  by_cases h0 : (l.getD i z39).f0 < 0
  · rw [if_pos h0]
    congr 1
    rw [decide_eq_false (by omega)]; rfl
  · rw [if_neg h0]
    by_cases h1 : (l.getD i z39).f0 ≥ (l.getD i z39).f1
    · rw [if_pos h1]
      congr 1
      rw [decide_eq_false (p := (l.getD i z39).f0 < (l.getD i z39).f1) (by omega), Bool.and_false]; rfl
    · rw [if_neg h1]
      congr 1
      rw [decide_eq_true (p := 0 ≤ (l.getD i z39).f0) (by omega), decide_eq_true (p := (l.getD i z39).f0 < (l.getD i z39).f1) (by omega), Bool.true_and, Bool.true_and, ← decide_not, decide_eq_decide]
      omega
theorem ties_step (hl : l.length ≤ 1000) {i : Nat} (hi : i < l.length) (hok : okAt n l i = true) {r : Int} (h : Ev (fun k => drovewayref09_Ties.l0 k n l ((i + 1 : Nat) : Int)) r) : Ev (fun k => drovewayref09_Ties.l0 k n l (i : Int)) r := by
  refine Ev.step (f := fun k => drovewayref09_Ties.j2 k n l (i : Int) (!okT n (l.getD i z39))) (fun k => ties_l0_in hi k) ?_
  unfold okAt at hok
  rw [Bool.and_eq_true] at hok
  rw [hok.1]
  have hp : ∀ j, j < i → pairT (l.getD j z39) ≠ pairT (l.getD i z39) := by
    intro j hj e
    have h2 := hok.2
    rw [Bool.not_eq_true', List.contains_eq_mem, decide_eq_false_iff_not] at h2
    apply h2
    rw [← e]
    refine List.mem_map.2 ⟨l.getD j z39, ?_, rfl⟩
    rw [List.mem_iff_getElem]
    exact ⟨j, by rw [List.length_take]; omega, by rw [List.getElem_take, List.getD_eq_getElem?_getD, List.getElem?_eq_getElem (by omega)]; rfl⟩
  refine Ev.step (fun k => ?_) (ties_l1_ok hl hi h hp i 0 (by omega) (Nat.zero_le _))
  rw [drovewayref09_Ties.j2]
  rfl
theorem ties_stop (hl : l.length ≤ 1000) {i : Nat} (hi : i < l.length) (hok : okAt n l i = false) : Ev (fun k => drovewayref09_Ties.l0 k n l (i : Int)) 2 := by
  refine Ev.step (f := fun k => drovewayref09_Ties.j2 k n l (i : Int) (!okT n (l.getD i z39))) (fun k => ties_l0_in hi k) ?_
  unfold okAt at hok
  cases ho : okT n (l.getD i z39) with
  | false =>
    exact Ev.step (f := fun _ => some 2) (fun k => by rw [drovewayref09_Ties.j2]; rfl) (Ev.now _)
  | true =>
    rw [ho, Bool.true_and, Bool.not_eq_false', List.contains_eq_mem, decide_eq_true_iff] at hok
    obtain ⟨t, ht, e⟩ := List.mem_map.1 hok
    obtain ⟨q, hq, rfl⟩ := List.mem_iff_getElem.1 ht
    rw [List.length_take] at hq
    rw [List.getElem_take] at e
    have e2 : pairT (l.getD q z39) = pairT (l.getD i z39) := by rw [← e, List.getD_eq_getElem?_getD, List.getElem?_eq_getElem (by omega)]; rfl
    refine Ev.step (fun k => ?_) (ties_l1_bad (n := n) hl hi (show q < i by omega) e2 q 0 (by omega) (Nat.zero_le _))
    rw [drovewayref09_Ties.j2]
    rfl
theorem ties_l0 (hl : l.length ≤ 1000) : ∀ m i, l.length - i = m → i ≤ l.length → (∀ j, j < i → okAt n l j = true) → Ev (fun k => drovewayref09_Ties.l0 k n l (i : Int)) (if okTies n l = true then 0 else 2) := by
  intro m
  induction m with
  | zero =>
    intro i hm hi hall
    refine Ev.step (f := fun _ => some 0) (fun k => ?_) ?_
    · rw [drovewayref09_Ties.l0, if_neg (by omega)]
    · rw [if_pos (okTies_yes fun j hj => hall j (by omega))]
      exact Ev.now _
  | succ m ih =>
    intro i hm hi hall
    cases hok : okAt n l i with
    | true =>
      refine ties_step hl (by omega) hok (ih (i + 1) (by omega) (by omega) fun j hj => ?_)
      by_cases e : j = i
      · rw [e]; exact hok
      · exact hall j (by omega)
    | false =>
      have := okTies_no (show i < l.length by omega) hok
      rw [this]
      exact ties_stop hl (by omega) hok
theorem Ties_ev (hl : l.length ≤ 1000) : Ev (fun k => drovewayref09_Ties.f k n l) (tiesE n l) := by
  have h0 := ties_l0 (n := n) hl l.length 0 (by omega) (Nat.zero_le _) (fun j hj => absurd hj (Nat.not_lt_zero _))
  unfold tiesE
  by_cases h1 : n < 1 ∨ 8 < n
  · rw [if_pos h1]
    refine Ev.congr (g := fun k => drovewayref09_Ties.f k n l) (f := fun k => drovewayref09_Ties.j0 k n l true) (fun k => ?_) (Ev.step (f := fun _ => some 2) (fun k => by rw [drovewayref09_Ties.j0]; rfl) (Ev.now _))
    unfold drovewayref09_Ties.f
    by_cases h2 : n < 1
    · rw [if_pos h2]
    · rw [if_neg h2, decide_eq_true (by omega)]
  · rw [if_neg h1]
    refine Ev.congr (g := fun k => drovewayref09_Ties.f k n l) (f := fun k => drovewayref09_Ties.j0 k n l false) (fun k => ?_) ?_
    · unfold drovewayref09_Ties.f
      rw [if_neg (by omega), decide_eq_false (by omega)]
    · by_cases h2 : 20 < l.length
      · rw [if_pos h2]
        refine Ev.step (f := fun _ => some 3) (fun k => ?_) (Ev.now _)
        rw [drovewayref09_Ties.j0, if_neg (by decide), if_pos (by omega)]
      · rw [if_neg h2]
        refine Ev.step (fun k => ?_) h0
        rw [drovewayref09_Ties.j0, if_neg (by decide), if_neg (by omega)]
        rfl
end
end Go.Proofs.Ytaegldcifhgnmaa.B

/- Shifts of bits, plain. -/
namespace Go.Proofs.Ytaegldcifhgnmaa.B
open Go.Proofs.Ytaegldcifhgnmaa.A
open Go.RowKit Go.Proofs.YtaegldcifhgnmaaW.PrintWords Go.Proofs.YtaegldcifhgnmaaW.PrintMore

theorem shr_mod (y k : Nat) (hk : k ≤ 60) : Int.tmod (shr .i64 (y : Int) (k : Int)) 2 = if y.testBit k = true then 1 else 0 := by
  rw [shr_nat y k hk, Nat.testBit_eq_decide_div_mod_eq]
  have h : Int.tmod ((y / 2 ^ k : Nat) : Int) 2 = ((y / 2 ^ k % 2 : Nat) : Int) := by
    rw [Int.tmod_eq_emod_of_nonneg (Int.natCast_nonneg _)]; rfl
  rw [h]
  by_cases q : y / 2 ^ k % 2 = 1
  · rw [if_pos (by simpa using q), q]; rfl
  · rw [if_neg (by simpa using q)]
    have : y / 2 ^ k % 2 = 0 := by omega
    rw [this]; rfl
theorem shl_one {m : Nat} (h : m ≤ 60) : shl .i64 1 (m : Int) = ((2 ^ m : Nat) : Int) := by
  unfold shl
  have : min ((m : Int)).toNat IntKind.i64.bits = m := by
    have : IntKind.i64.bits = 64 := rfl
    omega
  rw [this, Int.one_mul, pow_cast]
  exact wrap64_nat _ (Int.natCast_nonneg _) (by exact_mod_cast two_lt (show m < 62 by omega))
end Go.Proofs.Ytaegldcifhgnmaa.B

/- What the reference's isRing computes (plain). -/
namespace Go.Proofs.Ytaegldcifhgnmaa.B
open Go.Proofs.Ytaegldcifhgnmaa.A
open Go.RowKit Go.Proofs.YtaegldcifhgnmaaW.PrintWords Go.Proofs.YtaegldcifhgnmaaW.PrintMore

theorem rdJ (r : List Int) (i : Nat) : rd r (i : Int) = r.getD i 0 := by simp [rd]
theorem rdB (l : List S39) (i : Int) : rd_T39 l i = tieA l i := rfl
theorem other_eq {t : S39} (h0 : 0 ≤ t.f0) (h1 : 0 ≤ t.f1) (v : Nat) : drovewayref09_other.f t.f0 t.f1 t.f2 (v : Int) = some (match otherN t v with | some x => (x : Int) | none => -1) := by
  unfold drovewayref09_other.f otherN
  by_cases h : t.f0 = (v : Int)
  · rw [if_pos h, if_pos h]
    congr 1
    show t.f1 = ((t.f1.toNat : Nat) : Int)
    omega
  · rw [if_neg h, if_neg h]
    by_cases h' : t.f1 = (v : Int)
    · rw [if_pos h', if_pos h']
      congr 1
      show t.f0 = ((t.f0.toNat : Nat) : Int)
      omega
    · rw [if_neg h', if_neg h']
theorem or_add {a c : Nat} (ha : a < 2 ^ 62) (hc : c < 62) (h : a.testBit c = false) : a + 2 ^ c = a ||| 2 ^ c := by
  have h1 : a &&& 2 ^ c = 0 := by
    apply Nat.eq_of_testBit_eq
    intro i
    rw [Nat.testBit_and, tb_two, Nat.zero_testBit]
    by_cases e : i = c
    · subst e; rw [h, Bool.false_and]
    · rw [beq_eq_false_iff_ne.mpr e, Bool.and_false]
  have hp := two_lt hc
  have hb := BitVec.add_eq_or_of_and_eq_zero (BitVec.ofNat 64 a) (BitVec.ofNat 64 (2 ^ c)) (by
    apply BitVec.eq_of_toNat_eq
    rw [BitVec.toNat_and, BitVec.toNat_ofNat, BitVec.toNat_ofNat, Nat.mod_eq_of_lt (by omega), Nat.mod_eq_of_lt (by omega), h1]; rfl)
  have hn := congrArg BitVec.toNat hb
  rw [BitVec.toNat_add, BitVec.toNat_or, BitVec.toNat_ofNat, BitVec.toNat_ofNat, Nat.mod_eq_of_lt (show a < 2 ^ 64 by omega), Nat.mod_eq_of_lt (show 2 ^ c < 2 ^ 64 by omega), Nat.mod_eq_of_lt (by omega)] at hn
  exact hn
section
variable {n : Int} {l : List S39} {r : List Int}
theorem walked_l0 (hg : goodT l) (hr : r.length ≤ 1000) (hin : ∀ k, k < r.length → inR l (r.getD k 0)) (fr : Nat) : ∀ (d k at_ fe met : Nat), r.length - k = d → k ≤ r.length → fe ≤ k → met < 2 ^ 60 → Ev (fun K => drovewayref09_walked.l0 K l r (fr : Int) (at_ : Int) (met : Int) (fe : Int) (k : Int)) (walkN l r fr d k at_ fe met) := by
  intro d
  induction d with
  | zero =>
    intro k at_ fe met hd hk hf hm
    obtain rfl : k = r.length := by omega
    refine Ev.step (f := fun _ => some ((fe : Int), (at_ : Int) == (fr : Int))) (fun k => ?_) ?_
    · rw [drovewayref09_walked.l0, if_neg (by omega)]
    · rw [walkN]
      have : ((at_ : Int) == (fr : Int)) = decide (at_ = fr) := by
        by_cases e : at_ = fr
        · rw [decide_eq_true e, beq_iff_eq]; omega
        · rw [decide_eq_false e, beq_eq_false_iff_ne]; omega
      rw [this]
      exact Ev.now _
  | succ d ih =>
    intro k at_ fe met hd hk hf hm
    have hlt : k < r.length := by omega
    have hi := hin k hlt
    have gi := tieA_good hg hi
    have h1 := hi.1
    have h2 := hi.2
    rw [walkN]
    have hst : ∀ K, drovewayref09_walked.l0 (K + 1) l r (fr : Int) (at_ : Int) (met : Int) (fe : Int) (k : Int) = (some (match otherN (tieA l (r.getD k 0)) at_ with | some x => (x : Int) | none => -1)).bind fun t181 => (if t181 < 0 then (drovewayref09_walked.j1 K l r fr met fe k t181 true) else (if 0 ≤ t181 then (drovewayref09_walked.j1 K l r fr met fe k t181 ((Int.tmod (shr .i64 met t181) 2) == 1)) else (none))) := by
      intro K
      rw [drovewayref09_walked.l0, if_pos (by omega), if_pos (by omega), rdJ, if_pos h1, if_pos h2, rdB, other_eq gi.1 (by omega)]
    cases e : otherN (tieA l (r.getD k 0)) at_ with
    | none =>
      rw [e] at hst
      refine Ev.step hst ?_
      refine Ev.congr (fun K => by rw [Option.bind_some, if_pos (by decide)]) ?_
      refine Ev.step (f := fun _ => some ((0 : Int), false)) (fun K => ?_) (Ev.now _)
      rw [drovewayref09_walked.j1, if_pos rfl]
    | some v =>
      rw [e] at hst
      have p := other_parts gi.1 gi.2.1 e
      have pv := hasB_iff.mp p.2.1
      have hv : v < 60 := by omega
      have h60 : 2 ^ v < 2 ^ 60 := Nat.pow_lt_pow_right (by decide) hv
      refine Ev.step hst ?_
      refine Ev.congr (fun K => by rw [Option.bind_some, if_neg (by dsimp only; omega), if_pos (by dsimp only; omega)]) ?_
      dsimp only
      rw [shr_mod met v (by omega)]
      by_cases hb : met.testBit v = true
      · rw [if_pos hb, if_pos hb]
        refine Ev.step (f := fun _ => some ((0 : Int), false)) (fun K => ?_) (Ev.now _)
        rw [drovewayref09_walked.j1, if_pos (by decide)]
      · rw [if_neg hb, if_neg hb]
        have hb' : met.testBit v = false := by simpa using hb
        have hfb : fe + feA l r k ≤ k + 1 := by
          have : feA l r k ≤ 1 := by unfold feA feT; split <;> omega
          omega
        refine Ev.step (fun K => ?_) (ih (k + 1) v (fe + feA l r k) (met ||| 2 ^ v) (by omega) (by omega) hfb (or_lt hm h60))
        have hw : wrap64 ((met : Int) + ((2 ^ v : Nat) : Int)) = ((met ||| 2 ^ v : Nat) : Int) := by
          rw [← or_add (lt62 hm (by decide)) (by omega) hb']
          generalize 2 ^ v = P at h60
          rw [wrap64_id] <;> omega
        rw [drovewayref09_walked.j1, if_neg (by decide), if_pos (by omega), if_pos (by omega), if_pos (by omega), rdJ, if_pos h1, if_pos h2, rdB, shl_one (by omega), hw, wrapS hlt (by omega)]
        unfold feA feT
        by_cases hc : (tieA l (r.getD k 0)).f2 = true
        · rw [if_pos hc, if_pos hc, wrap64_id (by omega) (by omega)]; rfl
        · rw [if_neg hc, if_neg hc]; rfl
theorem walked_ev (hg : goodT l) (hr : r.length ≤ 1000) (hin : ∀ k, k < r.length → inR l (r.getD k 0)) (fr : Nat) : Ev (fun K => drovewayref09_walked.f K l r (fr : Int)) (walkF l r fr) :=
  walked_l0 hg hr hin fr r.length 0 fr 0 0 (by omega) (Nat.zero_le _) (Nat.le_refl _) (by decide)
theorem isRing_l0 (hg : goodT l) (hr : r.length ≤ 1000) (h3 : 3 ≤ r.length) : ∀ (d k : Nat), r.length - k = d → k ≤ r.length → (∀ j, j < k → inR l (r.getD j 0)) → Ev (fun K => drovewayref09_isRing.l0 K l r (k : Int)) (isRingR l r) := by
  intro d
  unfold isRingR
  rw [if_neg (by omega)]
  induction d with
  | zero =>
    intro k hd hk hp
    obtain rfl : k = r.length := by omega
    rw [if_pos hp]
    have hi := hp 0 (by omega)
    have gi := tieA_good hg hi
    have h1 := hi.1
    have h2 := hi.2
    have wa := walked_ev hg hr hp (tieA l (r.getD 0 0)).f0.toNat
    have wb := walked_ev hg hr hp (tieA l (r.getD 0 0)).f1.toNat
    rw [Int.toNat_of_nonneg (by omega)] at wa wb
    generalize walkF l r (tieA l (r.getD 0 0)).f0.toNat = wA at wa
    generalize walkF l r (tieA l (r.getD 0 0)).f1.toNat = wB at wb
    have e0 : rd r 0 = r.getD 0 0 := rdJ r 0
    refine Ev.step (f := fun k => (drovewayref09_walked.f k l r (tieA l (r.getD 0 0)).f0).bind fun bt188 => (if bt188.2 = true then (some (bt188.1, true)) else ((drovewayref09_walked.f k l r (tieA l (r.getD 0 0)).f1).bind fun bt192 => (if bt192.2 = true then (some (bt192.1, true)) else (some (0, false)))))) (fun K => ?_) ?_
    · rw [drovewayref09_isRing.l0, if_neg (by omega), if_pos (by omega), e0, if_pos h1, if_pos h2, rdB]
    refine Ev.bind (f := fun k bt188 => (if bt188.2 = true then (some (bt188.1, true)) else ((drovewayref09_walked.f k l r (tieA l (r.getD 0 0)).f1).bind fun bt192 => (if bt192.2 = true then (some (bt192.1, true)) else (some (0, false)))))) wa ?_
    by_cases ha : wA.2 = true
    · rw [if_pos ha]
      refine Ev.congr (f := fun _ => some wA) (fun K => ?_) (Ev.now _)
      rw [if_pos ha, ← ha]
    · rw [if_neg ha]
      refine Ev.congr (fun K => by rw [if_neg ha]) ?_
      refine Ev.bind (f := fun _ bt192 => (if bt192.2 = true then (some (bt192.1, true)) else (some (0, false)))) wb ?_
      by_cases hb : wB.2 = true
      · simp only [if_pos hb]
        refine Ev.congr (f := fun _ => some wB) (fun K => ?_) (Ev.now _)
        rw [← hb]
      · simp only [if_neg hb]
        exact Ev.now _
  | succ d ih =>
    intro k hd hk hp
    have hlt : k < r.length := by omega
    by_cases hi : inR l (r.getD k 0)
    · refine Ev.step (fun K => ?_) (ih (k + 1) (by omega) (by omega) fun j hj => ?_)
      · rw [drovewayref09_isRing.l0, if_pos (by omega), if_pos (by omega), rdJ, if_neg (by unfold inR at hi; omega), if_neg (by unfold inR at hi; omega), wrapS hlt (by omega)]
      · by_cases e : j = k
        · subst e; exact hi
        · exact hp j (by omega)
    · rw [if_neg (fun h => hi (h k hlt))]
      refine Ev.step (f := fun _ => some ((0 : Int), false)) (fun K => ?_) (Ev.now _)
      rw [drovewayref09_isRing.l0, if_pos (by omega), if_pos (by omega), rdJ]
      by_cases h0 : r.getD k 0 < 0
      · rw [if_pos h0]
      · rw [if_neg h0, if_pos (by unfold inR at hi; omega)]
theorem isRing_ev (hg : goodT l) (hr : r.length ≤ 1000) : Ev (fun K => drovewayref09_isRing.f K l r) (isRingR l r) := by
  by_cases h : r.length < 3
  · unfold isRingR
    rw [if_pos h]
    refine Ev.congr (f := fun _ => some ((0 : Int), false)) (fun K => ?_) (Ev.now _)
    unfold drovewayref09_isRing.f
    rw [if_pos (by omega)]
  · refine Ev.congr (fun K => ?_) (isRing_l0 hg hr (by omega) r.length 0 (by omega) (Nat.zero_le _) (fun j hj => absurd hj (Nat.not_lt_zero _)))
    unfold drovewayref09_isRing.f
    rw [if_neg (by omega)]
    rfl
theorem rIsRing_ev (n : Int) (hl : l.length ≤ 1000) (hr : r.length ≤ 1000) : Ev (fun k => drovewayref09_IsRing.f k n l r) (if tiesE n l = 0 then ((isRingR l r).1, (isRingR l r).2, 0) else (0, false, tiesE n l)) := by
  refine Ev.bind (f := fun k t => (if t = 0 then ((drovewayref09_isRing.f k l r).bind fun bt277 => (some (bt277.1, bt277.2, 0))) else (some (0, false, t)))) (Ties_ev (n := n) hl) ?_
  by_cases h : tiesE n l = 0
  · rw [if_pos h]
    refine Ev.congr (fun k => by rw [if_pos h]) ?_
    exact Ev.bind (f := fun _ bt277 => (some (bt277.1, bt277.2, (0 : Int)))) (isRing_ev (tiesE_good h) hr) (Ev.now _)
  · rw [if_neg h]
    exact Ev.congr (fun k => by rw [if_neg h]) (Ev.now _)
end
end Go.Proofs.Ytaegldcifhgnmaa.B

/- The specification's search for a ring of a size: the walk. (Printed by gen_q4.py.) -/
namespace Go.Proofs.Ytaegldcifhgnmaa.B
open Go.Proofs.Ytaegldcifhgnmaa.A
open Go.RowKit Go.Proofs.YtaegldcifhgnmaaW.PrintWords Go.Proofs.YtaegldcifhgnmaaW.PrintMore
set_option linter.unusedSimpArgs false

theorem bit_ask (y a : Nat) : (((y : Int) / 2 ^ a).tmod 2 == 1) = y.testBit a := by
  have e : ((y : Int) / 2 ^ a) = ((y / 2 ^ a : Nat) : Int) := by simp
  rw [e, Int.tmod_eq_emod_of_nonneg (Int.natCast_nonneg _), Nat.testBit_eq_decide_div_mod_eq]
  by_cases h : y / 2 ^ a % 2 = 1
  · have : ((y / 2 ^ a : Nat) : Int) % 2 = 1 := by omega
    rw [this, decide_eq_true h]; rfl
  · have : ((y / 2 ^ a : Nat) : Int) % 2 = 0 := by omega
    rw [this, decide_eq_false h]; rfl
theorem two_wrap {a : Nat} (h : a < 60) : IntKind.i64.wrap ((2 : Int) ^ a) = 2 ^ a := by rw [pow_cast]; exact wrap64_nat _ (Int.natCast_nonneg _) (by exact_mod_cast two_lt (show a < 62 by omega))
theorem or_one {met a : Nat} (hm : met < 2 ^ 60) (ha : a < 60) : bits .or .i64 (met : Int) (2 ^ a) = ((met ||| 2 ^ a : Nat) : Int) := by
  rw [pow_cast, or64 met (2 ^ a) (lt62 hm (by decide)) (two_lt (by omega))]
theorem rother_calls (t : S39) (v : Nat) (h0 : 0 ≤ t.f0) (h1 : 0 ≤ t.f1) (w : World) :
    Calls Try.prog 88 #[.agg #[.int .i64 t.f0, .int .i64 t.f1, .bool t.f2], .int .i64 v] w fun e w' => e = .returned (.int .i64 (match otherN t v with | some x => (x : Int) | none => -1)) ∧ Below w.heap.size w w' :=
  drovewayref09_other.calls t.f0 t.f1 t.f2 v _ w (other_eq h0 h1 v)

def RgPost (B : Nat) (S : Option (List Int)) (W : World) (e : Ending) (w' : World) : Prop :=
  ∃ v : Value, e = .returned v ∧ Kd.R (Kd.int .i64) 3 w' B (fun _ => True) v (S.getD []) ∧ (S = none → v = .slice none 0 0) ∧ (S ≠ none → ∃ b n c, v = .slice (some b) n c) ∧ Below W.heap.size W w'
def RgSaid (l : List S39) (one : Bool) (A : Option Addr) (c size B d : Nat) : Prop :=
  ∀ (now : List Int) (at_ met : Nat) (v : Value) (W : World), Kd.R (Kd.int .i64) 3 W B (fun _ => True) v now → B ≤ W.heap.size → now.length + d = size → now ≠ [] → at_ < 60 → met < 2 ^ 60 → Kd.C k39 W A l.length l →
    Calls Try.prog 77 #[.slice A l.length c, .int .i64 size, v, .int .i64 at_, .int .i64 met, .bool one] W (RgPost B (ringedR l one d now at_ met) W)
theorem row_some {w : World} {A : Option Addr} {n c1 B : Nat} {now : List Int} (h : Kd.R (Kd.int .i64) 3 w B (fun _ => True) (.slice A n c1) now) (hne : now ≠ []) : ∃ ad, A = some ad := by
  obtain ⟨A', c', e, _, hC⟩ := Kd.R_reads h
  have hl : 0 < now.length := List.length_pos_iff.mpr hne
  obtain ⟨ad, ha, _⟩ := Kd.at_int hC 0 (by omega) (by omega)
  injection e with e1
  exact ⟨ad, e1.trans ha⟩

set_option maxRecDepth 100000 in
set_option maxHeartbeats 1600000 in
theorem rg_zero (l : List S39) (hg : goodT l) (one : Bool) (A : Option Addr) (c size B : Nat) (hc : l.length ≤ c) (h9 : size ≤ 1000) : RgSaid l one A c size B 0 := by
  intro now at_ met v W hR hB hn hne hat hm hr
  obtain ⟨A2, c2, rfl, hc2, hC⟩ := Kd.R_reads hR
  rw [Nat.add_zero] at hn
  subst hn
  obtain ⟨k, hk⟩ := (isRing_ev hg h9).rounds
  have hsome := row_some hR hne
  have HR := Aside0.mk hR
  have HC := Aside0.mk hc
  have HCC := Aside0.mk hC
  have HC2 := Aside0.mk hc2
  have HA := Aside0.mk hr
  have HNE := Aside0.mk hsome
  obtain ⟨S, hS⟩ : ∃ S, ringedR l one 0 now at_ met = S := ⟨_, rfl⟩
  rw [hS]
  rw [ringedR] at hS
  generalize isRingR l now = Z at hk hS
  obtain ⟨fe, ok⟩ := Z
  dsimp only at hS
  have HK := Aside0.mk hk
  have HS := Aside0.mk hS
  clear hR hr hC hc2 hc hk hS hg hB hat hm hsome
  cases ok with
  | false =>
    go_enter Try.func77, Try.ntmps77
    go_wp2_with (go_at_call 64; refine (drovewayref09_isRing.calls k A c l A2 c2 now fe false _ HA.out HC.out HCC.out HC2.out HK.out).mono ?_; rintro e w2 ⟨rfl, hb2⟩; have HB2 := Aside0.mk hb2; clear hb2)
    go_ret
    have : S = none := by rw [← HS.out]; rfl
    subst this
    exact ⟨_, rfl, Kd.R_nil _ _ _ _ _, fun _ => rfl, fun h => absurd rfl h, HB2.out⟩
  | true =>
    cases one with
    | true =>
      cases hf : (fe == 1) with
      | false =>
        have HF := Aside0.mk hf
        go_enter Try.func77, Try.ntmps77
        go_wp2_with (go_at_call 64; refine (drovewayref09_isRing.calls k A c l A2 c2 now fe true _ HA.out HC.out HCC.out HC2.out HK.out).mono ?_; rintro e w2 ⟨rfl, hb2⟩; have HB2 := Aside0.mk hb2; clear hb2)
        go_ret
        have ha : askB true fe = false := by unfold askB; rw [if_pos rfl]; exact HF.out
        have : S = none := by rw [← HS.out, ha]; rfl
        subst this
        exact ⟨_, rfl, Kd.R_nil _ _ _ _ _, fun _ => rfl, fun h => absurd rfl h, HB2.out⟩
      | true =>
        have HF := Aside0.mk hf
        go_enter Try.func77, Try.ntmps77
        go_wp2_with (go_at_call 64; refine (drovewayref09_isRing.calls k A c l A2 c2 now fe true _ HA.out HC.out HCC.out HC2.out HK.out).mono ?_; rintro e w2 ⟨rfl, hb2⟩; have HB2 := Aside0.mk hb2; clear hb2)
        go_ret
        have ha : askB true fe = true := by unfold askB; rw [if_pos rfl]; exact HF.out
        have : S = some now := by rw [← HS.out, ha]; rfl
        subst this
        obtain ⟨ad, rfl⟩ := HNE.out
        exact ⟨_, rfl, Kd.R_below HR.out HB2.out, (fun h => by cases h), fun _ => ⟨ad, _, _, rfl⟩, HB2.out⟩
    | false =>
      cases hf : (Int.tmod fe 2 == 1) with
      | false =>
        have HF := Aside0.mk hf
        go_enter Try.func77, Try.ntmps77
        go_wp2_with (go_at_call 64; refine (drovewayref09_isRing.calls k A c l A2 c2 now fe true _ HA.out HC.out HCC.out HC2.out HK.out).mono ?_; rintro e w2 ⟨rfl, hb2⟩; have HB2 := Aside0.mk hb2; clear hb2)
        go_ret
        have ha : askB false fe = false := by unfold askB; rw [if_neg (by decide)]; exact HF.out
        have : S = none := by rw [← HS.out, ha]; rfl
        subst this
        exact ⟨_, rfl, Kd.R_nil _ _ _ _ _, fun _ => rfl, fun h => absurd rfl h, HB2.out⟩
      | true =>
        have HF := Aside0.mk hf
        go_enter Try.func77, Try.ntmps77
        go_wp2_with (go_at_call 64; refine (drovewayref09_isRing.calls k A c l A2 c2 now fe true _ HA.out HC.out HCC.out HC2.out HK.out).mono ?_; rintro e w2 ⟨rfl, hb2⟩; have HB2 := Aside0.mk hb2; clear hb2)
        go_ret
        have ha : askB false fe = true := by unfold askB; rw [if_neg (by decide)]; exact HF.out
        have : S = some now := by rw [← HS.out, ha]; rfl
        subst this
        obtain ⟨ad, rfl⟩ := HNE.out
        exact ⟨_, rfl, Kd.R_below HR.out HB2.out, (fun h => by cases h), fun _ => ⟨ad, _, _, rfl⟩, HB2.out⟩

set_option maxRecDepth 100000 in
set_option maxHeartbeats 3200000 in
theorem rg_step (l : List S39) (hg : goodT l) (hl : l.length ≤ 1000) (one : Bool) (A : Option Addr) (c size B d : Nat) (h9 : size ≤ 1000) (ih : RgSaid l one A c size B d) : RgSaid l one A c size B (d + 1) := by
  intro now at_ met v W hR hB hn hne hat hm hr
  obtain ⟨A2, c2, rfl, hc2, _⟩ := Kd.R_reads hR
  obtain ⟨ad2, rfl⟩ := row_some hR hne
  have hz : ((now.length : Int) == (size : Int)) = false := by rw [beq_eq_false_iff_ne]; omega
  have hz2 : ¬ (now.length : Int) = (size : Int) := by omega
  have HI := Aside0.mk ih
  have HB := Aside0.mk hB
  have HN := Aside0.mk hn
  have HM := Aside0.mk hm
  have HA := Aside0.mk hr
  have HG := Aside0.mk hg
  have HR := Aside0.mk hR
  obtain ⟨S, hS⟩ : ∃ S, ringedR l one (d + 1) now at_ met = S := ⟨_, rfl⟩
  rw [hS]
  rw [ringedR] at hS
  have HS := Aside0.mk hS
  have hq : now.length ≤ 1000 := by omega
  have hb1 : (0 : Int) ≤ (now.length : Int) := by omega
  have hb2 : (now.length : Int) ≤ (c2 : Int) := by omega
  obtain ⟨F, hF⟩ : ∃ F : Nat → Option (List Int), F = (fun i => match otherN (l.getD i z39) at_ with
    | none => none
    | some v => if met.testBit v = true then none else ringedR l one d (now ++ [(i : Int)]) v (met ||| 2 ^ v)) := ⟨_, rfl⟩
  have HFF : Aside0 (∀ i, F i = match otherN (l.getD i z39) at_ with
    | none => none
    | some v => if met.testBit v = true then none else ringedR l one d (now ++ [(i : Int)]) v (met ||| 2 ^ v)) := ⟨fun i => by rw [hF]⟩
  have HSF : Aside0 (firstN F l.length = S) := ⟨by rw [hF]; exact HS.out⟩
  clear hR hB hn hm hr hg hS HS hc2 hF ih
  go_enter Try.func77, Try.ntmps77
  go_wp2
  go_loopg [15, 16, 17] l.length (fun gg v15 _ _ wr => ∃ i : Nat, i ≤ l.length ∧ l.length - i ≤ gg ∧ v15 = .int .i64 i ∧ Aside0 (Below W.heap.size W wr) ∧ Aside0 (firstN F i = none))
  case atStart => exact ⟨0, Nat.zero_le _, by omega, rfl, ⟨Below.refl _ _⟩, ⟨rfl⟩⟩
  case round =>
    obtain ⟨i, hi, hgg, rfl, HBr, HF⟩ := hrel
    by_cases hlt : i < l.length
    · have hltz : (i : Int) < (l.length : Int) := by omega
      obtain ⟨ad, had, hx0, hx1, hx2⟩ := at_T39 (Kd.C_below HA.out HBr.out) (i : Int) (by omega) (by omega)
      subst had
      rw [Int.toNat_natCast] at hx0 hx1 hx2
      have hrd : rd_T39 l (i : Int) = l.getD i z39 := by simp [rd_T39]
      rw [hrd] at hx0 hx1 hx2
      have hts := HG.out _ (getD_mem z39 hlt)
      generalize hy : l.getD i z39 = y at hx0 hx1 hx2 hts
      obtain ⟨ya, yb, yf⟩ := y
      dsimp only at hx0 hx1 hx2 hts
      have HY := Aside0.mk hy
      have hts1 : 0 ≤ yb := by omega
      clear hy hrd
      cases ho : otherN ⟨ya, yb, yf⟩ at_ with
      | none =>
        have HO := Aside0.mk ho
        clear ho
        go_wp2_with (go_at_call 88; refine (rother_calls ⟨ya, yb, _⟩ at_ hts.1 hts1 _).mono ?_; rw [HO.out]; rintro e w3 ⟨rfl, hb3⟩; have HB3 := Aside0.mk (below_then HBr.out HBr.out.size hb3); clear hb3)
        go_roundg (l.length - (i + 1))
        case measure => omega
        case rel => exact ⟨i + 1, by omega, by omega, by go_num, HB3, ⟨by rw [firstN_succ_none HF.out, HFF.out, HY.out, HO.out]⟩⟩
      | some u =>
        have HO := Aside0.mk ho
        have hp := other_parts hts.1 hts.2.1 ho
        have hpu := hasB_iff.mp hp.2.1
        have hu : u < 60 := by dsimp only at hpu; omega
        have hu0 : ¬ (u : Int) < 0 := by omega
        have ku := bit_ask met u
        clear ho hp hpu
        cases ht : met.testBit u with
        | true =>
          have HT := Aside0.mk ht
          rw [ht] at ku
          clear ht
          go_wp2_with (go_at_call 88; refine (rother_calls ⟨ya, yb, _⟩ at_ hts.1 hts1 _).mono ?_; rw [HO.out]; rintro e w3 ⟨rfl, hb3⟩; have HB3 := Aside0.mk (below_then HBr.out HBr.out.size hb3); clear hb3)
          go_roundg (l.length - (i + 1))
          case measure => omega
          case rel => exact ⟨i + 1, by omega, by omega, by go_num, HB3, ⟨by rw [firstN_succ_none HF.out, HFF.out, HY.out, HO.out]; dsimp only; rw [if_pos HT.out]⟩⟩
        | false =>
          have HT := Aside0.mk ht
          rw [ht] at ku
          clear ht
          obtain ⟨R, hRR⟩ : ∃ R, ringedR l one d (now ++ [(i : Int)]) u (met ||| 2 ^ u) = R := ⟨_, rfl⟩
          have HFI : Aside0 (F i = R) := ⟨by rw [HFF.out, HY.out, HO.out]; dsimp only; rw [if_neg (by rw [HT.out]; exact Bool.false_ne_true)]; exact hRR⟩
          have HRR := Aside0.mk hRR
          clear hRR
          have hor := or_one HM.out hu
          have hwu := two_wrap hu
          go_must (go_wp2_with (go_at_call 88; refine (rother_calls ⟨ya, yb, _⟩ at_ hts.1 hts1 _).mono ?_; rw [HO.out]; rintro e w3 ⟨rfl, hb3⟩; have HB3 := Aside0.mk (below_then HBr.out HBr.out.size hb3); clear hb3))
          have HRW : Aside0 (Kd.R (Kd.int .i64) 3 w3.drew B (fun _ => True) (.slice (some ad2) now.length c2) now) := ⟨Kd.R_below HR.out (below_drew HB3.out)⟩
          have HBW : Aside0 (B ≤ w3.drew.heap.size) := ⟨Nat.le_trans HB.out HB3.out.size⟩
          have HREC : Aside0 (∀ (v4 : Value) (w4 : World), Kd.R (Kd.int .i64) 3 w4 B (fun _ => True) v4 (now ++ [(i : Int)]) → Below w3.drew.heap.size w3.drew w4 → Calls Try.prog 77 #[.slice (some ad) l.length c, .int .i64 size, v4, .int .i64 u, .int .i64 (met ||| 2 ^ u : Nat), .bool one] w4 (RgPost B R w4)) := ⟨fun v4 w4 h1 h2 => by
            rw [← HRR.out]
            exact HI.out (now ++ [(i : Int)]) u (met ||| 2 ^ u) v4 w4 h1 (Nat.le_trans HBW.out h2.size) (by rw [List.length_append, List.length_singleton]; have := HN.out; omega) (by simp) hu (or_lt HM.out (Nat.pow_lt_pow_right (by decide) hu)) (Kd.C_below HA.out ((below_drew HB3.out).trans (Below.mono h2 HB3.out.size)))⟩
          refine wp_region_noPanic ?_
          refine wp_region_held_drew (S := fun _ => True) (by kernel_rfl) trivial (fun hHeld => ?_)
          refine H_on 0 67 ?vn0 rfl rfl (by kernel_rfl) (by kernel_rfl) (by kernel_rfl) (by rfl) ?hn0 hHeld ?rn0
          case hn0 => (intro w hSw; (try dsimp only at hSw); go_simp <;> with_reducible rfl)
          simp only [Act.put, List.setIfInBounds_toArray, List.set_cons_zero, List.set_cons_succ]
          refine H_on 1 68 ?vn1 rfl rfl (by kernel_rfl) (by kernel_rfl) (by kernel_rfl) (by rfl) ?hn1 hHeld ?rn1
          case hn1 => (intro w hSw; (try dsimp only at hSw); go_simp <;> with_reducible rfl)
          simp only [Act.put, List.setIfInBounds_toArray, List.set_cons_zero, List.set_cons_succ]
          refine H_on 2 69 ?vn2 rfl rfl (by kernel_rfl) (by kernel_rfl) (by kernel_rfl) (by rfl) ?hn2 hHeld ?rn2
          case hn2 => (intro w hSw; (try dsimp only at hSw); go_simp <;> with_reducible rfl)
          simp only [Act.put, List.setIfInBounds_toArray, List.set_cons_zero, List.set_cons_succ]
          refine H_on 3 70 ?vn3 rfl rfl (by kernel_rfl) (by kernel_rfl) (by kernel_rfl) (by rfl) ?hn3 hHeld ?rn3
          case hn3 => (intro w hSw; (try dsimp only at hSw); go_simp <;> with_reducible rfl)
          simp only [Act.put, List.setIfInBounds_toArray, List.set_cons_zero, List.set_cons_succ]
          refine H_on 4 71 ?vn4 rfl rfl (by kernel_rfl) (by kernel_rfl) (by kernel_rfl) (by rfl) ?hn4 hHeld ?rn4
          case hn4 => (intro w hSw; (try dsimp only at hSw); go_simp <;> with_reducible rfl)
          simp only [Act.put, List.setIfInBounds_toArray, List.set_cons_zero, List.set_cons_succ]
          refine H_on 5 72 ?vn5 rfl rfl (by kernel_rfl) (by kernel_rfl) (by kernel_rfl) (by rfl) ?hn5 hHeld ?rn5
          case hn5 => (intro w hSw; (try dsimp only at hSw); go_simp <;> with_reducible rfl)
          simp only [Act.put, List.setIfInBounds_toArray, List.set_cons_zero, List.set_cons_succ]
          refine H_on 6 73 ?vn6 rfl rfl (by kernel_rfl) (by kernel_rfl) (by kernel_rfl) (by rfl) ?hn6 hHeld ?rn6
          case hn6 => (intro w hSw; (try dsimp only at hSw); go_simp <;> with_reducible rfl)
          simp only [Act.put, List.setIfInBounds_toArray, List.set_cons_zero, List.set_cons_succ]
          refine H_on 7 74 ?vn7 rfl rfl (by kernel_rfl) (by kernel_rfl) (by kernel_rfl) (by rfl) ?hn7 hHeld ?rn7
          case hn7 => (intro w hSw; (try dsimp only at hSw); go_simp <;> with_reducible rfl)
          simp only [Act.put, List.setIfInBounds_toArray, List.set_cons_zero, List.set_cons_succ]
          refine H_on 8 75 ?vn8 rfl rfl (by kernel_rfl) (by kernel_rfl) (by kernel_rfl) (by rfl) ?hn8 hHeld ?rn8
          case hn8 => (intro w hSw; (try dsimp only at hSw); go_simp <;> with_reducible rfl)
          simp only [Act.put, List.setIfInBounds_toArray, List.set_cons_zero, List.set_cons_succ]
          refine H_on 11 78 ?vn11 rfl rfl (by kernel_rfl) (by kernel_rfl) (by kernel_rfl) (by rfl) ?hn11 hHeld ?rn11
          case hn11 => (intro w hSw; (try dsimp only at hSw); go_simp <;> with_reducible rfl)
          simp only [Act.put, List.setIfInBounds_toArray, List.set_cons_zero, List.set_cons_succ]
          refine H_on 12 79 ?vn12 rfl rfl (by kernel_rfl) (by kernel_rfl) (by kernel_rfl) (by rfl) ?hn12 hHeld ?rn12
          case hn12 => (intro w hSw; (try dsimp only at hSw); go_simp <;> with_reducible rfl)
          simp only [Act.put, List.setIfInBounds_toArray, List.set_cons_zero, List.set_cons_succ]
          refine H_on 13 80 ?vn13 rfl rfl (by kernel_rfl) (by kernel_rfl) (by kernel_rfl) (by rfl) ?hn13 hHeld ?rn13
          case hn13 => (intro w hSw; (try dsimp only at hSw); go_simp <;> with_reducible rfl)
          simp only [Act.put, List.setIfInBounds_toArray, List.set_cons_zero, List.set_cons_succ]
          refine H_on 14 81 ?vn14 rfl rfl (by kernel_rfl) (by kernel_rfl) (by kernel_rfl) (by rfl) ?hn14 hHeld ?rn14
          case hn14 => (intro w hSw; (try dsimp only at hSw); go_simp <;> with_reducible rfl)
          simp only [Act.put, List.setIfInBounds_toArray, List.set_cons_zero, List.set_cons_succ]
          refine H_on 15 82 ?vn15 rfl rfl (by kernel_rfl) (by kernel_rfl) (by kernel_rfl) (by rfl) ?hn15 hHeld ?rn15
          case hn15 => (intro w hSw; (try dsimp only at hSw); go_simp <;> with_reducible rfl)
          simp only [Act.put, List.setIfInBounds_toArray, List.set_cons_zero, List.set_cons_succ]
          refine H_on 16 83 ?vn16 rfl rfl (by kernel_rfl) (by kernel_rfl) (by kernel_rfl) (by rfl) ?hn16 hHeld ?rn16
          case hn16 => (intro w hSw; (try dsimp only at hSw); go_simp <;> with_reducible rfl)
          simp only [Act.put, List.setIfInBounds_toArray, List.set_cons_zero, List.set_cons_succ]
          refine wpAnyH_ready (rs := [9]) (by kernel_rfl) (by simp) ?_
          refine AllReadyH.cons rfl (fun K hK => ?_) AllReadyH.nil
          go_simp
          refine hK.out _ _ trivial (fun hHeld => ?_)
          clear hK K
          try simp only [Act.put, List.setIfInBounds_toArray, List.set_cons_zero, List.set_cons_succ]
          refine wpAnyH_ready (rs := [10]) (by kernel_rfl) (by simp) ?_
          refine AllReadyH.cons rfl (fun K hK => ?_) AllReadyH.nil
          refine step_appendI (W := w3.drew) (B := B) (A1 := some ad2) (n := now.length) (c1 := c2) (now := now) (i : Int) (by rfl) _ _ rfl rfl rfl HRW.out HBW.out (by omega) ?_
          intro v4 w4 hR4 hb4
          have HR4 := Aside0.mk hR4
          have HB4 := Aside0.mk hb4
          clear hR4 hb4
          refine hK.out _ _ trivial (fun hHeld => ?_)
          clear hK K
          try simp only [Act.put, List.setIfInBounds_toArray, List.set_cons_zero, List.set_cons_succ]
          refine wpAnyH_ready (rs := [17]) (by kernel_rfl) (by simp) ?_
          refine AllReadyH.cons rfl (fun K hK => ?_) AllReadyH.nil
          go_simp
          refine (HREC.out v4 w4 HR4.out HB4.out).mono ?_
          rintro e w5 ⟨v5, rfl, hR5, hn5, hs5, hb5⟩
          have HR5 := Aside0.mk hR5
          have HN5 := Aside0.mk hn5
          have HS5 := Aside0.mk hs5
          have HB5 := Aside0.mk hb5
          clear hR5 hb5 hn5 hs5
          go_wp2_with fail
          refine hK.out _ _ trivial (fun hHeld => ?_)
          clear hK K
          try simp only [Act.put, List.setIfInBounds_toArray, List.set_cons_zero, List.set_cons_succ]
          refine H_on 18 17 ?vn18 rfl rfl (by kernel_rfl) (by kernel_rfl) (by kernel_rfl) (by rfl) ?hn18 hHeld ?rn18
          case hn18 => (intro w hSw; (try dsimp only at hSw); go_simp <;> with_reducible rfl)
          simp only [Act.put, List.setIfInBounds_toArray, List.set_cons_zero, List.set_cons_succ]
          refine wpAnyH_done (by kernel_rfl) ?_ _
          refine NoPanic.normal ?_
          have HBF : Aside0 (Below W.heap.size W w5) := ⟨((below_drew HB3.out).trans (Below.mono HB4.out HB3.out.size)).trans (Below.mono HB5.out (Nat.le_trans HB3.out.size HB4.out.size))⟩
          cases R with
          | some r =>
            obtain ⟨b5, n5, c5, hv5⟩ := HS5.out (by simp)
            subst hv5
            have hnil := fun (w : World) => run_neq_slice_nil_any w 28 3 (some b5) n5 c5 0 0 Try.underlying28
            go_wp2
            go_ret
            have hfin : S = some r := by rw [← HSF.out]; exact firstN_some hlt HF.out HFI.out
            subst hfin
            exact ⟨_, rfl, HR5.out, (fun h => by cases h), fun _ => ⟨_, _, _, rfl⟩, HBF.out⟩
          | none =>
            have hv5 := HN5.out rfl
            subst hv5
            have hnil := fun (w : World) => run_neq_slice_nil_any w 28 3 none 0 0 0 0 Try.underlying28
            go_wp2
            go_roundg (l.length - (i + 1))
            case measure => omega
            case rel => exact ⟨i + 1, by omega, by omega, by go_num, HBF, ⟨by rw [firstN_succ_none HF.out]; exact HFI.out⟩⟩
    · have hltz : ¬ (i : Int) < (l.length : Int) := by omega
      have him : i = l.length := by omega
      have HSN : Aside0 (S = none) := ⟨by rw [← HSF.out, ← him]; exact HF.out⟩
      go_wp2
      go_ret
      exact ⟨_, rfl, by rw [HSN.out]; exact Kd.R_nil _ _ _ _ _, fun _ => rfl, fun h => absurd HSN.out h, HBr.out⟩
theorem ringed_calls (l : List S39) (hg : goodT l) (hl : l.length ≤ 1000) (one : Bool) (A : Option Addr) (c size B : Nat) (hc : l.length ≤ c) (h9 : size ≤ 1000) : ∀ d, RgSaid l one A c size B d
  | 0 => rg_zero l hg one A c size B hc h9
  | d + 1 => rg_step l hg hl one A c size B d h9 (ringed_calls l hg hl one A c size B hc h9 d)
end Go.Proofs.Ytaegldcifhgnmaa.B

/- What the specification's Less computes (plain). -/
namespace Go.Proofs.Ytaegldcifhgnmaa.B
open Go.Proofs.Ytaegldcifhgnmaa.A
open Go.RowKit Go.Proofs.YtaegldcifhgnmaaW.PrintWords Go.Proofs.YtaegldcifhgnmaaW.PrintMore
theorem rdL (r : List Int) (i : Nat) : rd r (i : Int) = r.getD i 0 := by simp [rd]
theorem less_l0 (a b : List Int) (ha : a.length ≤ 1000) : ∀ d i, a.length - i = d → i ≤ a.length → i ≤ b.length → Ev (fun k => drovewayref09_Less.l0 k a b (i : Int)) (decide (cmpL (a.drop i) (b.drop i) < 0)) := by
  intro d
  induction d with
  | zero =>
    intro i hd hi hb
    have e : a.length = i := by omega
    refine Ev.step (f := fun k => drovewayref09_Less.j1 k a b (i : Int) false) (fun k => by rw [drovewayref09_Less.l0, if_neg (by omega)]) ?_
    refine Ev.step (f := fun _ => some (decide ((a.length : Int) < (b.length : Int)))) (fun k => by rw [drovewayref09_Less.j1, if_neg (by decide)]) ?_
    rw [cmpL_end e hb]
    by_cases h : (a.length : Int) < (b.length : Int)
    · rw [if_pos h, decide_eq_true h]; exact Ev.now _
    · rw [if_neg h, decide_eq_false h]; exact Ev.now _
  | succ d ih =>
    intro i hd hi hb
    have hlt : i < a.length := by omega
    by_cases hlb : i < b.length
    · refine Ev.step (f := fun k => drovewayref09_Less.j1 k a b (i : Int) true) (fun k => by rw [drovewayref09_Less.l0, if_pos (by omega), decide_eq_true (by omega)]) ?_
      rw [cmpL_drop hlt hlb]
      by_cases e : a.getD i 0 = b.getD i 0
      · rw [if_pos (by unfold cmpI; rw [e, if_neg (by omega), if_neg (by omega)])]
        refine Ev.step (fun k => ?_) (ih (i + 1) (by omega) (by omega) (by omega))
        rw [drovewayref09_Less.j1, if_pos rfl, if_pos (by omega), if_pos (by omega), if_pos (by omega), rdL, rdL, if_pos e, wrapS hlt (by omega)]
      · have hz : ¬ cmpI (a.getD i 0) (b.getD i 0) = 0 := by
          unfold cmpI
          split
          · omega
          · split <;> omega
        rw [if_neg hz]
        refine Ev.step (f := fun _ => some (decide (cmpI (a.getD i 0) (b.getD i 0) < 0))) (fun k => ?_) (Ev.now _)
        rw [drovewayref09_Less.j1, if_pos rfl, if_pos (by omega), if_pos (by omega), if_pos (by omega), rdL, rdL, if_neg e]
        congr 1
        rw [decide_eq_decide]
        unfold cmpI
        split
        · omega
        · split <;> omega
    · refine Ev.step (f := fun k => drovewayref09_Less.j1 k a b (i : Int) false) (fun k => by rw [drovewayref09_Less.l0, if_pos (by omega), decide_eq_false (by omega)]) ?_
      refine Ev.step (f := fun _ => some (decide ((a.length : Int) < (b.length : Int)))) (fun k => by rw [drovewayref09_Less.j1, if_neg (by decide)]) ?_
      rw [cmpL_gt hlt (by omega), decide_eq_false (by omega : ¬ (1 : Int) < 0), decide_eq_false (by omega)]
      exact Ev.now _
theorem less_ev (a b : List Int) (ha : a.length ≤ 1000) : Ev (fun k => drovewayref09_Less.f k a b) (lessB a b) :=
  less_l0 a b ha a.length 0 rfl (Nat.zero_le _) (Nat.zero_le _)
end Go.Proofs.Ytaegldcifhgnmaa.B

/- The specification's shortest ring: the walk. (Printed by gen_q5.py.) -/
namespace Go.Proofs.Ytaegldcifhgnmaa.B
open Go.Proofs.Ytaegldcifhgnmaa.A
open Go.RowKit Go.Proofs.YtaegldcifhgnmaaW.PrintWords Go.Proofs.YtaegldcifhgnmaaW.PrintMore
set_option linter.unusedSimpArgs false

theorem less_calls {W0 w : World} {B : Nat} {A1 A2 : Option Addr} {n1 c1 n2 c2 : Nat} {a b : List Int} (h1 : Kd.R (Kd.int .i64) 3 w B (fun _ => True) (.slice A1 n1 c1) a) (h2 : Kd.R (Kd.int .i64) 3 w B (fun _ => True) (.slice A2 n2 c2) b) (ha : a.length ≤ 1000) (X : Bool) (hX : lessB a b = X) (_hB : Below W0.heap.size W0 w) :
    Calls Try.prog 41 #[.slice A1 n1 c1, .slice A2 n2 c2] w fun e w' => e = .returned (.bool X) ∧ Below w.heap.size w w' := by
  obtain ⟨k, hk⟩ := (less_ev a b ha).rounds
  rw [hX] at hk
  obtain ⟨A1', c1', e1, hc1, hC1⟩ := Kd.R_reads h1
  obtain ⟨A2', c2', e2, hc2, hC2⟩ := Kd.R_reads h2
  injection e1 with e3 e4 e5
  injection e2 with e6 e7 e8
  subst e3 e4 e5 e6 e7 e8
  exact (drovewayref09_Less.calls k A1 c1 a A2 c2 b X w hC1 hc1 hC2 hc2 hk).mono fun _ _ ⟨p, q⟩ => ⟨p, q.below⟩

/-! ### shortest -/
theorem R_one (W : World) (i : Int) {B : Nat} (hB : B ≤ W.heap.size) : Kd.R (Kd.int .i64) 3 (W.alloc (.cells #[.int .i64 i] 3)) B (fun _ => True) (.slice (some ⟨W.heap.size, 0, none⟩) 1 1) [i] := by
  have h0 := Kd.R_nil (Kd.int .i64) 3 W B (fun _ => True)
  obtain ⟨h1, inner, hown, hr⟩ := h0
  have hin : inner = [] := by
    have := hown.1
    simpa using this
  subst hin
  have := Kd.R_appended (d := Kd.int .i64) (e := 3) (okp := fun _ => False) (w1 := W.alloc (.cells #[.int .i64 i] 3)) (v1 := .slice (some ⟨W.heap.size, 0, none⟩) 1 1) (p := i) (cs := [.int .i64 i]) h1 hr rfl (fun _ hk => hk.elim) (fun _ _ => trivial) (own_lit W B 3 .i64 [i] hB (by simp)) (grown_some (World.grownBy_alloc W _ _) _) (Or.inr ⟨W.heap.size, rfl, Nat.le_refl _⟩)
  exact this
theorem start_calls (l : List S39) (hg : goodT l) (hl : l.length ≤ 1000) (one : Bool) (A : Option Addr) (c k i a B : Nat) (hc : l.length ≤ c) (hk : 3 ≤ k) (hk9 : k ≤ 1000) (ha : a < 60) (W : World) (hB : B ≤ W.heap.size) (hr : Kd.C k39 (W.alloc (.cells #[.int .i64 (i : Int)] 3)) A l.length l) (R : Option (List Int)) (hR : startR l one k i a = R) :
    Calls Try.prog 77 #[.slice A l.length c, .int .i64 k, .slice (some ⟨W.heap.size, 0, none⟩) 1 1, .int .i64 a, .int .i64 ((2 : Int) ^ a), .bool one] (W.alloc (.cells #[.int .i64 (i : Int)] 3)) (RgPost B R (W.alloc (.cells #[.int .i64 (i : Int)] 3))) := by
  rw [← hR, pow_cast]
  exact ringed_calls l hg hl one A c k B hc hk9 (k - 1) [(i : Int)] a (2 ^ a) _ _ (R_one W i hB) (Nat.le_trans hB (by simp)) (by simp; omega) (by simp) ha (Nat.pow_lt_pow_right (by decide) ha) hr

set_option maxRecDepth 100000 in
set_option maxHeartbeats 3200000 in
theorem shortest_calls (l : List S39) (hg : goodT l) (hl : l.length ≤ 1000) (one : Bool) (A : Option Addr) (c n : Nat) (hc : l.length ≤ c) (h9 : n ≤ 800) (W : World) (hr : Kd.C k39 W A l.length l) :
    Calls Try.prog 51 #[.int .i64 n, .slice A l.length c, .bool one] W (RgPost W.heap.size (shortR l one n) W) := by
  have HA := Aside0.mk hr
  have HC := Aside0.mk hc
  have HG := Aside0.mk hg
  obtain ⟨S, hS⟩ : ∃ S, shortR l one n = S := ⟨_, rfl⟩
  have HS := Aside0.mk hS
  rw [hS]
  clear hr hc hg hS
  go_enter Try.func51, Try.ntmps51
  go_wp2
  go_loopg [7, 8, 9, 10] (n + 1) (fun gg v7 _ _ _ wr => ∃ k : Nat, 3 ≤ k ∧ n + 1 - k ≤ gg ∧ v7 = .int .i64 k ∧ k ≤ n + 3 ∧ Aside0 (Below W.heap.size W wr) ∧ Aside0 (firstN (sizeR l one) (min k (n + 1)) = none))
  case atStart => exact ⟨3, Nat.le_refl _, by omega, rfl, by omega, ⟨Below.refl _ _⟩, ⟨firstN_none _ fun i hi => by unfold sizeR; rw [if_neg (by omega)]⟩⟩
  case round =>
    obtain ⟨k, hk, hgg, rfl, hkn, HBr, HF⟩ := hrel
    by_cases hlt : k ≤ n
    · have hltz : (k : Int) ≤ (n : Int) := by omega
      have hk9 : k ≤ 1000 := by omega
      have HSK : Aside0 (∀ r, firstN (pairR l one k) l.length = some r → S = some r) := ⟨fun r h => by
        have := HF.out
        rw [show min k (n + 1) = k by omega] at this
        rw [← HS.out, shortR]
        exact firstN_some (by omega) this (by rw [sizeR, if_pos hk]; exact h)⟩
      go_wp2
      go_loopg [8, 9, 10] l.length (fun gg2 v8 _ _ wr => ∃ i : Nat, i ≤ l.length ∧ l.length - i ≤ gg2 ∧ v8 = .int .i64 i ∧ Aside0 (Below W.heap.size W wr) ∧ Aside0 (firstN (pairR l one k) i = none))
      case atStart => exact ⟨0, Nat.zero_le _, by omega, rfl, HBr, ⟨rfl⟩⟩
      case round =>
        clear HBr
        obtain ⟨i, hi, hgg2, rfl, HBr, HP⟩ := hrel
        by_cases hilt : i < l.length
        · have hiltz : (i : Int) < (l.length : Int) := by omega
          obtain ⟨ad, had, _⟩ := at_T39 HA.out (i : Int) (by omega) (by omega)
          subst had
          have hts := HG.out _ (getD_mem z39 hilt)
          obtain ⟨a, ha⟩ := Int.eq_ofNat_of_zero_le hts.1
          obtain ⟨b, hb⟩ := Int.eq_ofNat_of_zero_le (show 0 ≤ (l.getD i z39).f1 by omega)
          rw [ha, hb] at hts
          have ha60 : a < 60 := by omega
          have hb60 : b < 60 := by omega
          have HSO0 : Aside0 (∀ w', Below W.heap.size W w' → w'.cell? (ad.add (i * 3)) = some (.int .i64 (a : Int)) ∧ w'.cell? ⟨(ad.add (i * 3)).block, (ad.add (i * 3)).off + 1, none⟩ = some (.int .i64 (b : Int))) := ⟨fun w' h => by
            obtain ⟨ad', had, hx0, hx1, hx2⟩ := at_T39 (Kd.C_below HA.out h) (i : Int) (by omega) (by omega)
            cases had
            rw [Int.toNat_natCast] at hx0 hx1
            have hrd : rd_T39 l (i : Int) = l.getD i z39 := by simp [rd_T39]
            rw [hrd, ha] at hx0
            rw [hrd, hb] at hx1
            exact ⟨hx0, hx1⟩⟩
          obtain ⟨SS, hSS⟩ : ∃ SS : World → Prop, SS = (fun w' => w'.cell? (ad.add (i * 3)) = some (.int .i64 (a : Int)) ∧ w'.cell? ⟨(ad.add (i * 3)).block, (ad.add (i * 3)).off + 1, none⟩ = some (.int .i64 (b : Int))) := ⟨_, rfl⟩
          have HSS : Aside0 (∀ w', Below W.heap.size W w' → SS w') := ⟨fun w' h => by rw [hSS]; exact HSO0.out w' h⟩
          have HSO : Aside0 (∀ w', SS w' → w'.cell? (ad.add (i * 3)) = some (.int .i64 (a : Int)) ∧ w'.cell? ⟨(ad.add (i * 3)).block, (ad.add (i * 3)).off + 1, none⟩ = some (.int .i64 (b : Int))) := ⟨fun w' h => by rw [hSS] at h; exact h⟩
          obtain ⟨R1, hR1⟩ : ∃ R1, startR l one k i a = R1 := ⟨_, rfl⟩
          obtain ⟨R2, hR2⟩ : ∃ R2, startR l one k i b = R2 := ⟨_, rfl⟩
          have HPI : Aside0 (pairR l one k i = pickR R1 R2) := ⟨by unfold pairR; rw [ha, hb, Int.toNat_natCast, Int.toNat_natCast, hR1, hR2]⟩
          have HL1 : Aside0 (∀ x, R1 = some x → x.length ≤ 1000) := ⟨fun x h => by rw [← hR1] at h; have := ringedR_len _ _ _ _ _ _ _ h; simp at this; omega⟩
          have HR1 := Aside0.mk hR1
          have HR2 := Aside0.mk hR2
          have hwa := two_wrap ha60
          have hwb := two_wrap hb60
          have hi0 : (0 : Int) ≤ (i : Int) := by omega
          clear hR1 hR2 HSO0 hSS ha hb hts
          go_wp2
          refine wp_region_noPanic ?_
          refine wp_region_held_drew (S := SS) (by kernel_rfl) (HSS.out _ (below_drew HBr.out)) (fun hHeld => ?_)
          refine H_on 0 22 ?vp0 rfl rfl (by kernel_rfl) (by kernel_rfl) (by kernel_rfl) (by rfl) ?hp0 hHeld ?rp0
          case hp0 => (intro w hSw; obtain ⟨s0, s1⟩ := HSO.out w hSw; go_simp <;> with_reducible rfl)
          simp only [Act.put, List.setIfInBounds_toArray, List.set_cons_zero, List.set_cons_succ]
          refine H_on 1 23 ?vp1 rfl rfl (by kernel_rfl) (by kernel_rfl) (by kernel_rfl) (by rfl) ?hp1 hHeld ?rp1
          case hp1 => (intro w hSw; obtain ⟨s0, s1⟩ := HSO.out w hSw; go_simp <;> with_reducible rfl)
          simp only [Act.put, List.setIfInBounds_toArray, List.set_cons_zero, List.set_cons_succ]
          refine H_on 2 24 ?vp2 rfl rfl (by kernel_rfl) (by kernel_rfl) (by kernel_rfl) (by rfl) ?hp2 hHeld ?rp2
          case hp2 => (intro w hSw; obtain ⟨s0, s1⟩ := HSO.out w hSw; go_simp <;> with_reducible rfl)
          simp only [Act.put, List.setIfInBounds_toArray, List.set_cons_zero, List.set_cons_succ]
          refine H_on 4 26 ?vp4 rfl rfl (by kernel_rfl) (by kernel_rfl) (by kernel_rfl) (by rfl) ?hp4 hHeld ?rp4
          case hp4 => (intro w hSw; obtain ⟨s0, s1⟩ := HSO.out w hSw; go_simp <;> with_reducible rfl)
          simp only [Act.put, List.setIfInBounds_toArray, List.set_cons_zero, List.set_cons_succ]
          refine H_on 5 27 ?vp5 rfl rfl (by kernel_rfl) (by kernel_rfl) (by kernel_rfl) (by rfl) ?hp5 hHeld ?rp5
          case hp5 => (intro w hSw; obtain ⟨s0, s1⟩ := HSO.out w hSw; go_simp <;> with_reducible rfl)
          simp only [Act.put, List.setIfInBounds_toArray, List.set_cons_zero, List.set_cons_succ]
          refine H_on 6 28 ?vp6 rfl rfl (by kernel_rfl) (by kernel_rfl) (by kernel_rfl) (by rfl) ?hp6 hHeld ?rp6
          case hp6 => (intro w hSw; obtain ⟨s0, s1⟩ := HSO.out w hSw; go_simp <;> with_reducible rfl)
          simp only [Act.put, List.setIfInBounds_toArray, List.set_cons_zero, List.set_cons_succ]
          refine H_on 7 29 ?vp7 rfl rfl (by kernel_rfl) (by kernel_rfl) (by kernel_rfl) (by rfl) ?hp7 hHeld ?rp7
          case hp7 => (intro w hSw; obtain ⟨s0, s1⟩ := HSO.out w hSw; go_simp <;> with_reducible rfl)
          simp only [Act.put, List.setIfInBounds_toArray, List.set_cons_zero, List.set_cons_succ]
          refine H_on 8 30 ?vp8 rfl rfl (by kernel_rfl) (by kernel_rfl) (by kernel_rfl) (by rfl) ?hp8 hHeld ?rp8
          case hp8 => (intro w hSw; obtain ⟨s0, s1⟩ := HSO.out w hSw; go_simp <;> with_reducible rfl)
          simp only [Act.put, List.setIfInBounds_toArray, List.set_cons_zero, List.set_cons_succ]
          refine H_on 9 31 ?vp9 rfl rfl (by kernel_rfl) (by kernel_rfl) (by kernel_rfl) (by rfl) ?hp9 hHeld ?rp9
          case hp9 => (intro w hSw; obtain ⟨s0, s1⟩ := HSO.out w hSw; go_simp <;> with_reducible rfl)
          simp only [Act.put, List.setIfInBounds_toArray, List.set_cons_zero, List.set_cons_succ]
          refine H_on 10 32 ?vp10 rfl rfl (by kernel_rfl) (by kernel_rfl) (by kernel_rfl) (by rfl) ?hp10 hHeld ?rp10
          case hp10 => (intro w hSw; obtain ⟨s0, s1⟩ := HSO.out w hSw; go_simp <;> with_reducible rfl)
          simp only [Act.put, List.setIfInBounds_toArray, List.set_cons_zero, List.set_cons_succ]
          refine H_on 11 33 ?vp11 rfl rfl (by kernel_rfl) (by kernel_rfl) (by kernel_rfl) (by rfl) ?hp11 hHeld ?rp11
          case hp11 => (intro w hSw; obtain ⟨s0, s1⟩ := HSO.out w hSw; go_simp <;> with_reducible rfl)
          simp only [Act.put, List.setIfInBounds_toArray, List.set_cons_zero, List.set_cons_succ]
          refine H_on 12 34 ?vp12 rfl rfl (by kernel_rfl) (by kernel_rfl) (by kernel_rfl) (by rfl) ?hp12 hHeld ?rp12
          case hp12 => (intro w hSw; obtain ⟨s0, s1⟩ := HSO.out w hSw; go_simp <;> with_reducible rfl)
          simp only [Act.put, List.setIfInBounds_toArray, List.set_cons_zero, List.set_cons_succ]
          refine H_on 13 35 ?vp13 rfl rfl (by kernel_rfl) (by kernel_rfl) (by kernel_rfl) (by rfl) ?hp13 hHeld ?rp13
          case hp13 => (intro w hSw; obtain ⟨s0, s1⟩ := HSO.out w hSw; go_simp <;> with_reducible rfl)
          simp only [Act.put, List.setIfInBounds_toArray, List.set_cons_zero, List.set_cons_succ]
          refine H_on 14 36 ?vp14 rfl rfl (by kernel_rfl) (by kernel_rfl) (by kernel_rfl) (by rfl) ?hp14 hHeld ?rp14
          case hp14 => (intro w hSw; obtain ⟨s0, s1⟩ := HSO.out w hSw; go_simp <;> with_reducible rfl)
          simp only [Act.put, List.setIfInBounds_toArray, List.set_cons_zero, List.set_cons_succ]
          refine H_on 15 37 ?vp15 rfl rfl (by kernel_rfl) (by kernel_rfl) (by kernel_rfl) (by rfl) ?hp15 hHeld ?rp15
          case hp15 => (intro w hSw; obtain ⟨s0, s1⟩ := HSO.out w hSw; go_simp <;> with_reducible rfl)
          simp only [Act.put, List.setIfInBounds_toArray, List.set_cons_zero, List.set_cons_succ]
          refine wpAnyH_ready (rs := [3]) (by kernel_rfl) (by simp) ?_
          refine AllReadyH.cons rfl (fun K hK => ?_) AllReadyH.nil
          go_simp
          refine hK.out _ _ (HSS.out _ (below_alloc (below_drew HBr.out) _)) (fun hHeld => ?_)
          clear hK K
          try simp only [Act.put, List.setIfInBounds_toArray, List.set_cons_zero, List.set_cons_succ]
          refine wpAnyH_ready (rs := [16]) (by kernel_rfl) (by simp) ?_
          refine AllReadyH.cons rfl (fun K hK => ?_) AllReadyH.nil
          go_simp
          refine (start_calls l HG.out hl one (some ad) c k i a W.heap.size HC.out hk hk9 ha60 wr.drew (below_drew HBr.out).size (Kd.C_below HA.out (below_alloc (below_drew HBr.out) _)) _ HR1.out).mono ?_
          rintro e w5 ⟨v5, rfl, hR5, hn5, hs5, hb5⟩
          have HRv5 := Aside0.mk hR5
          have HNv5 := Aside0.mk hn5
          have HSv5 := Aside0.mk hs5
          have HBv5 : Aside0 (Below W.heap.size W w5) := ⟨below_then (below_alloc (below_drew HBr.out) _) (below_alloc (below_drew HBr.out) _).size hb5⟩
          have HLv5 := Aside0.mk hb5
          clear hR5 hb5 hn5 hs5
          go_wp2_with fail
          refine hK.out _ _ (HSS.out _ HBv5.out) (fun hHeld => ?_)
          clear hK K
          try simp only [Act.put, List.setIfInBounds_toArray, List.set_cons_zero, List.set_cons_succ]
          refine H_on 17 9 ?vp17 rfl rfl (by kernel_rfl) (by kernel_rfl) (by kernel_rfl) (by rfl) ?hp17 hHeld ?rp17
          case hp17 => (intro w hSw; obtain ⟨s0, s1⟩ := HSO.out w hSw; go_simp <;> with_reducible rfl)
          simp only [Act.put, List.setIfInBounds_toArray, List.set_cons_zero, List.set_cons_succ]
          refine wpAnyH_done (by kernel_rfl) ?_ _
          refine NoPanic.normal ?_
          go_wp2
          refine wp_region_noPanic ?_
          refine wp_region_held_drew (S := SS) (by kernel_rfl) (HSS.out _ (below_drew HBv5.out)) (fun hHeld => ?_)
          refine H_on 0 39 ?vq0 rfl rfl (by kernel_rfl) (by kernel_rfl) (by kernel_rfl) (by rfl) ?hq0 hHeld ?rq0
          case hq0 => (intro w hSw; obtain ⟨s0, s1⟩ := HSO.out w hSw; go_simp <;> with_reducible rfl)
          simp only [Act.put, List.setIfInBounds_toArray, List.set_cons_zero, List.set_cons_succ]
          refine H_on 1 40 ?vq1 rfl rfl (by kernel_rfl) (by kernel_rfl) (by kernel_rfl) (by rfl) ?hq1 hHeld ?rq1
          case hq1 => (intro w hSw; obtain ⟨s0, s1⟩ := HSO.out w hSw; go_simp <;> with_reducible rfl)
          simp only [Act.put, List.setIfInBounds_toArray, List.set_cons_zero, List.set_cons_succ]
          refine H_on 2 41 ?vq2 rfl rfl (by kernel_rfl) (by kernel_rfl) (by kernel_rfl) (by rfl) ?hq2 hHeld ?rq2
          case hq2 => (intro w hSw; obtain ⟨s0, s1⟩ := HSO.out w hSw; go_simp <;> with_reducible rfl)
          simp only [Act.put, List.setIfInBounds_toArray, List.set_cons_zero, List.set_cons_succ]
          refine H_on 4 43 ?vq4 rfl rfl (by kernel_rfl) (by kernel_rfl) (by kernel_rfl) (by rfl) ?hq4 hHeld ?rq4
          case hq4 => (intro w hSw; obtain ⟨s0, s1⟩ := HSO.out w hSw; go_simp <;> with_reducible rfl)
          simp only [Act.put, List.setIfInBounds_toArray, List.set_cons_zero, List.set_cons_succ]
          refine H_on 5 44 ?vq5 rfl rfl (by kernel_rfl) (by kernel_rfl) (by kernel_rfl) (by rfl) ?hq5 hHeld ?rq5
          case hq5 => (intro w hSw; obtain ⟨s0, s1⟩ := HSO.out w hSw; go_simp <;> with_reducible rfl)
          simp only [Act.put, List.setIfInBounds_toArray, List.set_cons_zero, List.set_cons_succ]
          refine H_on 6 45 ?vq6 rfl rfl (by kernel_rfl) (by kernel_rfl) (by kernel_rfl) (by rfl) ?hq6 hHeld ?rq6
          case hq6 => (intro w hSw; obtain ⟨s0, s1⟩ := HSO.out w hSw; go_simp <;> with_reducible rfl)
          simp only [Act.put, List.setIfInBounds_toArray, List.set_cons_zero, List.set_cons_succ]
          refine H_on 7 46 ?vq7 rfl rfl (by kernel_rfl) (by kernel_rfl) (by kernel_rfl) (by rfl) ?hq7 hHeld ?rq7
          case hq7 => (intro w hSw; obtain ⟨s0, s1⟩ := HSO.out w hSw; go_simp <;> with_reducible rfl)
          simp only [Act.put, List.setIfInBounds_toArray, List.set_cons_zero, List.set_cons_succ]
          refine H_on 8 47 ?vq8 rfl rfl (by kernel_rfl) (by kernel_rfl) (by kernel_rfl) (by rfl) ?hq8 hHeld ?rq8
          case hq8 => (intro w hSw; obtain ⟨s0, s1⟩ := HSO.out w hSw; go_simp <;> with_reducible rfl)
          simp only [Act.put, List.setIfInBounds_toArray, List.set_cons_zero, List.set_cons_succ]
          refine H_on 9 48 ?vq9 rfl rfl (by kernel_rfl) (by kernel_rfl) (by kernel_rfl) (by rfl) ?hq9 hHeld ?rq9
          case hq9 => (intro w hSw; obtain ⟨s0, s1⟩ := HSO.out w hSw; go_simp <;> with_reducible rfl)
          simp only [Act.put, List.setIfInBounds_toArray, List.set_cons_zero, List.set_cons_succ]
          refine H_on 10 49 ?vq10 rfl rfl (by kernel_rfl) (by kernel_rfl) (by kernel_rfl) (by rfl) ?hq10 hHeld ?rq10
          case hq10 => (intro w hSw; obtain ⟨s0, s1⟩ := HSO.out w hSw; go_simp <;> with_reducible rfl)
          simp only [Act.put, List.setIfInBounds_toArray, List.set_cons_zero, List.set_cons_succ]
          refine H_on 11 50 ?vq11 rfl rfl (by kernel_rfl) (by kernel_rfl) (by kernel_rfl) (by rfl) ?hq11 hHeld ?rq11
          case hq11 => (intro w hSw; obtain ⟨s0, s1⟩ := HSO.out w hSw; go_simp <;> with_reducible rfl)
          simp only [Act.put, List.setIfInBounds_toArray, List.set_cons_zero, List.set_cons_succ]
          refine H_on 12 51 ?vq12 rfl rfl (by kernel_rfl) (by kernel_rfl) (by kernel_rfl) (by rfl) ?hq12 hHeld ?rq12
          case hq12 => (intro w hSw; obtain ⟨s0, s1⟩ := HSO.out w hSw; go_simp <;> with_reducible rfl)
          simp only [Act.put, List.setIfInBounds_toArray, List.set_cons_zero, List.set_cons_succ]
          refine H_on 13 52 ?vq13 rfl rfl (by kernel_rfl) (by kernel_rfl) (by kernel_rfl) (by rfl) ?hq13 hHeld ?rq13
          case hq13 => (intro w hSw; obtain ⟨s0, s1⟩ := HSO.out w hSw; go_simp <;> with_reducible rfl)
          simp only [Act.put, List.setIfInBounds_toArray, List.set_cons_zero, List.set_cons_succ]
          refine H_on 14 53 ?vq14 rfl rfl (by kernel_rfl) (by kernel_rfl) (by kernel_rfl) (by rfl) ?hq14 hHeld ?rq14
          case hq14 => (intro w hSw; obtain ⟨s0, s1⟩ := HSO.out w hSw; go_simp <;> with_reducible rfl)
          simp only [Act.put, List.setIfInBounds_toArray, List.set_cons_zero, List.set_cons_succ]
          refine H_on 15 54 ?vq15 rfl rfl (by kernel_rfl) (by kernel_rfl) (by kernel_rfl) (by rfl) ?hq15 hHeld ?rq15
          case hq15 => (intro w hSw; obtain ⟨s0, s1⟩ := HSO.out w hSw; go_simp <;> with_reducible rfl)
          simp only [Act.put, List.setIfInBounds_toArray, List.set_cons_zero, List.set_cons_succ]
          refine wpAnyH_ready (rs := [3]) (by kernel_rfl) (by simp) ?_
          refine AllReadyH.cons rfl (fun K hK => ?_) AllReadyH.nil
          go_simp
          refine hK.out _ _ (HSS.out _ (below_alloc (below_drew HBv5.out) _)) (fun hHeld => ?_)
          clear hK K
          try simp only [Act.put, List.setIfInBounds_toArray, List.set_cons_zero, List.set_cons_succ]
          refine wpAnyH_ready (rs := [16]) (by kernel_rfl) (by simp) ?_
          refine AllReadyH.cons rfl (fun K hK => ?_) AllReadyH.nil
          go_simp
          refine (start_calls l HG.out hl one (some ad) c k i b W.heap.size HC.out hk hk9 hb60 w5.drew (below_drew HBv5.out).size (Kd.C_below HA.out (below_alloc (below_drew HBv5.out) _)) _ HR2.out).mono ?_
          rintro e w7 ⟨v7, rfl, hR5, hn5, hs5, hb5⟩
          have HRv7 := Aside0.mk hR5
          have HNv7 := Aside0.mk hn5
          have HSv7 := Aside0.mk hs5
          have HBv7 : Aside0 (Below W.heap.size W w7) := ⟨below_then (below_alloc (below_drew HBv5.out) _) (below_alloc (below_drew HBv5.out) _).size hb5⟩
          have HLv7 := Aside0.mk hb5
          clear hR5 hb5 hn5 hs5
          go_wp2_with fail
          refine hK.out _ _ (HSS.out _ HBv7.out) (fun hHeld => ?_)
          clear hK K
          try simp only [Act.put, List.setIfInBounds_toArray, List.set_cons_zero, List.set_cons_succ]
          refine H_on 17 10 ?vq17 rfl rfl (by kernel_rfl) (by kernel_rfl) (by kernel_rfl) (by rfl) ?hq17 hHeld ?rq17
          case hq17 => (intro w hSw; obtain ⟨s0, s1⟩ := HSO.out w hSw; go_simp <;> with_reducible rfl)
          simp only [Act.put, List.setIfInBounds_toArray, List.set_cons_zero, List.set_cons_succ]
          refine wpAnyH_done (by kernel_rfl) ?_ _
          refine NoPanic.normal ?_

          have HR9 : Aside0 (Kd.R (Kd.int .i64) 3 w7 W.heap.size (fun _ => True) v5 (R1.getD [])) := ⟨Kd.R_below HRv5.out (((below_alloc (below_drew (Below.refl w5.heap.size w5)) _)).trans (HLv7.out.mono (below_alloc (below_drew (Below.refl w5.heap.size w5)) _).size))⟩
          clear HSS HSO HRv5
          cases R1 with
          | none =>
            have hv5 := HNv5.out rfl
            subst hv5
            have hnil := fun (w : World) => run_neq_slice_nil_any w 28 3 none 0 0 0 0 Try.underlying28
            cases R2 with
            | none =>
              have hv7 := HNv7.out rfl
              subst hv7
              go_wp2
              go_roundg (l.length - (i + 1))
              case measure => omega
              case rel => exact ⟨i + 1, by omega, by omega, by go_num, HBv7, ⟨by rw [firstN_succ_none HP.out, HPI.out]; rfl⟩⟩
            | some y =>
              obtain ⟨b7, n7, c7, hv7⟩ := HSv7.out (by simp)
              subst hv7
              have hnil7 := fun (w : World) => run_neq_slice_nil_any w 28 3 (some b7) n7 c7 0 0 Try.underlying28
              go_wp2
              go_ret
              have hfin : S = some y := HSK.out _ (firstN_some hilt HP.out HPI.out)
              subst hfin
              exact ⟨_, rfl, HRv7.out, (fun h => by cases h), fun _ => ⟨_, _, _, rfl⟩, HBv7.out⟩
          | some x =>
            obtain ⟨b5, n5, c5, hv5⟩ := HSv5.out (by simp)
            subst hv5
            have hnil := fun (w : World) => run_neq_slice_nil_any w 28 3 (some b5) n5 c5 0 0 Try.underlying28
            cases R2 with
            | none =>
              have hv7 := HNv7.out rfl
              subst hv7
              have hnil7 := fun (w : World) => run_neq_slice_nil_any w 28 3 none 0 0 0 0 Try.underlying28
              have hnil8 := fun (w : World) => run_eql_slice_nil w 28 3 none 0 0 Try.underlying28
              go_wp2
              go_ret
              have hfin : S = some x := HSK.out _ (firstN_some hilt HP.out HPI.out)
              subst hfin
              exact ⟨_, rfl, HR9.out, (fun h => by cases h), fun _ => ⟨_, _, _, rfl⟩, HBv7.out⟩
            | some y =>
              obtain ⟨b7, n7, c7, hv7⟩ := HSv7.out (by simp)
              subst hv7
              have hnil7 := fun (w : World) => run_neq_slice_nil_any w 28 3 (some b7) n7 c7 0 0 Try.underlying28
              have hnil8 := fun (w : World) => run_eql_slice_nil w 28 3 (some b7) n7 c7 Try.underlying28
              cases hX : lessB x y with
              | true =>
                have HX := Aside0.mk hX
                clear hX
                go_wp2_with (go_at_call 41; refine (less_calls (W0 := W) HR9.out HRv7.out (HL1.out x rfl) true HX.out HBv7.out).mono ?_; rintro e w8 ⟨rfl, hb8⟩; have HB8 := Aside0.mk hb8; clear hb8)
                go_ret
                have hfin : S = some x := HSK.out _ (firstN_some hilt HP.out (by rw [HPI.out]; exact if_pos HX.out))
                subst hfin
                exact ⟨_, rfl, Kd.R_below HR9.out HB8.out, (fun h => by cases h), fun _ => ⟨_, _, _, rfl⟩, below_then HBv7.out HBv7.out.size HB8.out⟩
              | false =>
                have HX := Aside0.mk hX
                clear hX
                go_wp2_with (go_at_call 41; refine (less_calls (W0 := W) HR9.out HRv7.out (HL1.out x rfl) false HX.out HBv7.out).mono ?_; rintro e w8 ⟨rfl, hb8⟩; have HB8 := Aside0.mk hb8; clear hb8)
                go_ret
                have hfin : S = some y := HSK.out _ (firstN_some hilt HP.out (by rw [HPI.out]; exact if_neg (by rw [HX.out]; exact Bool.false_ne_true)))
                subst hfin
                exact ⟨_, rfl, Kd.R_below HRv7.out HB8.out, (fun h => by cases h), fun _ => ⟨_, _, _, rfl⟩, below_then HBv7.out HBv7.out.size HB8.out⟩
        · have hiltz : ¬ (i : Int) < (l.length : Int) := by omega
          have him : i = l.length := by omega
          have HSN : Aside0 (sizeR l one k = none) := ⟨by rw [sizeR, if_pos hk, ← him]; exact HP.out⟩
          go_wp2
          go_roundg (n + 1 - (k + 1))
          case measure => omega
          case rel =>
            refine ⟨k + 1, by omega, by omega, by go_num, by omega, HBr, ⟨?_⟩⟩
            have := HF.out
            rw [show min k (n + 1) = k by omega] at this
            rw [show min (k + 1) (n + 1) = k + 1 by omega, firstN_succ_none this]
            exact HSN.out
    · have hltz : ¬ (k : Int) ≤ (n : Int) := by omega
      have HZ0 : Aside0 (S = none) := ⟨by rw [← HS.out, shortR, ← HF.out, show min k (n + 1) = n + 1 by omega]⟩
      go_wp2
      go_ret
      exact ⟨_, rfl, by rw [HZ0.out]; exact Kd.R_nil _ _ _ _ _, fun _ => rfl, fun h => absurd HZ0.out h, HBr.out⟩
end Go.Proofs.Ytaegldcifhgnmaa.B

/- The specification's put: a row is put into an ascending list of rows. -/
namespace Go.Proofs.Ytaegldcifhgnmaa.B
open Go.Proofs.Ytaegldcifhgnmaa.A
open Go.RowKit Go.Proofs.YtaegldcifhgnmaaW.PrintWords Go.Proofs.YtaegldcifhgnmaaW.PrintMore

def Asc (xs : List RowT) : Prop := xs.Pairwise fun x y => cmpL x.2 y.2 ≤ 0
theorem asc_put {xs : List RowT} {y : RowT} {k : Nat} (hk : k ≤ xs.length) (h1 : ∀ j, j < k → lessB (xs.getD j default).2 y.2 = true) (h2 : k < xs.length → lessB (xs.getD k default).2 y.2 = false) :
    (xs.take k ++ [y] ++ xs.drop k).Perm (y :: xs) ∧ (Asc xs → Asc (xs.take k ++ [y] ++ xs.drop k)) := by
  have hget : ∀ j (h : j < xs.length), xs.getD j default = xs[j] := fun j h => by rw [List.getD_eq_getElem?_getD, List.getElem?_eq_getElem h]; rfl
  refine ⟨?_, fun h => ?_⟩
  · have h3 : (xs.take k ++ [y] ++ xs.drop k).Perm ([y] ++ xs.take k ++ xs.drop k) := List.perm_append_comm.append_right _
    rw [List.append_assoc [y], List.take_append_drop] at h3
    exact h3
  · unfold Asc at h ⊢
    rw [← List.take_append_drop k xs] at h
    obtain ⟨ha, hb, hc⟩ := List.pairwise_append.mp h
    have low : ∀ x ∈ xs.take k, cmpL x.2 y.2 ≤ 0 := fun x hx => by
      obtain ⟨j, hj, e⟩ := List.getElem_of_mem hx
      have hj' : j < k := by rw [List.length_take] at hj; omega
      have := h1 j hj'
      rw [hget j (by omega)] at this
      rw [List.getElem_take] at e
      rw [e] at this
      unfold lessB at this
      have := of_decide_eq_true this
      omega
    have high : ∀ x ∈ xs.drop k, cmpL y.2 x.2 ≤ 0 := fun x hx => by
      have hk' : k < xs.length := by
        rcases Nat.lt_or_ge k xs.length with h | h
        · exact h
        · rw [List.drop_eq_nil_of_le h] at hx; cases hx
      have h4 := h2 hk'
      rw [hget k hk'] at h4
      unfold lessB at h4
      have h5 := of_decide_eq_false h4
      have h6 := cmpL_swap xs[k].2 y.2
      rw [List.drop_eq_getElem_cons hk'] at hx hb
      rcases List.mem_cons.mp hx with e | e
      · rw [e]; omega
      · exact cmpL_trans _ _ _ (by omega) ((List.pairwise_cons.mp hb).1 x e)
    refine List.pairwise_append.mpr ⟨List.pairwise_append.mpr ⟨ha, List.pairwise_singleton _ _, fun x hx z hz => by rw [List.mem_singleton.mp hz]; exact low x hx⟩, hb, fun x hx z hz => ?_⟩
    rcases List.mem_append.mp hx with hx | hx
    · exact hc x hx z hz
    · rw [List.mem_singleton.mp hx]; exact high z hz

theorem row_read {w : World} {A : Option Addr} {xs : List RowT} (h : kR.C w A xs.length xs) {k : Nat} (hk : k ≤ xs.length) : ReadsRow (fun (x : RowT) cs => cs = [encR x]) kR.sz w A k (xs.take k) := by
  have := Kd.C_take h hk
  rw [List.length_take, Nat.min_eq_left hk] at this
  exact this
theorem row_drop {w : World} {ad : Addr} {c : Nat} {xs : List RowT} (h : kR.C w (some ad) xs.length xs) {k : Nat} (hk : k < xs.length) (hc : xs.length ≤ c) : ReadsRow (fun (x : RowT) cs => cs = [encR x]) kR.sz w (some (ad.add k)) (xs.length - k) (xs.drop k) := by
  have := Kd.C_drop h (Nat.le_of_lt hk) hc
  rw [if_neg (by omega), List.length_drop, show kR.sz = 1 from rfl, Nat.mul_one] at this
  exact this
theorem row_none {w : World} {A : Option Addr} {R : RowT → List Value → Prop} {n : Nat} : ReadsRow R n w A 0 ([] : List RowT) := ⟨rfl, Nat.zero_le _, fun h => absurd h (Nat.lt_irrefl _)⟩
theorem R_nil_or {e : Nat} {W : World} {B : Nat} {A : Option Addr} {c : Nat} {xs : List RowT} (h : kR.R e W B (fun _ => True) (.slice A xs.length c) xs) : (A = none ∧ xs = [] ∧ c = 0) ∨ ∃ ad, A = some ad := by
  rcases (Kd.own_of_R h).2 with ⟨h0, h1⟩ | ⟨g', cap', cur, hv, _⟩
  · injection h0 with h2 h3 h4
    exact .inl ⟨h2, List.eq_nil_of_length_eq_zero h3, h4⟩
  · injection hv with h2
    exact .inr ⟨_, h2⟩
theorem less_rows {w : World} {g1 c1 g2 c2 : Nat} {a b : List Int} (h1 : RowOk w ((g1, c1), a)) (h2 : RowOk w ((g2, c2), b)) (X : Bool) (hX : lessB a b = X) :
    Calls Try.prog 41 #[.slice (some ⟨g1, 0, none⟩) a.length c1, .slice (some ⟨g2, 0, none⟩) b.length c2] w fun e w' => e = .returned (.bool X) ∧ Below w.heap.size w w' := by
  obtain ⟨k, hk⟩ := (less_ev a b h1.2.1).rounds
  rw [hX] at hk
  exact (drovewayref09_Less.calls k _ c1 a _ c2 b X w h1.2.2.2.2 h1.2.2.1 h2.2.2.2.2 h2.2.2.1 hk).mono fun _ _ ⟨p, q⟩ => ⟨p, q.below⟩

def PutPost (B : Nat) (y : RowT) (xs : List RowT) (W : World) (e : Ending) (w' : World) : Prop :=
  ∃ (v : Value) (ys : List RowT), e = .returned v ∧ kR.R 28 w' B (fun _ => True) v ys ∧ ys.Perm (y :: xs) ∧ (Asc xs → Asc ys) ∧ Below W.heap.size W w'

set_option maxRecDepth 100000 in
set_option maxHeartbeats 1600000 in
theorem put_calls (A : Option Addr) (c : Nat) (xs : List RowT) (g cap : Nat) (b : List Int) (B : Nat) (W : World) (hr : kR.R 28 W B (fun _ => True) (.slice A xs.length c) xs) (hB : B ≤ W.heap.size) (hx : xs.length ≤ 1000000000000) (hok : ∀ x ∈ xs, RowOk W x) (hb : RowOk W ((g, cap), b)) :
    Calls Try.prog 101 #[.slice A xs.length c, .slice (some ⟨g, 0, none⟩) b.length cap] W (PutPost B ((g, cap), b) xs W) := by
  obtain ⟨_, hcl, hC⟩ := Kd.R_reads' hr
  have HR := Aside0.mk hr
  have HC := Aside0.mk hC
  have HOK := Aside0.mk hok
  have HBO := Aside0.mk hb
  clear hr hC hok hb
  go_enter Try.func101, Try.ntmps101
  go_wp2
  go_loopg [6] xs.length (fun gg v6 wr => ∃ k : Nat, k ≤ xs.length ∧ xs.length - k ≤ gg ∧ v6 = .int .i64 k ∧ Aside0 (∀ j, j < k → lessB (xs.getD j default).2 b = true) ∧ Aside0 (Below W.heap.size W wr))
  case atStart => exact ⟨0, Nat.zero_le _, by omega, rfl, ⟨fun j h => absurd h (Nat.not_lt_zero _)⟩, ⟨Below.refl _ _⟩⟩
  case round =>
    obtain ⟨k, hk, hgg, rfl, HL, HBr⟩ := hrel
    by_cases hkl : k < xs.length
    · have hklz : (k : Int) < (xs.length : Int) := by omega
      obtain ⟨ad, had, hx0⟩ := ReadsOf.at_ (Kd.reads_of_C (d := default) (Kd.C_below HC.out HBr.out)) (k : Int) (by omega) (by omega)
      subst had
      rw [Int.toNat_natCast] at hx0
      have hrd : rdOf default xs (k : Int) = xs.getD k default := by simp [rdOf]
      rw [hrd] at hx0
      have hmem : xs.getD k default ∈ xs := getD_mem default hkl
      generalize hy : xs.getD k default = y at hx0 hmem
      have HY := Aside0.mk hy
      have HMO := Aside0.mk ((HOK.out _ hmem).below HBr.out)
      have HBO2 := Aside0.mk (HBO.out.below HBr.out)
      obtain ⟨⟨yg, yc⟩, yb⟩ := y
      have hx2 : wr.cell? (ad.add k) = some (.slice (some ⟨yg, 0, none⟩) yb.length yc) := hx0
      clear hx0 hmem hrd hy
      cases hX : lessB yb b with
      | true =>
        have HX := Aside0.mk hX
        go_wp2_with (go_at_call 41; go_must (refine (less_rows HMO.out HBO2.out true HX.out).mono ?_; rintro e w2 ⟨rfl, hb2⟩; have HB2 := Aside0.mk (below_then HBr.out HBr.out.size hb2); clear hb2))
        go_roundg (xs.length - (k + 1))
        case measure => omega
        case rel => exact ⟨k + 1, by omega, by omega, by go_num, ⟨fun j hj => by
          rcases Nat.lt_or_ge j k with h | h
          · exact HL.out j h
          · rw [show j = k by omega, HY.out]; exact HX.out⟩, HB2⟩
      | false =>
        have HX := Aside0.mk hX
        have HS := Aside0.mk (asc_put (y := ((g, cap), b)) hk HL.out (fun _ => by rw [HY.out]; exact HX.out))
        go_wp2_with (first
          | (go_at_call 41; go_must (refine (less_rows HMO.out HBO2.out false HX.out).mono ?_; rintro e w2 ⟨rfl, hb2⟩; have HB2 := Aside0.mk (below_then HBr.out HBr.out.size hb2); clear hb2))
          | (at_builtin; (refine Kd.R_append_rows kR (Rr := fun (x : RowT) cs => cs = [encR x]) (w0 := w2) W.heap.size rfl (.tmp 21) (.tmp 24) 53 28 (.slice none 0 0) 24 rfl Try.underlying53 info28 rfl (by decide) (by decide) (.slice none 0 0) [] (xs.take k) (some ad) k c (fun _ => True) (fun _ => False) rfl rfl (Kd.R_nil _ _ _ _ _) (row_read (Kd.C_below HC.out HB2.out) (by omega)) (fun _ _ h => h) (fun _ hk => hk.elim) (fun _ _ => trivial) (Below.refl _ _) (HB2.out).size (by simp <;> omega) ?_; intro v5 w5 ho _ hg5 hat5; rw [List.nil_append] at ho; have HO5 := Aside0.mk ho; obtain ⟨A5, c5, hv5, hc5, _⟩ := Kd.R_reads ho; rw [List.length_take, Nat.min_eq_left (by omega)] at hv5 hc5; subst hv5; have HB5 : Aside0 (Below W.heap.size W w5) := ⟨below_then (HB2.out) (HB2.out).size ⟨hg5.os, hg5.tape, hg5.output, hg5.size, fun j hj => hg5.block j hj (by simp [Value.ownBlock])⟩⟩; clear ho hg5 hat5))
          | (at_builtin; (refine Kd.R_append kR (w0 := w5) W.heap.size rfl (.tmp 26) (.tmp 28) 53 28 (.slice none 0 0) 24 rfl Try.underlying53 info28 rfl (by decide) (by decide) (.slice A5 k c5) (xs.take k) ((g, cap), b) [encR ((g, cap), b)] (fun _ => True) (fun _ => False) rfl rfl rfl (fun _ hk => hk.elim) (fun _ _ => trivial) HO5.out (Below.refl _ _) HB5.out.size (by simp <;> omega) ?_; intro v6 w6 ho _ hg6 hat6; have HO6 := Aside0.mk ho; have HB6 : Aside0 (Below W.heap.size W w6) := ⟨HB5.out.grown hg6 HB5.out.size (fun j hj => Kd.R_base HO5.out j hj)⟩; obtain ⟨A6, c6, hv6, hc6, _⟩ := Kd.R_reads ho; rw [List.length_append, List.length_singleton, List.length_take, Nat.min_eq_left (by omega)] at hv6 hc6; subst hv6; clear ho hg6 hat6))
          | (at_builtin; (refine Kd.R_append_rows kR (Rr := fun (x : RowT) cs => cs = [encR x]) (w0 := w6) W.heap.size rfl (.tmp 30) (.tmp 33) 53 28 (.slice none 0 0) 24 rfl Try.underlying53 info28 rfl (by decide) (by decide) (.slice A6 (k + 1) c6) (xs.take k ++ [((g, cap), b)]) (xs.drop k) _ _ _ (fun _ => True) (fun _ => False) rfl rfl HO6.out (by exact row_drop (Kd.C_below HC.out HB6.out) hkl hcl) (fun _ _ h => h) (fun _ hk => hk.elim) (fun _ _ => trivial) (Below.refl _ _) HB6.out.size (by simp <;> omega) ?_; intro v7 w7 ho _ hg7 hat7; have HO7 := Aside0.mk ho; have HB7 : Aside0 (Below W.heap.size W w7) := ⟨HB6.out.grown hg7 HB6.out.size (fun j hj => Kd.R_base HO6.out j hj)⟩; clear ho hg7 hat7)))
        go_ret
        exact ⟨_, _, rfl, Kd.R_lower HO7.out hB, HS.out.1, HS.out.2, HB7.out⟩
    · have hklz : ¬ (k : Int) < (xs.length : Int) := by omega
      have HS := Aside0.mk (asc_put (y := ((g, cap), b)) hk HL.out (fun h => absurd h hkl))
      obtain rfl : k = xs.length := by omega
      rcases R_nil_or HR.out with ⟨rfl, hx0, hc0⟩ | ⟨ad, rfl⟩
      · subst hx0 hc0
        go_wp2_with (first
          | (at_builtin; (refine Kd.R_append_rows kR (Rr := fun (x : RowT) cs => cs = [encR x]) (w0 := wr) W.heap.size rfl (.tmp 21) (.tmp 24) 53 28 (.slice none 0 0) 24 rfl Try.underlying53 info28 rfl (by decide) (by decide) (.slice none 0 0) [] (([] : List RowT).take 0) none 0 0 (fun _ => True) (fun _ => False) rfl rfl (Kd.R_nil _ _ _ _ _) (row_read (Kd.C_below HC.out HBr.out) (by omega)) (fun _ _ h => h) (fun _ hk => hk.elim) (fun _ _ => trivial) (Below.refl _ _) (HBr.out).size (by simp <;> omega) ?_; intro v5 w5 ho _ hg5 hat5; rw [List.nil_append] at ho; have HO5 := Aside0.mk ho; obtain ⟨A5, c5, hv5, hc5, _⟩ := Kd.R_reads ho; rw [List.length_take, Nat.min_eq_left (by omega)] at hv5 hc5; subst hv5; have HB5 : Aside0 (Below W.heap.size W w5) := ⟨below_then (HBr.out) (HBr.out).size ⟨hg5.os, hg5.tape, hg5.output, hg5.size, fun j hj => hg5.block j hj (by simp [Value.ownBlock])⟩⟩; clear ho hg5 hat5))
          | (at_builtin; (refine Kd.R_append kR (w0 := w5) W.heap.size rfl (.tmp 26) (.tmp 28) 53 28 (.slice none 0 0) 24 rfl Try.underlying53 info28 rfl (by decide) (by decide) (.slice A5 0 c5) (([] : List RowT).take 0) ((g, cap), b) [encR ((g, cap), b)] (fun _ => True) (fun _ => False) rfl rfl rfl (fun _ hk => hk.elim) (fun _ _ => trivial) HO5.out (Below.refl _ _) HB5.out.size (by simp <;> omega) ?_; intro v6 w6 ho _ hg6 hat6; have HO6 := Aside0.mk ho; have HB6 : Aside0 (Below W.heap.size W w6) := ⟨HB5.out.grown hg6 HB5.out.size (fun j hj => Kd.R_base HO5.out j hj)⟩; obtain ⟨A6, c6, hv6, hc6, _⟩ := Kd.R_reads ho; rw [List.length_append, List.length_singleton, List.length_take, Nat.min_eq_left (by omega)] at hv6 hc6; subst hv6; clear ho hg6 hat6))
          | (at_builtin; (refine Kd.R_append_rows kR (Rr := fun (x : RowT) cs => cs = [encR x]) (w0 := w6) W.heap.size rfl (.tmp 30) (.tmp 33) 53 28 (.slice none 0 0) 24 rfl Try.underlying53 info28 rfl (by decide) (by decide) (.slice A6 (0 + 1) c6) (([] : List RowT).take 0 ++ [((g, cap), b)]) (([] : List RowT).drop 0) _ _ _ (fun _ => True) (fun _ => False) rfl rfl HO6.out (by exact row_none) (fun _ _ h => h) (fun _ hk => hk.elim) (fun _ _ => trivial) (Below.refl _ _) HB6.out.size (by simp <;> omega) ?_; intro v7 w7 ho _ hg7 hat7; have HO7 := Aside0.mk ho; have HB7 : Aside0 (Below W.heap.size W w7) := ⟨HB6.out.grown hg7 HB6.out.size (fun j hj => Kd.R_base HO6.out j hj)⟩; clear ho hg7 hat7)))
        go_ret
        exact ⟨_, _, rfl, Kd.R_lower HO7.out hB, HS.out.1, HS.out.2, HB7.out⟩
      · by_cases hck : c = xs.length
        · subst hck
          go_wp2_with (first
          | (at_builtin; (refine Kd.R_append_rows kR (Rr := fun (x : RowT) cs => cs = [encR x]) (w0 := wr) W.heap.size rfl (.tmp 21) (.tmp 24) 53 28 (.slice none 0 0) 24 rfl Try.underlying53 info28 rfl (by decide) (by decide) (.slice none 0 0) [] (xs.take xs.length) (some ad) xs.length xs.length (fun _ => True) (fun _ => False) rfl rfl (Kd.R_nil _ _ _ _ _) (row_read (Kd.C_below HC.out HBr.out) (by omega)) (fun _ _ h => h) (fun _ hk => hk.elim) (fun _ _ => trivial) (Below.refl _ _) (HBr.out).size (by simp <;> omega) ?_; intro v5 w5 ho _ hg5 hat5; rw [List.nil_append] at ho; have HO5 := Aside0.mk ho; obtain ⟨A5, c5, hv5, hc5, _⟩ := Kd.R_reads ho; rw [List.length_take, Nat.min_eq_left (by omega)] at hv5 hc5; subst hv5; have HB5 : Aside0 (Below W.heap.size W w5) := ⟨below_then (HBr.out) (HBr.out).size ⟨hg5.os, hg5.tape, hg5.output, hg5.size, fun j hj => hg5.block j hj (by simp [Value.ownBlock])⟩⟩; clear ho hg5 hat5))
          | (at_builtin; (refine Kd.R_append kR (w0 := w5) W.heap.size rfl (.tmp 26) (.tmp 28) 53 28 (.slice none 0 0) 24 rfl Try.underlying53 info28 rfl (by decide) (by decide) (.slice A5 xs.length c5) (xs.take xs.length) ((g, cap), b) [encR ((g, cap), b)] (fun _ => True) (fun _ => False) rfl rfl rfl (fun _ hk => hk.elim) (fun _ _ => trivial) HO5.out (Below.refl _ _) HB5.out.size (by simp <;> omega) ?_; intro v6 w6 ho _ hg6 hat6; have HO6 := Aside0.mk ho; have HB6 : Aside0 (Below W.heap.size W w6) := ⟨HB5.out.grown hg6 HB5.out.size (fun j hj => Kd.R_base HO5.out j hj)⟩; obtain ⟨A6, c6, hv6, hc6, _⟩ := Kd.R_reads ho; rw [List.length_append, List.length_singleton, List.length_take, Nat.min_eq_left (by omega)] at hv6 hc6; subst hv6; clear ho hg6 hat6))
          | (at_builtin; (refine Kd.R_append_rows kR (Rr := fun (x : RowT) cs => cs = [encR x]) (w0 := w6) W.heap.size rfl (.tmp 30) (.tmp 33) 53 28 (.slice none 0 0) 24 rfl Try.underlying53 info28 rfl (by decide) (by decide) (.slice A6 (xs.length + 1) c6) (xs.take xs.length ++ [((g, cap), b)]) (xs.drop xs.length) _ _ _ (fun _ => True) (fun _ => False) rfl rfl HO6.out (by rw [List.drop_length]; first | exact row_none | (rw [Nat.sub_self]; exact row_none)) (fun _ _ h => h) (fun _ hk => hk.elim) (fun _ _ => trivial) (Below.refl _ _) HB6.out.size (by simp <;> omega) ?_; intro v7 w7 ho _ hg7 hat7; have HO7 := Aside0.mk ho; have HB7 : Aside0 (Below W.heap.size W w7) := ⟨HB6.out.grown hg7 HB6.out.size (fun j hj => Kd.R_base HO6.out j hj)⟩; clear ho hg7 hat7)))
          go_ret
          exact ⟨_, _, rfl, Kd.R_lower HO7.out hB, HS.out.1, HS.out.2, HB7.out⟩
        · have hcl2 : xs.length < c := by omega
          go_wp2_with (first
          | (at_builtin; (refine Kd.R_append_rows kR (Rr := fun (x : RowT) cs => cs = [encR x]) (w0 := wr) W.heap.size rfl (.tmp 21) (.tmp 24) 53 28 (.slice none 0 0) 24 rfl Try.underlying53 info28 rfl (by decide) (by decide) (.slice none 0 0) [] (xs.take xs.length) (some ad) xs.length c (fun _ => True) (fun _ => False) rfl rfl (Kd.R_nil _ _ _ _ _) (row_read (Kd.C_below HC.out HBr.out) (by omega)) (fun _ _ h => h) (fun _ hk => hk.elim) (fun _ _ => trivial) (Below.refl _ _) (HBr.out).size (by simp <;> omega) ?_; intro v5 w5 ho _ hg5 hat5; rw [List.nil_append] at ho; have HO5 := Aside0.mk ho; obtain ⟨A5, c5, hv5, hc5, _⟩ := Kd.R_reads ho; rw [List.length_take, Nat.min_eq_left (by omega)] at hv5 hc5; subst hv5; have HB5 : Aside0 (Below W.heap.size W w5) := ⟨below_then (HBr.out) (HBr.out).size ⟨hg5.os, hg5.tape, hg5.output, hg5.size, fun j hj => hg5.block j hj (by simp [Value.ownBlock])⟩⟩; clear ho hg5 hat5))
          | (at_builtin; (refine Kd.R_append kR (w0 := w5) W.heap.size rfl (.tmp 26) (.tmp 28) 53 28 (.slice none 0 0) 24 rfl Try.underlying53 info28 rfl (by decide) (by decide) (.slice A5 xs.length c5) (xs.take xs.length) ((g, cap), b) [encR ((g, cap), b)] (fun _ => True) (fun _ => False) rfl rfl rfl (fun _ hk => hk.elim) (fun _ _ => trivial) HO5.out (Below.refl _ _) HB5.out.size (by simp <;> omega) ?_; intro v6 w6 ho _ hg6 hat6; have HO6 := Aside0.mk ho; have HB6 : Aside0 (Below W.heap.size W w6) := ⟨HB5.out.grown hg6 HB5.out.size (fun j hj => Kd.R_base HO5.out j hj)⟩; obtain ⟨A6, c6, hv6, hc6, _⟩ := Kd.R_reads ho; rw [List.length_append, List.length_singleton, List.length_take, Nat.min_eq_left (by omega)] at hv6 hc6; subst hv6; clear ho hg6 hat6))
          | (at_builtin; (refine Kd.R_append_rows kR (Rr := fun (x : RowT) cs => cs = [encR x]) (w0 := w6) W.heap.size rfl (.tmp 30) (.tmp 33) 53 28 (.slice none 0 0) 24 rfl Try.underlying53 info28 rfl (by decide) (by decide) (.slice A6 (xs.length + 1) c6) (xs.take xs.length ++ [((g, cap), b)]) (xs.drop xs.length) _ _ _ (fun _ => True) (fun _ => False) rfl rfl HO6.out (by rw [List.drop_length]; first | exact row_none | (rw [Nat.sub_self]; exact row_none)) (fun _ _ h => h) (fun _ hk => hk.elim) (fun _ _ => trivial) (Below.refl _ _) HB6.out.size (by simp <;> omega) ?_; intro v7 w7 ho _ hg7 hat7; have HO7 := Aside0.mk ho; have HB7 : Aside0 (Below W.heap.size W w7) := ⟨HB6.out.grown hg7 HB6.out.size (fun j hj => Kd.R_base HO6.out j hj)⟩; clear ho hg7 hat7)))
          go_ret
          exact ⟨_, _, rfl, Kd.R_lower HO7.out hB, HS.out.1, HS.out.2, HB7.out⟩
end Go.Proofs.Ytaegldcifhgnmaa.B

/- The specification's search for rings: the walk. (Printed by gen_x1.py.) -/
namespace Go.Proofs.Ytaegldcifhgnmaa.B
open Go.Proofs.Ytaegldcifhgnmaa.A
open Go.RowKit Go.Proofs.YtaegldcifhgnmaaW.PrintWords Go.Proofs.YtaegldcifhgnmaaW.PrintMore
set_option linter.unusedSimpArgs false

/-! ### plain -/
def upF {α : Type} (f : Nat → List α) : Nat → List α
  | 0 => []
  | k + 1 => upF f k ++ f k
theorem upF_nil {α : Type} {f : Nat → List α} : ∀ k, (∀ i, i < k → f i = []) → upF f k = []
  | 0, _ => rfl
  | k + 1, h => by rw [upF, upF_nil k fun i hi => h i (by omega), h k (by omega)]; rfl
theorem upF_le {α : Type} {f : Nat → List α} {B : Nat} : ∀ k, (∀ i, i < k → (f i).length ≤ B) → (upF f k).length ≤ k * B
  | 0, _ => by simp [upF]
  | k + 1, h => by
    rw [upF, List.length_append, Nat.add_mul, Nat.one_mul]
    exact Nat.add_le_add (upF_le k fun i hi => h i (by omega)) (h k (by omega))
theorem upF_mono {α : Type} {f : Nat → List α} {k : Nat} : ∀ j, (upF f k).length ≤ (upF f (k + j)).length
  | 0 => Nat.le_refl _
  | j + 1 => Nat.le_trans (upF_mono j) (by show _ ≤ (upF f (k + j + 1)).length; rw [upF, List.length_append]; omega)
def oneF (l : List S39) (now : List Int) : List (List Int) := if (Int.tmod (isRingR l now).1 2 == 1) = true ∧ now.getD 1 0 < now.getD (now.length - 1) 0 then [now] else []
def goF (l : List S39) (rec : List Int → Nat → Nat → List (List Int)) (now : List Int) (at_ met i : Nat) : List (List Int) :=
  if now.getD 0 0 < (i : Int) then (match otherN (l.getD i z39) at_ with
    | none => []
    | some v => if met.testBit v = true then [] else rec (now ++ [(i : Int)]) v (met ||| 2 ^ v)) else []
def aroundF (l : List S39) : Nat → List Int → Nat → Nat → List (List Int)
  | 0, now, _, _ => if (isRingR l now).2 = true then oneF l now else []
  | d + 1, now, at_, met => if (isRingR l now).2 = true then oneF l now else upF (goF l (aroundF l d) now at_ met) l.length
theorem oneF_le (l : List S39) (now : List Int) : (oneF l now).length ≤ 1 := by unfold oneF; split <;> simp
theorem around_le {l : List S39} (h10 : l.length ≤ 10) : ∀ d now at_ met, (aroundF l d now at_ met).length ≤ 10 ^ d
  | 0, now, at_, met => by
    rw [aroundF]
    split
    · exact oneF_le l now
    · simp
  | d + 1, now, at_, met => by
    rw [aroundF]
    have hp : 0 < 10 ^ (d + 1) := Nat.pow_pos (by decide)
    split
    · exact Nat.le_trans (oneF_le l now) hp
    · have h1 : (upF (goF l (aroundF l d) now at_ met) l.length).length ≤ l.length * 10 ^ d := upF_le _ fun i _ => by
        unfold goF
        split
        · split
          · exact Nat.zero_le _
          · split
            · exact Nat.zero_le _
            · exact around_le h10 d _ _ _
        · exact Nat.zero_le _
      have h2 : l.length * 10 ^ d ≤ 10 * 10 ^ d := Nat.mul_le_mul_right _ h10
      rw [Nat.pow_succ]
      omega
/-- How many bits of a number are set. -/
def pc (met : Nat) : Nat → Nat
  | 0 => 0
  | m + 1 => pc met m + (if met.testBit m = true then 1 else 0)
theorem pc_le (met : Nat) : ∀ m, pc met m ≤ m
  | 0 => Nat.le_refl _
  | m + 1 => by have := pc_le met m; rw [pc]; split <;> omega
theorem pc_or {met v : Nat} (hv : met.testBit v = false) : ∀ m, pc (met ||| 2 ^ v) m = pc met m + (if v < m then 1 else 0)
  | 0 => rfl
  | m + 1 => by
    rw [pc, pc, pc_or hv m, or_bit]
    by_cases h : m = v
    · subst h
      rw [hv, if_neg (Nat.lt_irrefl _), if_pos (Nat.lt_succ_self _)]
      simp
    · rw [decide_eq_false h, Bool.or_false]
      by_cases h2 : v < m
      · rw [if_pos h2, if_pos (show v < m + 1 by omega)]; omega
      · rw [if_neg h2, if_neg (show ¬ v < m + 1 by omega)]; omega
theorem isRing_three {l : List S39} {now : List Int} (h : (isRingR l now).2 = true) : 3 ≤ now.length := by
  unfold isRingR at h
  split at h
  · cases h
  · omega

/-! ### the walk -/
def goodT8 (l : List S39) : Prop := ∀ t ∈ l, 0 ≤ t.f0 ∧ t.f0 < t.f1 ∧ t.f1 < 8
theorem goodT8.good {l : List S39} (h : goodT8 l) : goodT l := fun t ht => by have := h t ht; omega
/-- The rows that are held: in what block they lie, that they read, and that they are those that are meant. -/
def Rows (B : Nat) (v : Value) (rows : List RowT) (R0 : List RowT) (found : List (List Int)) (W : World) : Prop :=
  kR.R 28 W B (fun _ => True) v rows ∧ (rows.map fun x => x.2).Perm (found ++ R0.map fun x => x.2) ∧ (Asc R0 → Asc rows) ∧ ∀ x ∈ rows, RowOk W x
theorem Rows.below {B : Nat} {v : Value} {rows R0 : List RowT} {found : List (List Int)} {W W' : World} (h : Rows B v rows R0 found W) (hb : Below W.heap.size W W') : Rows B v rows R0 found W' := ⟨Kd.R_below h.1 hb, h.2.1, h.2.2.1, fun x hx => (h.2.2.2 x hx).below hb⟩
theorem Rows.len {B : Nat} {v : Value} {rows R0 : List RowT} {found : List (List Int)} {W : World} (h : Rows B v rows R0 found W) : rows.length = found.length + R0.length := by
  have := h.2.1.length_eq
  rwa [List.length_map, List.length_append, List.length_map] at this
theorem Rows.more {B : Nat} {v v' : Value} {rows rows' R0 : List RowT} {found more : List (List Int)} {W W' : World} (h : Rows B v rows R0 found W) (h' : Rows B v' rows' rows more W') : Rows B v' rows' R0 (found ++ more) W' := by
  refine ⟨h'.1, ?_, fun ha => h'.2.2.1 (h.2.2.1 ha), h'.2.2.2⟩
  refine h'.2.1.trans ((List.Perm.append_left _ h.2.1).trans ?_)
  rw [← List.append_assoc]
  exact List.perm_append_comm.append_right _
def ArPost (B : Nat) (R0 : List RowT) (found : List (List Int)) (W : World) (e : Ending) (w' : World) : Prop :=
  ∃ (v : Value) (rows : List RowT), e = .returned v ∧ Rows B v rows R0 found w' ∧ Below W.heap.size W w'
def ArSaid (l : List S39) (A : Option Addr) (c B d : Nat) : Prop :=
  ∀ (now : List Int) (g cap at_ met : Nat) (vo : Value) (R0 : List RowT) (W : World), Kd.R (Kd.int .i64) 3 W B (fun _ => True) (.slice (some ⟨g, 0, none⟩) now.length cap) now → B ≤ W.heap.size → now.length + d = 9 → (∃ a0 : Nat, now.getD 0 0 = (a0 : Int) ∧ a0 < l.length) → now ≠ [] → pc met 8 = now.length → at_ < 8 → met < 2 ^ 8 →
    kR.R 28 W B (fun _ => True) vo R0 → (∀ x ∈ R0, RowOk W x) → R0.length + (aroundF l d now at_ met).length ≤ 1000000000000 → Kd.C k39 W A l.length l →
    Calls Try.prog 86 #[.slice A l.length c, .slice (some ⟨g, 0, none⟩) now.length cap, .int .i64 at_, .int .i64 met, vo] W (ArPost B R0 (aroundF l d now at_ met) W)
theorem row_ok {W : World} {B g cap : Nat} {now : List Int} (h : Kd.R (Kd.int .i64) 3 W B (fun _ => True) (.slice (some ⟨g, 0, none⟩) now.length cap) now) (hne : now ≠ []) (hl : now.length ≤ 1000) : RowOk W ((g, cap), now) :=
  ⟨hne, hl, (Kd.R_reads' h).2.1, Kd.R_typed h g rfl, (Kd.R_reads' h).2.2⟩

set_option maxRecDepth 100000 in
set_option maxHeartbeats 3200000 in
theorem ar_ring (l : List S39) (hg : goodT8 l) (A : Option Addr) (c B : Nat) (hc : l.length ≤ c) (now : List Int) (g cap at_ met : Nat) (vo : Value) (R0 : List RowT) (W : World) (hR : Kd.R (Kd.int .i64) 3 W B (fun _ => True) (.slice (some ⟨g, 0, none⟩) now.length cap) now) (hB : B ≤ W.heap.size) (h9 : now.length ≤ 9)
    (hro : kR.R 28 W B (fun _ => True) vo R0) (hok : ∀ x ∈ R0, RowOk W x) (hl0 : R0.length ≤ 1000000000000) (hr : Kd.C k39 W A l.length l) (hring : (isRingR l now).2 = true) :
    Calls Try.prog 86 #[.slice A l.length c, .slice (some ⟨g, 0, none⟩) now.length cap, .int .i64 at_, .int .i64 met, vo] W (ArPost B R0 (oneF l now) W) := by
  have h3 := isRing_three hring
  have hne : now ≠ [] := by intro e; rw [e] at h3; exact absurd h3 (by decide)
  have hrk := row_ok hR hne (by omega)
  obtain ⟨k, hk⟩ := (isRing_ev hg.good (r := now) (by omega)).rounds
  obtain ⟨Ao, co, rfl, hco, _⟩ := Kd.R_reads hro
  obtain ⟨m, hm⟩ : ∃ m, now.length = m + 1 := ⟨now.length - 1, by omega⟩
  obtain ⟨a1, hA1, hx1⟩ := Kd.at_int hrk.2.2.2.2 1 (by omega) (show (1 : Int) < (now.length : Int) by omega)
  obtain ⟨a2, hA2, hx2⟩ := Kd.at_int hrk.2.2.2.2 (m : Int) (by omega) (show (m : Int) < (now.length : Int) by omega)
  cases hA1
  cases hA2
  have hx1' : W.cell? ⟨g, 1, none⟩ = some (.int .i64 (now.getD 1 0)) := by
    have : rd now 1 = now.getD 1 0 := by simp [rd]
    rw [← this]; simpa [add_at] using hx1
  have hx2' : W.cell? ⟨g, m, none⟩ = some (.int .i64 (now.getD (now.length - 1) 0)) := by
    have : rd now (m : Int) = now.getD m 0 := by simp [rd]
    rw [hm, Nat.add_sub_cancel, ← this]; simpa [add_at] using hx2
  have HC1 := Aside0.mk hx1'
  have HC2 := Aside0.mk hx2'
  have HR := Aside0.mk hR
  have HRK := Aside0.mk hrk
  have HC := Aside0.mk hc
  have HA := Aside0.mk hr
  have HRO := Aside0.mk hro
  have HOK := Aside0.mk hok
  obtain ⟨F, hF⟩ : ∃ F, oneF l now = F := ⟨_, rfl⟩
  rw [hF]
  unfold oneF at hF
  generalize isRingR l now = Z at hk hF hring
  obtain ⟨fe, ok⟩ := Z
  dsimp only at hF hring
  subst hring
  generalize he1 : now.getD 1 0 = e1 at HC1 hF
  generalize he2 : now.getD (now.length - 1) 0 = e2 at HC2 hF
  have HK := Aside0.mk hk
  have hwm : IntKind.i64.wrap ((now.length : Int) - 1) = (m : Int) := by rw [show (now.length : Int) - 1 = (m : Int) by omega]; exact wrap64_nat _ (by omega) (by omega)
  have hm0 : (m : Int) < (now.length : Int) := by omega
  have hm1 : (0 : Int) ≤ (m : Int) := by omega
  have hm2 : (1 : Int) < (now.length : Int) := by omega
  have HH3 := Aside0.mk h3
  have HM := Aside0.mk hm
  clear hR hr hk hc hco hro hok hrk hx1 hx2 hx1' hx2' he1 he2 hm h3
  have hNF : ¬ ((Int.tmod fe 2 == 1) = true ∧ e1 < e2) → Aside0 (F = []) := fun h => ⟨by rw [← hF, if_neg h]⟩
  have hYF : (Int.tmod fe 2 == 1) = true → e1 < e2 → Aside0 (F = [now]) := fun h h' => ⟨by rw [← hF, if_pos ⟨h, h'⟩]⟩
  clear hF
  obtain ⟨SS, hSS⟩ : ∃ SS : World → Prop, SS = (fun w' => w'.cell? ⟨g, 1, none⟩ = some (.int .i64 e1) ∧ w'.cell? ⟨g, m, none⟩ = some (.int .i64 e2)) := ⟨_, rfl⟩
  have hgl : g < W.heap.size := HRK.out.lt
  have HSS : Aside0 (∀ w', Below W.heap.size W w' → SS w') := ⟨fun w' h => by rw [hSS]; exact ⟨(World.cell?_of_block (h.block g hgl)).trans HC1.out, (World.cell?_of_block (h.block g hgl)).trans HC2.out⟩⟩
  have HSO : Aside0 (∀ w', SS w' → w'.cell? ⟨g, 1, none⟩ = some (.int .i64 e1) ∧ w'.cell? ⟨g, m, none⟩ = some (.int .i64 e2)) := ⟨fun w' h => by rw [hSS] at h; exact h⟩
  clear hSS
  cases hod : (Int.tmod fe 2 == 1) with
  | false =>
    have NF := hNF (by rw [hod]; exact fun h => absurd h.1 Bool.false_ne_true)
    clear hNF hYF
    go_enter Try.func86, Try.ntmps86
    go_wp2_with (go_at_call 64; go_must (refine (drovewayref09_isRing.calls k A c l (some ⟨g, 0, none⟩) cap now fe true _ HA.out HC.out HRK.out.2.2.2.2 HRK.out.2.2.1 HK.out).mono ?_; rintro e w2 ⟨rfl, hb2⟩; have HB2 := Aside0.mk hb2; clear hb2))
    refine wp_region_noPanic ?_
    refine wp_region_held_drew (S := SS) (by kernel_rfl) (HSS.out _ (below_drew HB2.out)) (fun hHeld => ?_)
    refine H_on 0 22 ?vn0 rfl rfl (by kernel_rfl) (by kernel_rfl) (by kernel_rfl) (by rfl) ?hn0 hHeld ?rn0
    case hn0 => (intro w hSw; obtain ⟨s0, s1⟩ := HSO.out w hSw; go_simp <;> with_reducible rfl)
    simp only [Act.put, List.setIfInBounds_toArray, List.set_cons_zero, List.set_cons_succ]
    refine H_on 1 23 ?vn1 rfl rfl (by kernel_rfl) (by kernel_rfl) (by kernel_rfl) (by rfl) ?hn1 hHeld ?rn1
    case hn1 => (intro w hSw; obtain ⟨s0, s1⟩ := HSO.out w hSw; go_simp <;> with_reducible rfl)
    simp only [Act.put, List.setIfInBounds_toArray, List.set_cons_zero, List.set_cons_succ]
    refine H_on 2 24 ?vn2 rfl rfl (by kernel_rfl) (by kernel_rfl) (by kernel_rfl) (by rfl) ?hn2 hHeld ?rn2
    case hn2 => (intro w hSw; obtain ⟨s0, s1⟩ := HSO.out w hSw; go_simp <;> with_reducible rfl)
    simp only [Act.put, List.setIfInBounds_toArray, List.set_cons_zero, List.set_cons_succ]
    refine H_on 3 25 ?vn3 rfl rfl (by kernel_rfl) (by kernel_rfl) (by kernel_rfl) (by rfl) ?hn3 hHeld ?rn3
    case hn3 => (intro w hSw; obtain ⟨s0, s1⟩ := HSO.out w hSw; go_simp <;> with_reducible rfl)
    simp only [Act.put, List.setIfInBounds_toArray, List.set_cons_zero, List.set_cons_succ]
    refine H_off 4 26 rfl rfl (by kernel_rfl) (by kernel_rfl) (by kernel_rfl) (by rfl) hHeld ?_
    simp only [Act.put, List.setIfInBounds_toArray, List.set_cons_zero, List.set_cons_succ]
    refine H_off 5 27 rfl rfl (by kernel_rfl) (by kernel_rfl) (by kernel_rfl) (by rfl) hHeld ?_
    simp only [Act.put, List.setIfInBounds_toArray, List.set_cons_zero, List.set_cons_succ]
    refine H_off 6 28 rfl rfl (by kernel_rfl) (by kernel_rfl) (by kernel_rfl) (by rfl) hHeld ?_
    simp only [Act.put, List.setIfInBounds_toArray, List.set_cons_zero, List.set_cons_succ]
    refine H_off 7 29 rfl rfl (by kernel_rfl) (by kernel_rfl) (by kernel_rfl) (by rfl) hHeld ?_
    simp only [Act.put, List.setIfInBounds_toArray, List.set_cons_zero, List.set_cons_succ]
    refine H_off 8 30 rfl rfl (by kernel_rfl) (by kernel_rfl) (by kernel_rfl) (by rfl) hHeld ?_
    simp only [Act.put, List.setIfInBounds_toArray, List.set_cons_zero, List.set_cons_succ]
    refine H_off 9 31 rfl rfl (by kernel_rfl) (by kernel_rfl) (by kernel_rfl) (by rfl) hHeld ?_
    simp only [Act.put, List.setIfInBounds_toArray, List.set_cons_zero, List.set_cons_succ]
    refine H_off 10 32 rfl rfl (by kernel_rfl) (by kernel_rfl) (by kernel_rfl) (by rfl) hHeld ?_
    simp only [Act.put, List.setIfInBounds_toArray, List.set_cons_zero, List.set_cons_succ]
    refine H_off 11 33 rfl rfl (by kernel_rfl) (by kernel_rfl) (by kernel_rfl) (by rfl) hHeld ?_
    simp only [Act.put, List.setIfInBounds_toArray, List.set_cons_zero, List.set_cons_succ]
    refine H_off 12 34 rfl rfl (by kernel_rfl) (by kernel_rfl) (by kernel_rfl) (by rfl) hHeld ?_
    simp only [Act.put, List.setIfInBounds_toArray, List.set_cons_zero, List.set_cons_succ]
    refine H_off 13 35 rfl rfl (by kernel_rfl) (by kernel_rfl) (by kernel_rfl) (by rfl) hHeld ?_
    simp only [Act.put, List.setIfInBounds_toArray, List.set_cons_zero, List.set_cons_succ]
    refine H_on 14 36 ?vn14 rfl rfl (by kernel_rfl) (by kernel_rfl) (by kernel_rfl) (by rfl) ?hn14 hHeld ?rn14
    case hn14 => (intro w hSw; obtain ⟨s0, s1⟩ := HSO.out w hSw; go_simp <;> with_reducible rfl)
    simp only [Act.put, List.setIfInBounds_toArray, List.set_cons_zero, List.set_cons_succ]
    refine wpAnyH_done (by kernel_rfl) ?_ _
    refine NoPanic.normal ?_
    go_wp2
    go_ret
    rw [NF.out]
    exact ⟨_, R0, rfl, ⟨Kd.R_below HRO.out (below_drew HB2.out), List.Perm.refl _, fun h => h, fun x hx => (HOK.out x hx).below (below_drew HB2.out)⟩, below_drew HB2.out⟩
  | true =>
    by_cases hlt : e1 < e2
    · have YF := hYF hod hlt
      clear hNF hYF
      go_enter Try.func86, Try.ntmps86
      go_wp2_with (go_at_call 64; go_must (refine (drovewayref09_isRing.calls k A c l (some ⟨g, 0, none⟩) cap now fe true _ HA.out HC.out HRK.out.2.2.2.2 HRK.out.2.2.1 HK.out).mono ?_; rintro e w2 ⟨rfl, hb2⟩; have HB2 := Aside0.mk hb2; clear hb2))
      refine wp_region_noPanic ?_
      refine wp_region_held_drew (S := SS) (by kernel_rfl) (HSS.out _ (below_drew HB2.out)) (fun hHeld => ?_)
      refine H_on 0 22 ?vy0 rfl rfl (by kernel_rfl) (by kernel_rfl) (by kernel_rfl) (by rfl) ?hy0 hHeld ?ry0
      case hy0 => (intro w hSw; obtain ⟨s0, s1⟩ := HSO.out w hSw; go_simp <;> with_reducible rfl)
      simp only [Act.put, List.setIfInBounds_toArray, List.set_cons_zero, List.set_cons_succ]
      refine H_on 1 23 ?vy1 rfl rfl (by kernel_rfl) (by kernel_rfl) (by kernel_rfl) (by rfl) ?hy1 hHeld ?ry1
      case hy1 => (intro w hSw; obtain ⟨s0, s1⟩ := HSO.out w hSw; go_simp <;> with_reducible rfl)
      simp only [Act.put, List.setIfInBounds_toArray, List.set_cons_zero, List.set_cons_succ]
      refine H_on 2 24 ?vy2 rfl rfl (by kernel_rfl) (by kernel_rfl) (by kernel_rfl) (by rfl) ?hy2 hHeld ?ry2
      case hy2 => (intro w hSw; obtain ⟨s0, s1⟩ := HSO.out w hSw; go_simp <;> with_reducible rfl)
      simp only [Act.put, List.setIfInBounds_toArray, List.set_cons_zero, List.set_cons_succ]
      refine H_on 3 25 ?vy3 rfl rfl (by kernel_rfl) (by kernel_rfl) (by kernel_rfl) (by rfl) ?hy3 hHeld ?ry3
      case hy3 => (intro w hSw; obtain ⟨s0, s1⟩ := HSO.out w hSw; go_simp <;> with_reducible rfl)
      simp only [Act.put, List.setIfInBounds_toArray, List.set_cons_zero, List.set_cons_succ]
      refine H_on 4 26 ?vy4 rfl rfl (by kernel_rfl) (by kernel_rfl) (by kernel_rfl) (by rfl) ?hy4 hHeld ?ry4
      case hy4 => (intro w hSw; obtain ⟨s0, s1⟩ := HSO.out w hSw; go_simp <;> with_reducible rfl)
      simp only [Act.put, List.setIfInBounds_toArray, List.set_cons_zero, List.set_cons_succ]
      refine H_on 5 27 ?vy5 rfl rfl (by kernel_rfl) (by kernel_rfl) (by kernel_rfl) (by rfl) ?hy5 hHeld ?ry5
      case hy5 => (intro w hSw; obtain ⟨s0, s1⟩ := HSO.out w hSw; go_simp <;> with_reducible rfl)
      simp only [Act.put, List.setIfInBounds_toArray, List.set_cons_zero, List.set_cons_succ]
      refine H_on 6 28 ?vy6 rfl rfl (by kernel_rfl) (by kernel_rfl) (by kernel_rfl) (by rfl) ?hy6 hHeld ?ry6
      case hy6 => (intro w hSw; obtain ⟨s0, s1⟩ := HSO.out w hSw; go_simp <;> with_reducible rfl)
      simp only [Act.put, List.setIfInBounds_toArray, List.set_cons_zero, List.set_cons_succ]
      refine H_on 7 29 ?vy7 rfl rfl (by kernel_rfl) (by kernel_rfl) (by kernel_rfl) (by rfl) ?hy7 hHeld ?ry7
      case hy7 => (intro w hSw; obtain ⟨s0, s1⟩ := HSO.out w hSw; go_simp <;> with_reducible rfl)
      simp only [Act.put, List.setIfInBounds_toArray, List.set_cons_zero, List.set_cons_succ]
      refine H_on 8 30 ?vy8 rfl rfl (by kernel_rfl) (by kernel_rfl) (by kernel_rfl) (by rfl) ?hy8 hHeld ?ry8
      case hy8 => (intro w hSw; obtain ⟨s0, s1⟩ := HSO.out w hSw; go_simp <;> with_reducible rfl)
      simp only [Act.put, List.setIfInBounds_toArray, List.set_cons_zero, List.set_cons_succ]
      refine H_on 9 31 ?vy9 rfl rfl (by kernel_rfl) (by kernel_rfl) (by kernel_rfl) (by rfl) ?hy9 hHeld ?ry9
      case hy9 => (intro w hSw; obtain ⟨s0, s1⟩ := HSO.out w hSw; go_simp <;> with_reducible rfl)
      simp only [Act.put, List.setIfInBounds_toArray, List.set_cons_zero, List.set_cons_succ]
      refine H_on 10 32 ?vy10 rfl rfl (by kernel_rfl) (by kernel_rfl) (by kernel_rfl) (by rfl) ?hy10 hHeld ?ry10
      case hy10 => (intro w hSw; obtain ⟨s0, s1⟩ := HSO.out w hSw; go_simp <;> with_reducible rfl)
      simp only [Act.put, List.setIfInBounds_toArray, List.set_cons_zero, List.set_cons_succ]
      refine H_on 11 33 ?vy11 rfl rfl (by kernel_rfl) (by kernel_rfl) (by kernel_rfl) (by rfl) ?hy11 hHeld ?ry11
      case hy11 => (intro w hSw; obtain ⟨s0, s1⟩ := HSO.out w hSw; go_simp <;> with_reducible rfl)
      simp only [Act.put, List.setIfInBounds_toArray, List.set_cons_zero, List.set_cons_succ]
      refine H_on 12 34 ?vy12 rfl rfl (by kernel_rfl) (by kernel_rfl) (by kernel_rfl) (by rfl) ?hy12 hHeld ?ry12
      case hy12 => (intro w hSw; obtain ⟨s0, s1⟩ := HSO.out w hSw; go_simp <;> with_reducible rfl)
      simp only [Act.put, List.setIfInBounds_toArray, List.set_cons_zero, List.set_cons_succ]
      refine H_on 13 35 ?vy13 rfl rfl (by kernel_rfl) (by kernel_rfl) (by kernel_rfl) (by rfl) ?hy13 hHeld ?ry13
      case hy13 => (intro w hSw; obtain ⟨s0, s1⟩ := HSO.out w hSw; go_simp <;> with_reducible rfl)
      simp only [Act.put, List.setIfInBounds_toArray, List.set_cons_zero, List.set_cons_succ]
      refine H_on 14 36 ?vy14 rfl rfl (by kernel_rfl) (by kernel_rfl) (by kernel_rfl) (by rfl) ?hy14 hHeld ?ry14
      case hy14 => (intro w hSw; obtain ⟨s0, s1⟩ := HSO.out w hSw; go_simp <;> with_reducible rfl)
      simp only [Act.put, List.setIfInBounds_toArray, List.set_cons_zero, List.set_cons_succ]
      refine wpAnyH_done (by kernel_rfl) ?_ _
      refine NoPanic.normal ?_
      go_wp2_with (go_at_call 101; go_must (refine (put_calls Ao co R0 g cap now B w2.drew (Kd.R_below HRO.out (below_drew HB2.out)) (Nat.le_trans hB (below_drew HB2.out).size) hl0 (fun x hx => (HOK.out x hx).below (below_drew HB2.out)) (HRK.out.below (below_drew HB2.out))).mono ?_; rintro e w5 ⟨v5, ys, rfl, hr5, hp5, ha5, hb5⟩; have HR5 := Aside0.mk hr5; have HP5 := Aside0.mk hp5; have HA5 := Aside0.mk ha5; have HB5 := Aside0.mk hb5; clear hr5 hp5 ha5 hb5))
      go_ret
      rw [YF.out]
      exact ⟨_, ys, rfl, ⟨HR5.out, HP5.out.map _, HA5.out, fun x hx => by
        rcases List.mem_cons.mp (HP5.out.mem_iff.mp hx) with e | e
        · rw [e]; exact (HRK.out.below (below_drew HB2.out)).below HB5.out
        · exact ((HOK.out x e).below (below_drew HB2.out)).below HB5.out⟩, below_then (below_drew HB2.out) (below_drew HB2.out).size HB5.out⟩
    · have NF := hNF (fun h => absurd h.2 hlt)
      clear hNF hYF
      go_enter Try.func86, Try.ntmps86
      go_wp2_with (go_at_call 64; go_must (refine (drovewayref09_isRing.calls k A c l (some ⟨g, 0, none⟩) cap now fe true _ HA.out HC.out HRK.out.2.2.2.2 HRK.out.2.2.1 HK.out).mono ?_; rintro e w2 ⟨rfl, hb2⟩; have HB2 := Aside0.mk hb2; clear hb2))
      refine wp_region_noPanic ?_
      refine wp_region_held_drew (S := SS) (by kernel_rfl) (HSS.out _ (below_drew HB2.out)) (fun hHeld => ?_)
      refine H_on 0 22 ?vz0 rfl rfl (by kernel_rfl) (by kernel_rfl) (by kernel_rfl) (by rfl) ?hz0 hHeld ?rz0
      case hz0 => (intro w hSw; obtain ⟨s0, s1⟩ := HSO.out w hSw; go_simp <;> with_reducible rfl)
      simp only [Act.put, List.setIfInBounds_toArray, List.set_cons_zero, List.set_cons_succ]
      refine H_on 1 23 ?vz1 rfl rfl (by kernel_rfl) (by kernel_rfl) (by kernel_rfl) (by rfl) ?hz1 hHeld ?rz1
      case hz1 => (intro w hSw; obtain ⟨s0, s1⟩ := HSO.out w hSw; go_simp <;> with_reducible rfl)
      simp only [Act.put, List.setIfInBounds_toArray, List.set_cons_zero, List.set_cons_succ]
      refine H_on 2 24 ?vz2 rfl rfl (by kernel_rfl) (by kernel_rfl) (by kernel_rfl) (by rfl) ?hz2 hHeld ?rz2
      case hz2 => (intro w hSw; obtain ⟨s0, s1⟩ := HSO.out w hSw; go_simp <;> with_reducible rfl)
      simp only [Act.put, List.setIfInBounds_toArray, List.set_cons_zero, List.set_cons_succ]
      refine H_on 3 25 ?vz3 rfl rfl (by kernel_rfl) (by kernel_rfl) (by kernel_rfl) (by rfl) ?hz3 hHeld ?rz3
      case hz3 => (intro w hSw; obtain ⟨s0, s1⟩ := HSO.out w hSw; go_simp <;> with_reducible rfl)
      simp only [Act.put, List.setIfInBounds_toArray, List.set_cons_zero, List.set_cons_succ]
      refine H_on 4 26 ?vz4 rfl rfl (by kernel_rfl) (by kernel_rfl) (by kernel_rfl) (by rfl) ?hz4 hHeld ?rz4
      case hz4 => (intro w hSw; obtain ⟨s0, s1⟩ := HSO.out w hSw; go_simp <;> with_reducible rfl)
      simp only [Act.put, List.setIfInBounds_toArray, List.set_cons_zero, List.set_cons_succ]
      refine H_on 5 27 ?vz5 rfl rfl (by kernel_rfl) (by kernel_rfl) (by kernel_rfl) (by rfl) ?hz5 hHeld ?rz5
      case hz5 => (intro w hSw; obtain ⟨s0, s1⟩ := HSO.out w hSw; go_simp <;> with_reducible rfl)
      simp only [Act.put, List.setIfInBounds_toArray, List.set_cons_zero, List.set_cons_succ]
      refine H_on 6 28 ?vz6 rfl rfl (by kernel_rfl) (by kernel_rfl) (by kernel_rfl) (by rfl) ?hz6 hHeld ?rz6
      case hz6 => (intro w hSw; obtain ⟨s0, s1⟩ := HSO.out w hSw; go_simp <;> with_reducible rfl)
      simp only [Act.put, List.setIfInBounds_toArray, List.set_cons_zero, List.set_cons_succ]
      refine H_on 7 29 ?vz7 rfl rfl (by kernel_rfl) (by kernel_rfl) (by kernel_rfl) (by rfl) ?hz7 hHeld ?rz7
      case hz7 => (intro w hSw; obtain ⟨s0, s1⟩ := HSO.out w hSw; go_simp <;> with_reducible rfl)
      simp only [Act.put, List.setIfInBounds_toArray, List.set_cons_zero, List.set_cons_succ]
      refine H_on 8 30 ?vz8 rfl rfl (by kernel_rfl) (by kernel_rfl) (by kernel_rfl) (by rfl) ?hz8 hHeld ?rz8
      case hz8 => (intro w hSw; obtain ⟨s0, s1⟩ := HSO.out w hSw; go_simp <;> with_reducible rfl)
      simp only [Act.put, List.setIfInBounds_toArray, List.set_cons_zero, List.set_cons_succ]
      refine H_on 9 31 ?vz9 rfl rfl (by kernel_rfl) (by kernel_rfl) (by kernel_rfl) (by rfl) ?hz9 hHeld ?rz9
      case hz9 => (intro w hSw; obtain ⟨s0, s1⟩ := HSO.out w hSw; go_simp <;> with_reducible rfl)
      simp only [Act.put, List.setIfInBounds_toArray, List.set_cons_zero, List.set_cons_succ]
      refine H_on 10 32 ?vz10 rfl rfl (by kernel_rfl) (by kernel_rfl) (by kernel_rfl) (by rfl) ?hz10 hHeld ?rz10
      case hz10 => (intro w hSw; obtain ⟨s0, s1⟩ := HSO.out w hSw; go_simp <;> with_reducible rfl)
      simp only [Act.put, List.setIfInBounds_toArray, List.set_cons_zero, List.set_cons_succ]
      refine H_on 11 33 ?vz11 rfl rfl (by kernel_rfl) (by kernel_rfl) (by kernel_rfl) (by rfl) ?hz11 hHeld ?rz11
      case hz11 => (intro w hSw; obtain ⟨s0, s1⟩ := HSO.out w hSw; go_simp <;> with_reducible rfl)
      simp only [Act.put, List.setIfInBounds_toArray, List.set_cons_zero, List.set_cons_succ]
      refine H_on 12 34 ?vz12 rfl rfl (by kernel_rfl) (by kernel_rfl) (by kernel_rfl) (by rfl) ?hz12 hHeld ?rz12
      case hz12 => (intro w hSw; obtain ⟨s0, s1⟩ := HSO.out w hSw; go_simp <;> with_reducible rfl)
      simp only [Act.put, List.setIfInBounds_toArray, List.set_cons_zero, List.set_cons_succ]
      refine H_on 13 35 ?vz13 rfl rfl (by kernel_rfl) (by kernel_rfl) (by kernel_rfl) (by rfl) ?hz13 hHeld ?rz13
      case hz13 => (intro w hSw; obtain ⟨s0, s1⟩ := HSO.out w hSw; go_simp <;> with_reducible rfl)
      simp only [Act.put, List.setIfInBounds_toArray, List.set_cons_zero, List.set_cons_succ]
      refine H_on 14 36 ?vz14 rfl rfl (by kernel_rfl) (by kernel_rfl) (by kernel_rfl) (by rfl) ?hz14 hHeld ?rz14
      case hz14 => (intro w hSw; obtain ⟨s0, s1⟩ := HSO.out w hSw; go_simp <;> with_reducible rfl)
      simp only [Act.put, List.setIfInBounds_toArray, List.set_cons_zero, List.set_cons_succ]
      refine wpAnyH_done (by kernel_rfl) ?_ _
      refine NoPanic.normal ?_
      go_wp2
      go_ret
      rw [NF.out]
      exact ⟨_, R0, rfl, ⟨Kd.R_below HRO.out (below_drew HB2.out), List.Perm.refl _, fun h => h, fun x hx => (HOK.out x hx).below (below_drew HB2.out)⟩, below_drew HB2.out⟩
end Go.Proofs.Ytaegldcifhgnmaa.B

/- Rings as cycles: turned about, turned round; a ring's list is settled by its ties (plain). -/
namespace Go.Proofs.Ytaegldcifhgnmaa.B
open Go.Proofs.Ytaegldcifhgnmaa.A
open Go.RowKit Go.Proofs.YtaegldcifhgnmaaW.PrintWords Go.Proofs.YtaegldcifhgnmaaW.PrintMore

/-- The k-th tie of a list. -/
def nx (x : List Int) (k : Nat) : Int := x.getD k 0
theorem nx_mem {x : List Int} {k : Nat} (h : k < x.length) : nx x k ∈ x := getD_mem 0 h
theorem mem_nx {x : List Int} {i : Int} (h : i ∈ x) : ∃ k, k < x.length ∧ nx x k = i := by
  obtain ⟨k, hk, e⟩ := List.getElem_of_mem h
  exact ⟨k, hk, by unfold nx; rw [List.getD_eq_getElem?_getD, List.getElem?_eq_getElem hk, e]; rfl⟩
theorem ext_nx {x y : List Int} (hl : x.length = y.length) (h : ∀ k, k < x.length → nx x k = nx y k) : x = y := by
  refine List.ext_getElem hl fun k h1 h2 => ?_
  have := h k h1
  unfold nx at this
  rw [List.getD_eq_getElem?_getD, List.getD_eq_getElem?_getD, List.getElem?_eq_getElem h1, List.getElem?_eq_getElem h2] at this
  exact this
/-- The drovers of a ring, one after another. -/
structure Cyc (l : List S39) (x : List Int) (c : Nat → Nat) : Prop where
  three : 3 ≤ x.length
  inr : ∀ j, j < x.length → inR l (nx x j)
  back : c x.length = c 0
  goes : ∀ j, j < x.length → otherN (tieA l (nx x j)) (c j) = some (c (j + 1))
  apart : ∀ i j, i < j → j < x.length → c (i + 1) ≠ c (j + 1)
variable {l : List S39}
theorem ringy_cyc (hg : goodT l) {x : List Int} (h3 : 3 ≤ x.length) : Ringy l x ↔ ∃ c, Cyc l x c := by
  constructor
  · rintro ⟨fr, _, hw⟩
    have hin : ∀ k, k < x.length → inR l (x.getD k 0) := fun k hk => WT_in x _ _ hw _ (getD_mem 0 hk)
    have h1 := (walkN_WT x fr hin x.length 0 fr 0 0 (by omega) (Nat.zero_le _)).mpr (by rw [List.drop_zero]; exact hw)
    obtain ⟨c, c0, cd, hc, ha⟩ := walkN_to l x fr _ _ _ _ _ h1
    exact ⟨c, h3, hin, by rw [c0, cd], fun j hj => by have := (hc j hj).1; rwa [Nat.zero_add] at this, ha⟩
  · rintro ⟨c, h⟩
    have h0 := h.goes 0 (by omega)
    have hi0 := tieA_good hg (h.inr 0 (by omega))
    have hp := other_parts hi0.1 hi0.2.1 h0
    have hb := hasB_iff.mp hp.1
    refine ⟨c 0, ?_, ?_⟩
    · rcases hb with e | e
      · left; unfold nx at e; omega
      · right; unfold nx at e; omega
    · have h1 := walkN_of l x (c 0) x.length 0 (c 0) 0 0 c rfl h.back (fun j hj => ⟨by rw [Nat.zero_add]; exact h.goes j hj, by simp⟩) h.apart
      have := (walkN_WT x (c 0) (fun k hk => h.inr k hk) x.length 0 (c 0) 0 0 (by omega) (Nat.zero_le _)).mp h1
      rwa [List.drop_zero] at this
section
variable {x : List Int} {c : Nat → Nat}
theorem Cyc.inj (h : Cyc l x c) {i j : Nat} (hi : i < x.length) (hj : j < x.length) (e : c i = c j) : i = j := by
  have key : ∀ i j, i < j → j < x.length → c i ≠ c j := fun i j hij hj e => by
    obtain ⟨j', rfl⟩ : ∃ j', j = j' + 1 := ⟨j - 1, by omega⟩
    by_cases h0 : i = 0
    · subst h0
      rw [← h.back] at e
      obtain ⟨m, hm⟩ : ∃ m, x.length = m + 1 := ⟨x.length - 1, by omega⟩
      rw [hm] at e
      exact h.apart j' m (by omega) (by omega) e.symm
    · obtain ⟨i', rfl⟩ : ∃ i', i = i' + 1 := ⟨i - 1, by omega⟩
      exact h.apart i' j' (by omega) (by omega) e
  rcases Nat.lt_trichotomy i j with h1 | h1 | h1
  · exact absurd e (key i j h1 hj)
  · exact h1
  · exact absurd e.symm (key j i h1 hi)
theorem Cyc.ends (hg : goodT l) (h : Cyc l x c) {j : Nat} (hj : j < x.length) {v : Nat} : hasB (tieA l (nx x j)) v = true ↔ v = c j ∨ v = c (j + 1) := by
  have hi := tieA_good hg (h.inr j hj)
  have hp := other_parts hi.1 hi.2.1 (h.goes j hj)
  constructor
  · intro hv
    by_cases e : v = c j
    · exact .inl e
    · have h2 := other_has hi.2.1 hp.1 hv (fun e2 => e e2.symm)
      rw [h.goes j hj] at h2
      exact .inr (Option.some.inj h2).symm
  · rintro (e | e)
    · rw [e]; exact hp.1
    · rw [e]; exact hp.2.1
/-- The ties at a drover: the one that comes and the one that goes. -/
theorem Cyc.at_ (hg : goodT l) (h : Cyc l x c) {j k : Nat} (hj : j < x.length) (hk : k < x.length) (hb : hasB (tieA l (nx x j)) (c k) = true) : j = k ∨ j + 1 = k ∨ (k = 0 ∧ j + 1 = x.length) := by
  rcases (h.ends hg hj).mp hb with e | e
  · exact .inl (h.inj hk hj e).symm
  · by_cases h1 : j + 1 < x.length
    · exact .inr (.inl (h.inj hk h1 e).symm)
    · have h2 : j + 1 = x.length := by omega
      rw [h2, h.back] at e
      exact .inr (.inr ⟨h.inj hk (by omega) e, h2⟩)
theorem Cyc.nodup (hg : goodT l) (h : Cyc l x c) {i j : Nat} (hi : i < x.length) (hj : j < x.length) (e : nx x i = nx x j) : i = j := by
  have h3 := h.three
  have key : ∀ i j, i < j → j < x.length → nx x i ≠ nx x j := fun i j hij hj e => by
    have h1 := h.at_ hg (j := i) (k := j) (by omega) hj (by rw [e]; exact (h.ends hg hj).mpr (.inl rfl))
    by_cases hl : j + 1 < x.length
    · have h2 := h.at_ hg (j := i) (k := j + 1) (by omega) hl (by rw [e]; exact (h.ends hg hj).mpr (.inr rfl))
      omega
    · have hl2 : j + 1 = x.length := by omega
      have h2 := h.at_ hg (j := i) (k := 0) (by omega) (by omega) (by rw [e, ← h.back, ← hl2]; exact (h.ends hg hj).mpr (.inr rfl))
      omega
  rcases Nat.lt_trichotomy i j with h1 | h1 | h1
  · exact absurd e (key i j h1 hj)
  · exact h1
  · exact absurd e.symm (key j i h1 hi)

/-! ### turned about: from another tie on -/
def rot (x : List Int) (m : Nat) : List Int := x.drop m ++ x.take m
theorem rot_len (x : List Int) {m : Nat} (hm : m ≤ x.length) : (rot x m).length = x.length := by unfold rot; rw [List.length_append, List.length_drop, List.length_take]; omega
theorem rot_mem (x : List Int) (m : Nat) (i : Int) : i ∈ rot x m ↔ i ∈ x := by
  unfold rot
  rw [List.mem_append, Or.comm, ← List.mem_append, List.take_append_drop]
theorem rot_nx (x : List Int) {m j : Nat} (hm : m < x.length) (hj : j < x.length) : nx (rot x m) j = nx x (if m + j < x.length then m + j else m + j - x.length) := by
  unfold nx rot
  simp only [List.getD_eq_getElem?_getD]
  by_cases h : m + j < x.length
  · rw [if_pos h, List.getElem?_append_left (by rw [List.length_drop]; omega), List.getElem?_drop]
  · rw [if_neg h, List.getElem?_append_right (by rw [List.length_drop]; omega), List.length_drop, List.getElem?_take_of_lt (by omega)]
    congr 2
    omega
theorem Cyc.rot (h : Cyc l x c) {m : Nat} (hm : m < x.length) : Cyc l (rot x m) (fun j => c (if m + j < x.length then m + j else m + j - x.length)) := by
  have hl := rot_len x (Nat.le_of_lt hm)
  refine ⟨by rw [hl]; exact h.three, fun j hj => ?_, ?_, fun j hj => ?_, fun i j hij hj e => ?_⟩
  · rw [hl] at hj
    rw [rot_nx x hm hj]
    exact h.inr _ (by split <;> omega)
  · rw [hl]
    rw [if_neg (by omega), Nat.add_zero, if_pos hm, Nat.add_sub_cancel]
  · rw [hl] at hj
    rw [rot_nx x hm hj]
    by_cases h1 : m + j < x.length
    · rw [if_pos h1]
      have := h.goes (m + j) h1
      by_cases h2 : m + (j + 1) < x.length
      · rw [if_pos h2]; exact this
      · rw [if_neg h2, show m + (j + 1) - x.length = 0 by omega, ← h.back, show x.length = m + j + 1 by omega]; exact this
    · rw [if_neg h1, if_neg (by omega)]
      have := h.goes (m + j - x.length) (by omega)
      rw [show m + (j + 1) - x.length = m + j - x.length + 1 by omega]; exact this
  · rw [hl] at hj
    have h1 := h.inj (i := if m + (i + 1) < x.length then m + (i + 1) else m + (i + 1) - x.length) (j := if m + (j + 1) < x.length then m + (j + 1) else m + (j + 1) - x.length) (by split <;> omega) (by split <;> omega) e
    split at h1 <;> split at h1 <;> omega

/-! ### turned round: the other way, from the same tie on -/
def rev (x : List Int) : List Int := x.take 1 ++ (x.drop 1).reverse
theorem rev_len (x : List Int) : (rev x).length = x.length := by unfold rev; rw [List.length_append, List.length_reverse, List.length_drop, List.length_take]; omega
theorem rev_mem (x : List Int) (i : Int) : i ∈ rev x ↔ i ∈ x := by
  unfold rev
  rw [List.mem_append, List.mem_reverse, ← List.mem_append, List.take_append_drop]
theorem rev_nx (x : List Int) {j : Nat} (hj : j < x.length) : nx (rev x) j = nx x (if j = 0 then 0 else x.length - j) := by
  unfold nx rev
  simp only [List.getD_eq_getElem?_getD]
  by_cases h : j = 0
  · rw [if_pos h, h, List.getElem?_append_left (by rw [List.length_take]; omega), List.getElem?_take_of_lt (by omega)]
  · rw [if_neg h, List.getElem?_append_right (by rw [List.length_take]; omega), List.length_take, List.getElem?_reverse (by rw [List.length_drop]; omega), List.getElem?_drop, List.length_drop]
    congr 2
    omega
theorem other_back {t : S39} {a b : Nat} (h0 : 0 ≤ t.f0) (h1 : t.f0 < t.f1) (h : otherN t a = some b) : otherN t b = some a := by
  have hp := other_parts h0 h1 h
  exact other_has h1 hp.2.1 hp.1 (fun e => hp.2.2 e.symm)
theorem Cyc.rev (hg : goodT l) (h : Cyc l x c) : Cyc l (rev x) (fun j => c (if j = 0 then 1 else x.length + 1 - j)) := by
  have hl := rev_len x
  have h3 := h.three
  have back : ∀ k, k < x.length → otherN (tieA l (nx x k)) (c (k + 1)) = some (c k) := fun k hk => by
    have hi := tieA_good hg (h.inr k hk)
    exact other_back hi.1 hi.2.1 (h.goes k hk)
  refine ⟨by rw [hl]; exact h3, fun j hj => ?_, ?_, fun j hj => ?_, fun i j hij hj e => ?_⟩
  · rw [hl] at hj
    rw [rev_nx x hj]
    exact h.inr _ (by split <;> omega)
  · rw [hl]
    rw [if_neg (by omega), if_pos rfl, show x.length + 1 - x.length = 1 by omega]
  · rw [hl] at hj
    rw [rev_nx x hj]
    rw [if_neg (Nat.succ_ne_zero j)]
    by_cases h0 : j = 0
    · subst h0
      rw [if_pos rfl, if_pos rfl, show x.length + 1 - (0 + 1) = x.length by omega, h.back]
      exact back 0 hj
    · rw [if_neg h0, if_neg h0, show x.length + 1 - j = (x.length - j) + 1 by omega, show x.length + 1 - (j + 1) = x.length - j by omega]
      exact back _ (by omega)
  · rw [hl] at hj
    rw [if_neg (Nat.succ_ne_zero i), if_neg (Nat.succ_ne_zero j)] at e
    obtain ⟨m, hm⟩ : ∃ m, x.length + 1 - (j + 1) = m + 1 := ⟨x.length + 1 - (j + 1) - 1, by omega⟩
    have e2 : x.length + 1 - (i + 1) = (x.length - i - 1) + 1 := by omega
    rw [hm, e2] at e
    exact h.apart m (x.length - i - 1) (by omega) (by omega) e.symm

/-! ### two lists of one ring -/
/-- Least tie first, and the second one less than the last one. -/
def Canon (x : List Int) : Prop := (∀ k, 0 < k → k < x.length → nx x 0 < nx x k) ∧ nx x 1 < nx x (x.length - 1)
theorem canon_one (hg : goodT l) {y : List Int} {d : Nat → Nat} (h : Cyc l x c) (h' : Cyc l y d) (hx : Canon x) (hy : Canon y) (hm : ∀ i, i ∈ x ↔ i ∈ y) : x = y := by
  have h3 := h.three
  have h3' := h'.three
  -- the first tie
  have e0 : nx x 0 = nx y 0 := by
    obtain ⟨k, hk, ek⟩ := mem_nx ((hm _).mp (nx_mem (x := x) (k := 0) (by omega)))
    obtain ⟨k', hk', ek'⟩ := mem_nx ((hm _).mpr (nx_mem (x := y) (k := 0) (by omega)))
    by_cases h1 : k = 0
    · rw [h1] at ek; exact ek.symm
    · by_cases h2 : k' = 0
      · rw [h2] at ek'; exact ek'
      · have := hy.1 k (by omega) hk
        have := hx.1 k' (by omega) hk'
        omega
  -- one step: where the tie before and the drover are the same, so is the next tie
  have step : ∀ k, k + 1 < x.length → k + 1 < y.length → nx x k = nx y k → c (k + 1) = d (k + 1) → nx x (k + 1) = nx y (k + 1) := by
    intro k hk hk' e ec
    obtain ⟨j, hj, ej⟩ := mem_nx ((hm _).mpr (nx_mem hk'))
    have hb : hasB (tieA l (nx x j)) (c (k + 1)) = true := by rw [ej, ec]; exact (h'.ends hg hk').mpr (.inl rfl)
    rcases h.at_ hg hj hk hb with h1 | h1 | ⟨h1, _⟩
    · rw [h1] at ej; exact ej
    · have h2 : j = k := by omega
      rw [h2, e] at ej
      have := h'.nodup hg (by omega) hk' ej
      omega
    · omega
  have ec : c 0 = d 0 ∨ c 0 = d 1 := (h'.ends hg (j := 0) (by omega)).mp (by rw [← e0]; exact (h.ends hg (by omega)).mpr (.inl rfl))
  rcases ec with ec | ec
  · -- the same way
    have main : ∀ k, k < x.length → k < y.length → nx x k = nx y k ∧ c k = d k := by
      intro k
      induction k with
      | zero => exact fun _ _ => ⟨e0, ec⟩
      | succ k ih =>
        intro hk hk'
        obtain ⟨i1, i2⟩ := ih (by omega) (by omega)
        have g1 := h.goes k (by omega)
        have g2 := h'.goes k (by omega)
        rw [i1, i2, g2] at g1
        have e1 := (Option.some.inj g1).symm
        exact ⟨step k hk hk' i1 e1, e1⟩
    have hlen : x.length = y.length := by
      rcases Nat.lt_trichotomy x.length y.length with hl | hl | hl
      · exfalso
        obtain ⟨m, hm'⟩ : ∃ m, x.length = m + 1 := ⟨x.length - 1, by omega⟩
        obtain ⟨i1, i2⟩ := main m (by omega) (by omega)
        have g1 := h.goes m (by omega)
        have g2 := h'.goes m (by omega)
        rw [i1, i2, g2] at g1
        have e1 := Option.some.inj g1
        rw [← hm', h.back, ec] at e1
        have := h'.inj hl (by omega) e1
        omega
      · exact hl
      · exfalso
        obtain ⟨m, hm'⟩ : ∃ m, y.length = m + 1 := ⟨y.length - 1, by omega⟩
        obtain ⟨i1, i2⟩ := main m (by omega) (by omega)
        have g1 := h.goes m (by omega)
        have g2 := h'.goes m (by omega)
        rw [i1, i2, g2] at g1
        have e1 := Option.some.inj g1
        rw [← hm', h'.back, ← ec] at e1
        have := h.inj hl (by omega) e1.symm
        omega
    exact ext_nx hlen fun k hk => (main k hk (by omega)).1
  · -- the other way: the second and the last change places
    exfalso
    have ec1 : c 1 = d 0 := by
      have g1 := h.goes 0 (by omega)
      have hi := tieA_good hg (h'.inr 0 (by omega))
      have g2 := other_back hi.1 hi.2.1 (h'.goes 0 (by omega))
      rw [e0, ec, g2] at g1
      exact (Option.some.inj g1).symm
    -- y's second tie is x's last one
    have a1 : nx y 1 = nx x (x.length - 1) := by
      obtain ⟨j, hj, ej⟩ := mem_nx ((hm _).mpr (nx_mem (x := y) (k := 1) (by omega)))
      have hb : hasB (tieA l (nx x j)) (c 0) = true := by rw [ej, ec]; exact (h'.ends hg (by omega)).mpr (.inl rfl)
      rcases h.at_ hg hj (by omega) hb with h1 | h1 | ⟨_, h1⟩
      · rw [h1, e0] at ej
        have := h'.nodup hg (by omega) (by omega) ej
        omega
      · omega
      · rw [show j = x.length - 1 by omega] at ej; exact ej.symm
    have a2 : nx y (y.length - 1) = nx x 1 := by
      obtain ⟨j, hj, ej⟩ := mem_nx ((hm _).mpr (nx_mem (x := y) (k := y.length - 1) (by omega)))
      have hb : hasB (tieA l (nx x j)) (c 1) = true := by
        rw [ej, ec1, ← h'.back]
        exact (h'.ends hg (by omega)).mpr (.inr (by rw [show y.length - 1 + 1 = y.length by omega]))
      rcases h.at_ hg hj (by omega) hb with h1 | h1 | ⟨h1, _⟩
      · rw [h1] at ej; exact ej.symm
      · rw [show j = 0 by omega, e0] at ej
        have := h'.nodup hg (by omega) (by omega) ej
        omega
      · omega
    have := hx.2
    have := hy.2
    omega
end
end Go.Proofs.Ytaegldcifhgnmaa.B

/- The specification's search for rings: the walk, on. (Printed by gen_x2.py.) -/
namespace Go.Proofs.Ytaegldcifhgnmaa.B
open Go.Proofs.Ytaegldcifhgnmaa.A
open Go.RowKit Go.Proofs.YtaegldcifhgnmaaW.PrintWords Go.Proofs.YtaegldcifhgnmaaW.PrintMore
set_option linter.unusedSimpArgs false

theorem bit_ask0 (y a : Nat) : (((y : Int) / 2 ^ a).tmod 2 == 0) = !y.testBit a := by
  rw [← bit_ask y a]
  have e : ((y : Int) / 2 ^ a) = ((y / 2 ^ a : Nat) : Int) := by simp
  rw [e, Int.tmod_eq_emod_of_nonneg (Int.natCast_nonneg _)]
  have h : ((y / 2 ^ a : Nat) : Int) % 2 = 0 ∨ ((y / 2 ^ a : Nat) : Int) % 2 = 1 := by omega
  rcases h with h | h <;> rw [h] <;> rfl
set_option maxRecDepth 100000 in
set_option maxHeartbeats 3200000 in
theorem ar_step (l : List S39) (hg : goodT8 l) (A : Option Addr) (c B d : Nat) (hc : l.length ≤ c) (h10 : l.length ≤ 10) (ih : ArSaid l A c B d) : ArSaid l A c B (d + 1) := by
  intro now g cap at_ met vo R0 W hR hB hn ha0 hne hpc hat hm hro hok hlen hr
  by_cases hring : (isRingR l now).2 = true
  · rw [aroundF, if_pos hring]
    exact ar_ring l hg A c B hc now g cap at_ met vo R0 W hR hB (by omega) hro hok (by omega) hr hring
  rw [aroundF, if_neg hring] at hlen ⊢
  obtain ⟨a0, ha, hal⟩ := ha0
  have hrk := row_ok hR hne (by omega)
  have hpos : 0 < now.length := List.length_pos_iff.mpr hne
  obtain ⟨k, hk⟩ := (isRing_ev hg.good (r := now) (by omega)).rounds
  obtain ⟨a1, hA1, hx1⟩ := Kd.at_int hrk.2.2.2.2 0 (by omega) (show (0 : Int) < (now.length : Int) by omega)
  cases hA1
  have hx1' : W.cell? ⟨g, 0, none⟩ = some (.int .i64 (a0 : Int)) := by
    have : rd now 0 = now.getD 0 0 := by simp [rd]
    rw [← ha, ← this]; simpa [add_at] using hx1
  obtain ⟨G, hG⟩ : ∃ G, goF l (aroundF l d) now at_ met = G := ⟨_, rfl⟩
  rw [hG] at hlen ⊢
  have HGG : Aside0 (∀ i, G i = if (a0 : Int) < (i : Int) then (match otherN (l.getD i z39) at_ with
    | none => []
    | some v => if met.testBit v = true then [] else aroundF l d (now ++ [(i : Int)]) v (met ||| 2 ^ v)) else []) := ⟨fun i => by rw [← hG]; unfold goF; (rw [ha]) <;> rfl⟩
  have HC1 := Aside0.mk hx1'
  have HI := Aside0.mk ih
  have HR := Aside0.mk hR
  have HRK := Aside0.mk hrk
  have HC := Aside0.mk hc
  have HA := Aside0.mk hr
  have HRO := Aside0.mk hro
  have HOK := Aside0.mk hok
  have HB := Aside0.mk hB
  have HN := Aside0.mk hn
  have HM := Aside0.mk hm
  have HPC := Aside0.mk hpc
  have HG8 := Aside0.mk hg
  have HLE := Aside0.mk hlen
  have HAA := Aside0.mk ha
  have HST : Aside0 (upF G (a0 + 1) = []) := ⟨upF_nil _ fun i hi => by rw [HGG.out, if_neg (by omega)]⟩
  generalize isRingR l now = Z at hk hring
  obtain ⟨fe, ok⟩ := Z
  dsimp only at hring
  obtain rfl : ok = false := by simpa using hring
  have HK := Aside0.mk hk
  have hgl : g < W.heap.size := hrk.lt
  have hb1 : (0 : Int) ≤ (now.length : Int) := by omega
  have hcapI : (now.length : Int) ≤ (cap : Int) := by have := hrk.2.2.1; dsimp only at this; omega
  have hz0 : (0 : Int) < (now.length : Int) := by omega
  have hq : now.length ≤ 1000 := by omega
  clear hR hr hk hc hro hok hrk hx1 hx1' hB hn hm hpc hg hlen ih hring hG ha
  go_enter Try.func86, Try.ntmps86
  go_wp2_with (go_at_call 64; go_must (refine (drovewayref09_isRing.calls k A c l (some ⟨g, 0, none⟩) cap now fe false _ HA.out HC.out HRK.out.2.2.2.2 HRK.out.2.2.1 HK.out).mono ?_; rintro e w2 ⟨rfl, hb2⟩; have c2 := (World.cell?_of_block (hb2.block g hgl)).trans HC1.out; have HB2 := Aside0.mk hb2; clear hb2))
  go_loopg [4, 13, 14] l.length (fun gg v4 v13 _ wr => ∃ (i : Nat) (vq : Value) (rows : List RowT), i ≤ l.length ∧ a0 < i ∧ l.length - i ≤ gg ∧ v13 = .int .i64 i ∧ vq = v4 ∧ Aside0 (Rows B vq rows R0 (upF G i) wr) ∧ Aside0 (Below W.heap.size W wr))
  case atStart => exact ⟨a0 + 1, _, R0, by omega, by omega, by omega, by go_num, rfl, ⟨by rw [HST.out]; exact ⟨Kd.R_below HRO.out HB2.out, List.Perm.refl _, fun h => h, fun x hx => (HOK.out x hx).below HB2.out⟩⟩, HB2⟩
  case round =>
    clear HB2 c2 HST
    obtain ⟨i, vq, rows, hi, hai, hgg, rfl, hvq, HP, HBr⟩ := hrel
    subst hvq
    by_cases hlt : i < l.length
    · have hltz : (i : Int) < (l.length : Int) := by omega
      obtain ⟨ad, had, hx0, hx1, hx2⟩ := at_T39 (Kd.C_below HA.out HBr.out) (i : Int) (by omega) (by omega)
      subst had
      rw [Int.toNat_natCast] at hx0 hx1 hx2
      have hrd : rd_T39 l (i : Int) = l.getD i z39 := by simp [rd_T39]
      rw [hrd] at hx0 hx1 hx2
      have hts := HG8.out _ (getD_mem z39 hlt)
      generalize hy : l.getD i z39 = y at hx0 hx1 hx2 hts
      obtain ⟨ya, yb, yf⟩ := y
      dsimp only at hx0 hx1 hx2 hts
      have HY := Aside0.mk hy
      have hts1 : 0 ≤ yb := by omega
      have HGI : Aside0 (G i = match otherN ⟨ya, yb, yf⟩ at_ with
        | none => []
        | some v => if met.testBit v = true then [] else aroundF l d (now ++ [(i : Int)]) v (met ||| 2 ^ v)) := ⟨by rw [HGG.out, if_pos (by omega), HY.out]⟩
      clear hy hrd
      cases ho : otherN ⟨ya, yb, yf⟩ at_ with
      | none =>
        have HO := Aside0.mk ho
        have HG0 : Aside0 (upF G (i + 1) = upF G i) := ⟨by rw [upF, HGI.out, HO.out, List.append_nil]⟩
        clear ho
        go_wp2_with (go_at_call 88; go_must (refine (rother_calls ⟨ya, yb, _⟩ at_ hts.1 hts1 _).mono ?_; rw [HO.out]; rintro e w3 ⟨rfl, hb3⟩; have HB3 := Aside0.mk (below_then HBr.out HBr.out.size hb3); have HP3 := Aside0.mk (HP.out.below hb3); clear hb3))
        go_roundg (l.length - (i + 1))
        case measure => omega
        case rel => exact ⟨i + 1, _, rows, by omega, by omega, by omega, by go_num, rfl, ⟨by rw [HG0.out]; exact HP3.out⟩, HB3⟩
      | some u =>
        have HO := Aside0.mk ho
        have hp := other_parts hts.1 hts.2.1 ho
        have hpu := hasB_iff.mp hp.2.1
        have hu : u < 8 := by dsimp only at hpu; omega
        have hu0 : ¬ (u : Int) < 0 := by omega
        have ku := bit_ask0 met u
        clear ho hp hpu
        cases ht : met.testBit u with
        | true =>
          have HT := Aside0.mk ht
          rw [ht] at ku
          simp only [Bool.not_true, Bool.not_false] at ku
          have HG0 : Aside0 (upF G (i + 1) = upF G i) := ⟨by rw [upF, HGI.out, HO.out]; dsimp only; rw [if_pos HT.out, List.append_nil]⟩
          clear ht
          go_wp2_with (go_at_call 88; go_must (refine (rother_calls ⟨ya, yb, _⟩ at_ hts.1 hts1 _).mono ?_; rw [HO.out]; rintro e w3 ⟨rfl, hb3⟩; have HB3 := Aside0.mk (below_then HBr.out HBr.out.size hb3); have HP3 := Aside0.mk (HP.out.below hb3); clear hb3))
          go_roundg (l.length - (i + 1))
          case measure => omega
          case rel => exact ⟨i + 1, _, rows, by omega, by omega, by omega, by go_num, rfl, ⟨by rw [HG0.out]; exact HP3.out⟩, HB3⟩
        | false =>
          have HT := Aside0.mk ht
          rw [ht] at ku
          simp only [Bool.not_true, Bool.not_false] at ku
          obtain ⟨R, hRR⟩ : ∃ R, aroundF l d (now ++ [(i : Int)]) u (met ||| 2 ^ u) = R := ⟨_, rfl⟩
          have HG1 : Aside0 (upF G (i + 1) = upF G i ++ R) := ⟨by rw [upF, HGI.out, HO.out]; dsimp only; rw [if_neg (by rw [HT.out]; exact Bool.false_ne_true), hRR]⟩
          have hlen2 : rows.length + R.length ≤ 1000000000000 := by
            have h1 := HP.out.len
            have h2 := upF_mono (f := G) (k := i + 1) (l.length - (i + 1))
            rw [show i + 1 + (l.length - (i + 1)) = l.length by omega, HG1.out, List.length_append] at h2
            have h3 := HLE.out
            omega
          have HL2 := Aside0.mk hlen2
          have hpc2 : pc (met ||| 2 ^ u) 8 = now.length + 1 := by rw [pc_or ht 8, if_pos hu, HPC.out]
          have HPC2 := Aside0.mk hpc2
          have HRR := Aside0.mk hRR
          clear hRR hlen2 hpc2 ht
          have hor := or_one (Nat.lt_trans HM.out (by decide)) (show u < 60 by omega)
          have hwu := two_wrap (show u < 60 by omega)
          go_must (go_wp2_with (go_at_call 88; go_must (refine (rother_calls ⟨ya, yb, _⟩ at_ hts.1 hts1 _).mono ?_; rw [HO.out]; rintro e w3 ⟨rfl, hb3⟩; have HB3 := Aside0.mk (below_then HBr.out HBr.out.size hb3); have HP3 := Aside0.mk (HP.out.below hb3); clear hb3)))
          have HRW : Aside0 (Kd.R (Kd.int .i64) 3 w3.drew B (fun _ => True) (.slice (some ⟨g, 0, none⟩) now.length cap) now) := ⟨Kd.R_below HR.out (below_drew HB3.out)⟩
          have HBW : Aside0 (B ≤ w3.drew.heap.size) := ⟨Nat.le_trans HB.out HB3.out.size⟩
          have HPW : Aside0 (Rows B vq rows R0 (upF G i) w3.drew) := ⟨HP3.out.below (below_drew (Below.refl _ _))⟩
          have HREC : Aside0 (∀ (v5 : Value) (w4 : World), Kd.R (Kd.int .i64) 3 w4 B (fun _ => True) v5 (now ++ [(i : Int)]) → Below w3.drew.heap.size w3.drew w4 → Calls Try.prog 86 #[.slice (some ad) l.length c, v5, .int .i64 u, .int .i64 (met ||| 2 ^ u : Nat), vq] w4 (ArPost B rows R w4)) := ⟨fun v5 w4 h1 h2 => by
            rw [← HRR.out]
            obtain ⟨g5, cap5, rfl, _⟩ := Kd.R_form h1 (by simp)
            have h3 := HPW.out.below h2
            refine HI.out (now ++ [(i : Int)]) g5 cap5 u (met ||| 2 ^ u) vq rows w4 h1 (Nat.le_trans HBW.out h2.size) (by rw [List.length_append, List.length_singleton]; have := HN.out; omega) ⟨a0, ?_, hal⟩ (by simp) (by rw [List.length_append, List.length_singleton]; exact HPC2.out) hu (or_lt HM.out (Nat.pow_lt_pow_right (by decide) hu)) h3.1 h3.2.2.2 (by rw [HRR.out]; exact HL2.out) (Kd.C_below HA.out ((below_drew HB3.out).trans (Below.mono h2 HB3.out.size)))
            rw [List.getD_eq_getElem?_getD, List.getElem?_append_left hpos, ← List.getD_eq_getElem?_getD]
            exact HAA.out⟩
          refine wp_region_noPanic ?_
          refine wp_region_held_drew (S := fun _ => True) (by kernel_rfl) trivial (fun hHeld => ?_)
          refine H_on 0 66 ?vn0 rfl rfl (by kernel_rfl) (by kernel_rfl) (by kernel_rfl) (by rfl) ?hn0 hHeld ?rn0
          case hn0 => (intro w hSw; (try dsimp only at hSw); go_simp <;> with_reducible rfl)
          simp only [Act.put, List.setIfInBounds_toArray, List.set_cons_zero, List.set_cons_succ]
          refine H_on 1 67 ?vn1 rfl rfl (by kernel_rfl) (by kernel_rfl) (by kernel_rfl) (by rfl) ?hn1 hHeld ?rn1
          case hn1 => (intro w hSw; (try dsimp only at hSw); go_simp <;> with_reducible rfl)
          simp only [Act.put, List.setIfInBounds_toArray, List.set_cons_zero, List.set_cons_succ]
          refine H_on 2 68 ?vn2 rfl rfl (by kernel_rfl) (by kernel_rfl) (by kernel_rfl) (by rfl) ?hn2 hHeld ?rn2
          case hn2 => (intro w hSw; (try dsimp only at hSw); go_simp <;> with_reducible rfl)
          simp only [Act.put, List.setIfInBounds_toArray, List.set_cons_zero, List.set_cons_succ]
          refine H_on 3 69 ?vn3 rfl rfl (by kernel_rfl) (by kernel_rfl) (by kernel_rfl) (by rfl) ?hn3 hHeld ?rn3
          case hn3 => (intro w hSw; (try dsimp only at hSw); go_simp <;> with_reducible rfl)
          simp only [Act.put, List.setIfInBounds_toArray, List.set_cons_zero, List.set_cons_succ]
          refine H_on 4 70 ?vn4 rfl rfl (by kernel_rfl) (by kernel_rfl) (by kernel_rfl) (by rfl) ?hn4 hHeld ?rn4
          case hn4 => (intro w hSw; (try dsimp only at hSw); go_simp <;> with_reducible rfl)
          simp only [Act.put, List.setIfInBounds_toArray, List.set_cons_zero, List.set_cons_succ]
          refine H_on 5 71 ?vn5 rfl rfl (by kernel_rfl) (by kernel_rfl) (by kernel_rfl) (by rfl) ?hn5 hHeld ?rn5
          case hn5 => (intro w hSw; (try dsimp only at hSw); go_simp <;> with_reducible rfl)
          simp only [Act.put, List.setIfInBounds_toArray, List.set_cons_zero, List.set_cons_succ]
          refine H_on 6 72 ?vn6 rfl rfl (by kernel_rfl) (by kernel_rfl) (by kernel_rfl) (by rfl) ?hn6 hHeld ?rn6
          case hn6 => (intro w hSw; (try dsimp only at hSw); go_simp <;> with_reducible rfl)
          simp only [Act.put, List.setIfInBounds_toArray, List.set_cons_zero, List.set_cons_succ]
          refine H_on 7 73 ?vn7 rfl rfl (by kernel_rfl) (by kernel_rfl) (by kernel_rfl) (by rfl) ?hn7 hHeld ?rn7
          case hn7 => (intro w hSw; (try dsimp only at hSw); go_simp <;> with_reducible rfl)
          simp only [Act.put, List.setIfInBounds_toArray, List.set_cons_zero, List.set_cons_succ]
          refine H_on 10 76 ?vn10 rfl rfl (by kernel_rfl) (by kernel_rfl) (by kernel_rfl) (by rfl) ?hn10 hHeld ?rn10
          case hn10 => (intro w hSw; (try dsimp only at hSw); go_simp <;> with_reducible rfl)
          simp only [Act.put, List.setIfInBounds_toArray, List.set_cons_zero, List.set_cons_succ]
          refine H_on 11 77 ?vn11 rfl rfl (by kernel_rfl) (by kernel_rfl) (by kernel_rfl) (by rfl) ?hn11 hHeld ?rn11
          case hn11 => (intro w hSw; (try dsimp only at hSw); go_simp <;> with_reducible rfl)
          simp only [Act.put, List.setIfInBounds_toArray, List.set_cons_zero, List.set_cons_succ]
          refine H_on 12 78 ?vn12 rfl rfl (by kernel_rfl) (by kernel_rfl) (by kernel_rfl) (by rfl) ?hn12 hHeld ?rn12
          case hn12 => (intro w hSw; (try dsimp only at hSw); go_simp <;> with_reducible rfl)
          simp only [Act.put, List.setIfInBounds_toArray, List.set_cons_zero, List.set_cons_succ]
          refine H_on 13 79 ?vn13 rfl rfl (by kernel_rfl) (by kernel_rfl) (by kernel_rfl) (by rfl) ?hn13 hHeld ?rn13
          case hn13 => (intro w hSw; (try dsimp only at hSw); go_simp <;> with_reducible rfl)
          simp only [Act.put, List.setIfInBounds_toArray, List.set_cons_zero, List.set_cons_succ]
          refine H_on 14 80 ?vn14 rfl rfl (by kernel_rfl) (by kernel_rfl) (by kernel_rfl) (by rfl) ?hn14 hHeld ?rn14
          case hn14 => (intro w hSw; (try dsimp only at hSw); go_simp <;> with_reducible rfl)
          simp only [Act.put, List.setIfInBounds_toArray, List.set_cons_zero, List.set_cons_succ]
          refine H_on 15 81 ?vn15 rfl rfl (by kernel_rfl) (by kernel_rfl) (by kernel_rfl) (by rfl) ?hn15 hHeld ?rn15
          case hn15 => (intro w hSw; (try dsimp only at hSw); go_simp <;> with_reducible rfl)
          simp only [Act.put, List.setIfInBounds_toArray, List.set_cons_zero, List.set_cons_succ]
          refine wpAnyH_ready (rs := [8]) (by kernel_rfl) (by simp) ?_
          refine AllReadyH.cons rfl (fun K hK => ?_) AllReadyH.nil
          go_simp
          refine hK.out _ _ trivial (fun hHeld => ?_)
          clear hK K
          try simp only [Act.put, List.setIfInBounds_toArray, List.set_cons_zero, List.set_cons_succ]
          refine wpAnyH_ready (rs := [9]) (by kernel_rfl) (by simp) ?_
          refine AllReadyH.cons rfl (fun K hK => ?_) AllReadyH.nil
          refine step_appendI (W := w3.drew) (B := B) (A1 := some ⟨g, 0, none⟩) (n := now.length) (c1 := cap) (now := now) (i : Int) (by rfl) _ _ rfl rfl rfl HRW.out HBW.out (by omega) ?_
          intro v5 w4 hR4 hb4
          have HR4 := Aside0.mk hR4
          have HB4 := Aside0.mk hb4
          clear hR4 hb4
          refine hK.out _ _ trivial (fun hHeld => ?_)
          clear hK K
          try simp only [Act.put, List.setIfInBounds_toArray, List.set_cons_zero, List.set_cons_succ]
          refine wpAnyH_ready (rs := [16]) (by kernel_rfl) (by simp) ?_
          refine AllReadyH.cons rfl (fun K hK => ?_) AllReadyH.nil
          go_simp
          refine (HREC.out v5 w4 HR4.out HB4.out).mono ?_
          rintro e w5 ⟨v6, rows6, rfl, hP6, hb6⟩
          have HP6 := Aside0.mk (HPW.out.more hP6)
          have HB6 := Aside0.mk hb6
          clear hP6 hb6
          go_wp2_with fail
          refine hK.out _ _ trivial (fun hHeld => ?_)
          clear hK K
          try simp only [Act.put, List.setIfInBounds_toArray, List.set_cons_zero, List.set_cons_succ]
          refine H_on 17 4 ?vn17 rfl rfl (by kernel_rfl) (by kernel_rfl) (by kernel_rfl) (by rfl) ?hn17 hHeld ?rn17
          case hn17 => (intro w hSw; (try dsimp only at hSw); go_simp <;> with_reducible rfl)
          simp only [Act.put, List.setIfInBounds_toArray, List.set_cons_zero, List.set_cons_succ]
          refine wpAnyH_done (by kernel_rfl) ?_ _
          refine NoPanic.normal ?_
          have HBF : Aside0 (Below W.heap.size W w5) := ⟨((below_drew HB3.out).trans (Below.mono HB4.out HB3.out.size)).trans (Below.mono HB6.out (Nat.le_trans HB3.out.size HB4.out.size))⟩
          go_wp2
          go_roundg (l.length - (i + 1))
          case measure => omega
          case rel => exact ⟨i + 1, _, rows6, by omega, by omega, by omega, by go_num, rfl, ⟨by rw [HG1.out]; exact HP6.out⟩, HBF⟩
    · have hltz : ¬ (i : Int) < (l.length : Int) := by omega
      have him : i = l.length := by omega
      subst him
      go_wp2
      go_ret
      exact ⟨_, rows, rfl, HP.out, HBr.out⟩
theorem ar_zero (l : List S39) (A : Option Addr) (c B : Nat) : ArSaid l A c B 0 := by
  intro now g cap at_ met vo R0 W hR hB hn ha0 hne hpc hat hm hro hok hlen hr
  have := pc_le met 8
  omega
theorem ar_all (l : List S39) (hg : goodT8 l) (A : Option Addr) (c B : Nat) (hc : l.length ≤ c) (h10 : l.length ≤ 10) : ∀ d, ArSaid l A c B d
  | 0 => ar_zero l A c B
  | d + 1 => ar_step l hg A c B d hc h10 (ar_all l hg A c B hc h10 d)
end Go.Proofs.Ytaegldcifhgnmaa.B

/- The specification's rings: the walk. (Printed by gen_x3.py.) -/
namespace Go.Proofs.Ytaegldcifhgnmaa.B
open Go.Proofs.Ytaegldcifhgnmaa.A
open Go.RowKit Go.Proofs.YtaegldcifhgnmaaW.PrintWords Go.Proofs.YtaegldcifhgnmaaW.PrintMore
set_option linter.unusedSimpArgs false

def sideF (l : List S39) (i j : Nat) : List (List Int) := if j = 0 then aroundF l 8 [(i : Int)] (l.getD i z39).f0.toNat (2 ^ (l.getD i z39).f0.toNat) else aroundF l 8 [(i : Int)] (l.getD i z39).f1.toNat (2 ^ (l.getD i z39).f1.toNat)
def ringsR (l : List S39) : List (List Int) := upF (fun i => upF (sideF l i) 2) l.length
theorem pc_one {v : Nat} (hv : v < 8) : pc (2 ^ v) 8 = 1 := by
  have := pc_or (met := 0) (v := v) (by simp) 8
  rw [Nat.zero_or, if_pos hv] at this
  rw [this]; rfl
theorem side_le {l : List S39} (h10 : l.length ≤ 10) (i j : Nat) : (sideF l i j).length ≤ 100000000 := by
  unfold sideF
  split <;> exact around_le h10 8 _ _ _
theorem Rows.nil (B : Nat) (W : World) : Rows B (.slice none 0 0) [] [] [] W := ⟨Kd.R_nil _ _ _ _ _, List.Perm.refl _, fun h => h, fun _ h => (by cases h)⟩

/-- What each call of around is asked for. -/
theorem side_calls (l : List S39) (hg : goodT8 l) (A : Option Addr) (c B : Nat) (hc : l.length ≤ c) (h10 : l.length ≤ 10) (i a : Nat) (hi : i < l.length) (ha : a < 8) (vo : Value) (rows : List RowT) (found : List (List Int)) (W : World) (hr : Kd.C k39 W A l.length l) (hB : B ≤ W.heap.size) (hP : Rows B vo rows [] found W) (hf : found.length ≤ 500000000000) (F : List (List Int)) (hF : aroundF l 8 [(i : Int)] a (2 ^ a) = F) :
    Calls Try.prog 86 #[.slice A l.length c, .slice (some ⟨W.heap.size, 0, none⟩) 1 1, .int .i64 a, .int .i64 ((2 : Int) ^ a), vo] (W.alloc (.cells #[.int .i64 (i : Int)] 3)) fun e w' => ∃ (v : Value) (rows' : List RowT), e = .returned v ∧ Rows B v rows' [] (found ++ F) w' ∧ Below W.heap.size W w' := by
  have hb : Below W.heap.size W (W.alloc (.cells #[.int .i64 (i : Int)] 3)) := below_alloc (Below.refl _ _) _
  have h1 := R_one W (i : Int) hB
  have hP1 := hP.below hb
  have hlen := hP.len
  have hle := around_le h10 8 [(i : Int)] a (2 ^ a)
  rw [← hF, pow_cast]
  refine (ar_all l hg A c B hc h10 8 [(i : Int)] W.heap.size 1 a (2 ^ a) vo rows _ h1 (Nat.le_trans hB hb.size) rfl ⟨i, rfl, hi⟩ (by simp) (pc_one ha) ha (Nat.pow_lt_pow_right (by decide) ha) hP1.1 hP1.2.2.2 (by rw [List.length_nil, Nat.add_zero] at hlen; have : 10 ^ 8 = 100000000 := rfl; omega) (Kd.C_below hr hb)).mono ?_
  rintro e w' ⟨v, rows', rfl, hR, hb'⟩
  exact ⟨v, rows', rfl, hP1.more hR, below_then hb hb.size hb'⟩

set_option maxRecDepth 100000 in
set_option maxHeartbeats 3200000 in
theorem rings_walk (l : List S39) (hg : goodT8 l) (A : Option Addr) (c : Nat) (hc : l.length ≤ c) (h10 : l.length ≤ 10) (n : Int) (W : World) (hr : Kd.C k39 W A l.length l) :
    Calls Try.prog 73 #[.int .i64 n, .slice A l.length c] W fun e w' => ∃ (v : Value) (rows : List RowT), e = .returned v ∧ Rows W.heap.size v rows [] (ringsR l) w' ∧ Below W.heap.size W w' := by
  have HA := Aside0.mk hr
  have HC := Aside0.mk hc
  have HG := Aside0.mk hg
  obtain ⟨G, hG⟩ : ∃ G, (fun i => upF (sideF l i) 2) = G := ⟨_, rfl⟩
  have hGL : ringsR l = upF G l.length := by rw [← hG]; rfl
  rw [hGL]
  have HGG : Aside0 (∀ i, G i = sideF l i 0 ++ sideF l i 1) := ⟨fun i => by rw [← hG]; rfl⟩
  have HGE : Aside0 (∀ i, i ≤ l.length → (upF G i).length ≤ 2000000000) := ⟨fun i hi => by
    have h1 : (upF G i).length ≤ i * 200000000 := upF_le i fun j _ => by
      rw [← hG]
      have h2 := upF_le (f := sideF l j) (B := 100000000) 2 fun k _ => side_le h10 j k
      omega
    have h3 : i * 200000000 ≤ 10 * 200000000 := Nat.mul_le_mul_right _ (by omega)
    omega⟩
  clear hr hc hg hG hGL
  go_enter Try.func73, Try.ntmps73
  go_wp2
  go_loopg [5, 6, 7, 8] l.length (fun gg v5 v6 _ _ wr => ∃ (i : Nat) (vq : Value) (rows : List RowT), i ≤ l.length ∧ l.length - i ≤ gg ∧ v6 = .int .i64 i ∧ vq = v5 ∧ Aside0 (Rows W.heap.size vq rows [] (upF G i) wr) ∧ Aside0 (Below W.heap.size W wr))
  case atStart => exact ⟨0, _, [], Nat.zero_le _, by omega, rfl, rfl, ⟨Rows.nil _ _⟩, ⟨Below.refl _ _⟩⟩
  case round =>
    obtain ⟨i, vq, rows, hi, hgg, rfl, hvq, HP, HBr⟩ := hrel
    subst hvq
    by_cases hlt : i < l.length
    · have hltz : (i : Int) < (l.length : Int) := by omega
      go_wp2
      go_loopg [5, 7, 8] 2 (fun g2 v5 v7 _ wr => ∃ (j : Nat) (vq : Value) (rows : List RowT), j ≤ 2 ∧ 2 - j ≤ g2 ∧ v7 = .int .i64 j ∧ vq = v5 ∧ Aside0 (Rows W.heap.size vq rows [] (upF G i ++ upF (sideF l i) j) wr) ∧ Aside0 (Below W.heap.size W wr))
      case atStart => exact ⟨0, _, rows, Nat.zero_le _, by omega, rfl, rfl, ⟨by rw [upF, List.append_nil]; exact HP.out⟩, HBr⟩
      case round =>
        clear HP HBr
        obtain ⟨j, vq, rows, hj, hg2, rfl, hvq, HP, HBr⟩ := hrel
        subst hvq
        obtain ⟨ad, had, hx0, hx1, hx2⟩ := at_T39 (Kd.C_below HA.out HBr.out) (i : Int) (by omega) (by omega)
        subst had
        rw [Int.toNat_natCast] at hx0 hx1 hx2
        have hrd : rd_T39 l (i : Int) = l.getD i z39 := by simp [rd_T39]
        rw [hrd] at hx0 hx1 hx2
        have hts := HG.out _ (getD_mem z39 hlt)
        obtain ⟨a, ha⟩ := Int.eq_ofNat_of_zero_le hts.1
        obtain ⟨b, hb⟩ := Int.eq_ofNat_of_zero_le (show 0 ≤ (l.getD i z39).f1 by omega)
        have HS0 : Aside0 (sideF l i 0 = aroundF l 8 [(i : Int)] a (2 ^ a)) := ⟨by unfold sideF; rw [if_pos rfl, ha, Int.toNat_natCast]⟩
        have HS1 : Aside0 (sideF l i 1 = aroundF l 8 [(i : Int)] b (2 ^ b)) := ⟨by unfold sideF; rw [if_neg (by decide), hb, Int.toNat_natCast]⟩
        rw [ha] at hx0
        rw [hb] at hx1
        have ha8 : a < 8 := by omega
        have hb8 : b < 8 := by omega
        have hwa := two_wrap (show a < 60 by omega)
        have hwb := two_wrap (show b < 60 by omega)
        have HEE := Aside0.mk (HGE.out i hi)
        clear ha hb hts hrd
        have hj3 : j = 0 ∨ j = 1 ∨ j = 2 := by omega
        rcases hj3 with rfl | rfl | rfl
        · have hjz : ((0 : Nat) : Int) < 2 := by decide
          go_wp2_with (go_at_call 86; go_must (refine (side_calls l HG.out (some ad) c W.heap.size HC.out h10 i a hlt ha8 vq rows (upF G i ++ upF (sideF l i) 0) wr (Kd.C_below HA.out HBr.out) HBr.out.size HP.out (by have := HEE.out; rw [upF, List.append_nil]; omega) (sideF l i 0) HS0.out.symm).mono ?_; rintro e w5 ⟨v5, rows5, rfl, hP5, hb5⟩; have HP5 := Aside0.mk hP5; have HB5 := Aside0.mk (below_then HBr.out HBr.out.size hb5); clear hP5 hb5))
          go_roundg (2 - 1)
          case measure => omega
          case rel => exact ⟨1, _, rows5, by decide, by omega, by go_num, rfl, ⟨by have := HP5.out; rw [List.append_assoc] at this; exact this⟩, HB5⟩
        · have hjz : ((1 : Nat) : Int) < 2 := by decide
          go_wp2_with (go_at_call 86; go_must (refine (side_calls l HG.out (some ad) c W.heap.size HC.out h10 i b hlt hb8 vq rows (upF G i ++ upF (sideF l i) 1) wr (Kd.C_below HA.out HBr.out) HBr.out.size HP.out (by have h1 := HEE.out; have h2 := side_le h10 i 0; rw [upF, upF, List.nil_append, List.length_append]; omega) (sideF l i 1) HS1.out.symm).mono ?_; rintro e w5 ⟨v5, rows5, rfl, hP5, hb5⟩; have HP5 := Aside0.mk hP5; have HB5 := Aside0.mk (below_then HBr.out HBr.out.size hb5); clear hP5 hb5))
          go_roundg (2 - 2)
          case measure => omega
          case rel => exact ⟨2, _, rows5, by decide, by omega, by go_num, rfl, ⟨by have := HP5.out; rw [List.append_assoc] at this; exact this⟩, HB5⟩
        · have hjz : ¬ ((2 : Nat) : Int) < 2 := by decide
          go_wp2
          go_roundg (l.length - (i + 1))
          case measure => omega
          case rel => exact ⟨i + 1, _, rows, by omega, by omega, by go_num, rfl, ⟨by rw [upF, HGG.out]; exact HP.out⟩, HBr⟩
    · have hltz : ¬ (i : Int) < (l.length : Int) := by omega
      have him : i = l.length := by omega
      subst him
      go_wp2
      go_ret
      exact ⟨_, rfl, ⟨rows, HP.out⟩, HBr.out⟩
end Go.Proofs.Ytaegldcifhgnmaa.B
