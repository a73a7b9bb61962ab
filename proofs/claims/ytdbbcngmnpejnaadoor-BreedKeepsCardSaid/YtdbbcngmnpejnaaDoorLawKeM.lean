/- BreedKeeps holds: its code returns true and leaves what it was given as it was. Conditions: those of the given statement, none besides. -/
import Derived.Test.YtdbbcngmnpejnaaDoorZKe4
import Derived.Test.YtdbbcngmnpejnaaDoorProg
import Derived.Below
import Derived.Deep.Draws
import Derived.Deep.AppendLies
import Derived.Maps.AppendAt
import Derived.OwnWalk
import Derived.Laws.BytesArg
import Derived.Laws.MakeOwn
import Derived.Laws.OwnMore
import Derived.Deep.OwnRows
import Derived.Tactics
import Derived.Lib.ConvBytes
import Derived.Laws.Slices
import Derived.WalkKit
import Derived.KernelRfl
import Derived.RowKit3
import Derived.Deep.LoopGhost
import Derived.Deep.QuietTactic
import Derived.BigQuiet
import Derived.WideLaws
import Derived.Deep.DeepCutAuto
import Derived.Deep.CutBlock
import Derived.Deep.RegionHeld3
import Derived.Laws.Rows
import Derived.Lib.AppendStr
import Derived.ArgAppend
import Derived.Laws.IdiomCopy
import Derived.OrdersHeld
import Derived.Laws.BitsLemmas
import Derived.RowKit
import Derived.Test.YtdbbcngmnpejnaaDoorWWords
import Derived.Test.YtdbbcngmnpejnaaDoorWLast
import Derived.Test.YtdbbcngmnpejnaaDoorWTab
import Derived.Test.YtdbbcngmnpejnaaDoorWRepsOne
import Derived.Test.YtdbbcngmnpejnaaDoorWGuard
import Derived.Test.YtdbbcngmnpejnaaDoorRows
import Derived.ProofKit
import Derived.LaidMore
import Derived.OpenShut
import Derived.Stop.Joined
import Derived.Test.YtdbbcngmnpejnaaDoorCards
import Derived.Test.YtdbbcngmnpejnaaDoorTie
import Derived.SevenTiedAt
import Derived.ShutString
import Derived.ChangeOld
import Derived.SizedLaws
import Derived.Test.YtdbbcngmnpejnaaDoorWSized
/- The reference's Kept and Agree, as the kit's print writes them. -/
namespace Go.Proofs.YtdbbcngmnpejnaaDoor.B
open Go.Proofs.YtdbbcngmnpejnaaDoor.A
open Go.RowKit Go.Proofs.YtdbbcngmnpejnaaDoorW.PrintWords Go.Proofs.YtdbbcngmnpejnaaDoorW.PrintLast Go.Proofs.YtdbbcngmnpejnaaDoorW.PrintMore
section
attribute [local go_sem] max2_int min2_int max_two min_two max_three min_three max_four min_four   -- for this text's walks alone
set_option linter.unusedVariables false
set_option linter.unusedSimpArgs false
/-! ### drovewayref05_Kept: function 25 -/
def drovewayref05_Kept.j0 : Nat → Int → Int → Bool → Int → List (S85) → Option (ByteArray × Int)
  | 0, _, _, _, _, _ => none
  | k + 1, x2, x9, x27, x317000, x317001 => if x27 = true then (if 2 = 0 then ((drovewayref05_kept.f k x317000 x317001 x2).bind fun t317 => (some (t317, 0))) else (some ((⟨#[]⟩ : ByteArray), 2))) else (if x9 = 0 then ((drovewayref05_kept.f k x317000 x317001 x2).bind fun t318 => (some (t318, 0))) else (some ((⟨#[]⟩ : ByteArray), x9)))
def drovewayref05_Kept.f (k : Nat) (a0 : Int) (a1 : ByteArray) (a2 : Int) : Option (ByteArray × Int) := (drovewayref05_asked.f k a0 a1).bind fun bt311 => (if bt311.2.2 = 0 then (if a2 < 1 then (drovewayref05_Kept.j0 k a2 bt311.2.2 true bt311.1 bt311.2.1) else (if 0 ≤ a0 then (drovewayref05_Kept.j0 k a2 bt311.2.2 (decide (a2 ≥ (shl .i64 1 a0))) bt311.1 bt311.2.1) else (none))) else (drovewayref05_Kept.j0 k a2 bt311.2.2 false bt311.1 bt311.2.1))
set_option maxHeartbeats 8000000 in
set_option maxRecDepth 100000 in
theorem drovewayref05_Kept.calls (k : Nat) (a0 : Int) (a1 : ByteArray) (a2 : Int) (r1 : ByteArray) (r2 : Int) (w : World) (h : drovewayref05_Kept.f k a0 a1 a2 = some (r1, r2)) :
    Calls Tryd.prog 25 #[.int .i64 a0, .string a1, .int .i64 a2] w fun e w' => e = .returned (.tuple #[.string r1, .int .i64 r2]) ∧ Below w.heap.size w w' := by
  have hu85 := Tryd.underlying85
  have HB := Aside0.mk (Below.refl w.heap.size w)
  have H : ((drovewayref05_asked.f k a0 a1).bind fun bt311 => (if bt311.2.2 = 0 then (if a2 < 1 then (drovewayref05_Kept.j0 k a2 bt311.2.2 true bt311.1 bt311.2.1) else (if 0 ≤ a0 then (drovewayref05_Kept.j0 k a2 bt311.2.2 (decide (a2 ≥ (shl .i64 1 a0))) bt311.1 bt311.2.1) else (none))) else (drovewayref05_Kept.j0 k a2 bt311.2.2 false bt311.1 bt311.2.1))) = some (r1, r2) := h
  clear h
  replace H := Option.bind_eq_some_iff.mp H
  obtain ⟨⟨t311, t312, t315⟩, A40, H⟩ := H
  replace H : (if t315 = 0 then (if a2 < 1 then (drovewayref05_Kept.j0 k a2 t315 true t311 t312) else (if 0 ≤ a0 then (drovewayref05_Kept.j0 k a2 t315 (decide (a2 ≥ (shl .i64 1 a0))) t311 t312) else (none))) else (drovewayref05_Kept.j0 k a2 t315 false t311 t312)) = some (r1, r2) := H
  have A4 := Aside0.mk A40
  clear A40
  have HC5 := Aside0.mk H
  clear H
  go_enter Tryd.func25, Tryd.ntmps25
  go_upto_region 2 with (first | ((with_reducible refine gate_callee (f := 54) rfl ?_); refine goesL_ (some 13) rfl rfl Tryd.func54 (by kernel_rfl) rfl #[.int .i64 a0, .string a1] rfl (by (try simp only [List.map_toArray, List.map_cons, List.map_nil]); first | done | rfl | (simp only [List.length_drop, List.length_take]; rfl)) ?_; (with_reducible refine (drovewayref05_asked.calls k a0 a1 t311 t312 t315 _ A4.out).mono ?_); rintro e w6 ⟨v313, rfl, ho0, hb⟩; refine ⟨_, rfl, ?_⟩; have n0_ := Aside0.mk (Kd.R_lower ho0 (below_size (by repeat (first | (with_reducible first | exact HB.out | apply below_alloc | apply pw_below_drewN | apply below_drew1) | exact HB.out)))); have n1_ := Aside0.mk (below_step (by repeat (first | (with_reducible first | exact HB.out | apply below_alloc | apply pw_below_drewN | apply below_drew1) | exact HB.out)) hb); clear HB; have HO314 := n0_; have HB := n1_; clear n0_ n1_; (try clear hb); (try clear hb2); (try clear hk); (try clear hi); (try clear ho0)) | ((with_reducible refine gate_dst (N := 8) rfl ?_); refine box_event ?hg (N := 8) ?hd (cs := #[.int .i64 0, .slice none 0 0]) (t := 85) ?hr ?_; (case hd => rfl); (case hg => rfl); (case hr => first | (go_simp; done) | (go_simp; rfl)); intro gb316 hg w7 hbox hb; have n0_ := Aside0.mk (Kd.R_below (Kd.R_elderB (by (with_reducible repeat (first | apply Kd.R_alloc | apply Kd.R_drewN | apply Kd.R_drew)); exact HO314.out) gb316 (Nat.le_of_eq hg.symm)) hb); have n1_ := Aside0.mk (below_step (by repeat (first | (with_reducible first | exact HB.out | apply below_alloc | apply pw_below_drewN | apply below_drew1) | exact HB.out)) hb); have n2_ := Aside0.mk (hbox); have n3_ := Aside0.mk ((by rw [hg]; exact (below_size (by repeat (first | (with_reducible first | exact HB.out | apply below_alloc | apply pw_below_drewN | apply below_drew1) | exact HB.out))) : w.heap.size ≤ gb316)); have n4_ := Aside0.mk ((by rw [hg]; exact (below_size (by repeat (first | (with_reducible first | exact HB.out | apply below_alloc | apply pw_below_drewN | apply below_drew1) | exact HB.out))) : w.heap.size ≤ gb316)); clear HO314; clear HB; have HO314 := n0_; have HB := n1_; have BK316 := n2_; have GW316 := n3_; have GE316 := n4_; clear n0_ n1_ n2_ n3_ n4_; clear hb hbox hg; have hcz8_0 : w7.cell? ⟨gb316, 0, none⟩ = some (.int .i64 0) := (blk_cell BK316.out 0).trans rfl; have hcz8_1 : w7.cell? ⟨gb316, 1, none⟩ = some (.slice none 0 0) := (blk_cell BK316.out 1).trans rfl; have hfz8_0 := blk_frozen BK316.out 0; have hfz8_1 := blk_frozen BK316.out 1; obtain ⟨Ao9, co9, eo9⟩ := Kd.R_slice HO314.out; subst eo9))
  (try simp only [Act.put, List.setIfInBounds_toArray, List.set_cons_zero, List.set_cons_succ])
  go_cut [27] (fun v27 wc => ∃ (kq : Nat) (x27_4 : Bool), v27 = .bool x27_4 ∧ Aside0 (drovewayref05_Kept.j0 kq a2 t315 x27_4 t311 t312 = some (r1, r2)) ∧ Aside0 (kq ≤ k) ∧ Aside0 (Kd.R k85 85 wc w.heap.size (fun k_ => k_ ≠ gb316) (.slice Ao9 t312.length co9) t312) ∧ Aside0 (wc.heap[gb316]? = some (.cells #[.int .i64 t311, (.slice Ao9 t312.length co9)] 85 (0, 0))) ∧ Aside0 (Below w.heap.size w wc))
  case first =>
    have H := HC5.out
    clear HC5
    by_cases c10 : t315 = 0
    · rw [if_pos c10] at H
      have c10b0 : (t315 == 0) = true := beq_iff_eq.mpr c10
      have c10b1 : (t315 != 0) = false := bne_eq_false_iff_eq.mpr c10
      clear c10
      (first | rw [c10b0] | (simp only [i64_w, i32_w]; rw [c10b0]) | skip)
      by_cases c11 : a2 < 1
      · rw [if_pos c11] at H
        have c11b0 : decide (a2 < 1) = true := decide_eq_true c11
        clear c11
        have H' := Aside0.mk H
        clear H
        go_wp2
        go_meet
        case rel => exact ⟨_, (true), (by first | rfl | (simp; done) | (simp [*]; done)), H', ⟨by first | omega | exact Nat.le_refl _⟩, ⟨by (with_reducible repeat (first | apply Kd.R_alloc | apply Kd.R_drewN | apply Kd.R_drew)); exact Kd.R_mono (Kd.R_far (p := ⟨gb316, 1, none⟩) (Kd.R_far (p := ⟨gb316, 0, none⟩) (Kd.R_mono HO314.out (fun k_ hk => (⟨hk, hk.2⟩ : _ ∧ k_ ≠ gb316))) (fun _ hk => hk.2) (.int .i64 t311)) (fun _ hk => hk.2) (.slice Ao9 t312.length co9)) (fun _ hk => hk.1.2)⟩, ⟨by (with_reducible repeat (first | refine blk_drewN ?_ _ | refine blk_drew ?_ | refine blk_alloc ?_ _)); refine blk_put (cs := #[.int .i64 t311, .slice none 0 0]) ?_ 1 _ rfl; (with_reducible repeat (first | refine blk_drewN ?_ _ | refine blk_drew ?_ | refine blk_alloc ?_ _)); refine blk_put (cs := #[.int .i64 0, .slice none 0 0]) ?_ 0 _ rfl; (with_reducible repeat (first | refine blk_drewN ?_ _ | refine blk_drew ?_ | refine blk_alloc ?_ _)); exact BK316.out⟩, ⟨by repeat (first | (with_reducible first | exact HB.out | apply below_alloc | apply pw_below_drewN | apply below_drew1 | refine below_set ?_ GE316.out) | exact HB.out)⟩⟩
      · rw [if_neg c11] at H
        have c11b0 : decide (a2 < 1) = false := decide_eq_false c11
        clear c11
        by_cases c12 : 0 ≤ a0
        · rw [if_pos c12] at H
          have c12b0 := eq_true c12
          have c12b1 : decide (0 ≤ a0) = true := decide_eq_true c12
          clear c12
          obtain ⟨ji13, hji13⟩ : ∃ j_ : Int, (shl .i64 1 a0) = j_ := ⟨_, rfl⟩
          replace H : (drovewayref05_Kept.j0 k a2 t315 (decide (a2 ≥ (ji13))) t311 t312) = some (r1, r2) := by first | (rw [hji13] at H; exact H) | (simp only [hji13] at H ⊢; exact H)
          have hji13_ : (IntKind.i64.wrap (1 * 2 ^ min a0.toNat 64)) = ji13 := hji13
          have hji13z : a0 ≤ 64 → (IntKind.i64.wrap (1 * 2 ^ a0.toNat)) = ji13 := shl_small hji13
          have hji13u : (IntKind.i64.wrap (2 ^ min a0.toNat 64)) = ji13 := by have h_ := hji13_; rw [Int.one_mul] at h_; exact h_
          have hji13v : a0 ≤ 64 → (IntKind.i64.wrap (2 ^ a0.toNat)) = ji13 := fun hle_ => by have h_ := hji13z hle_; rw [Int.one_mul] at h_; exact h_
          have hji13y : (wrap64 (1 * 2 ^ min a0.toNat 64)) = ji13 := (i64_w _).symm.trans hji13_
          have hji13x : a0 ≤ 64 → (wrap64 (1 * 2 ^ a0.toNat)) = ji13 := fun h_ => (i64_w _).symm.trans (hji13z h_)
          have H' := Aside0.mk H
          clear H
          go_wp2
          go_meet
          case rel => exact ⟨_, (decide (a2 ≥ (ji13))), (by first | rfl | (simp; done) | (simp only [← hji13] <;> (first | rfl | simp)) | (simp [*]; done)), H', ⟨by first | omega | exact Nat.le_refl _⟩, ⟨by (with_reducible repeat (first | apply Kd.R_alloc | apply Kd.R_drewN | apply Kd.R_drew)); exact Kd.R_mono (Kd.R_far (p := ⟨gb316, 1, none⟩) (Kd.R_far (p := ⟨gb316, 0, none⟩) (Kd.R_mono HO314.out (fun k_ hk => (⟨hk, hk.2⟩ : _ ∧ k_ ≠ gb316))) (fun _ hk => hk.2) (.int .i64 t311)) (fun _ hk => hk.2) (.slice Ao9 t312.length co9)) (fun _ hk => hk.1.2)⟩, ⟨by (with_reducible repeat (first | refine blk_drewN ?_ _ | refine blk_drew ?_ | refine blk_alloc ?_ _)); refine blk_put (cs := #[.int .i64 t311, .slice none 0 0]) ?_ 1 _ rfl; (with_reducible repeat (first | refine blk_drewN ?_ _ | refine blk_drew ?_ | refine blk_alloc ?_ _)); refine blk_put (cs := #[.int .i64 0, .slice none 0 0]) ?_ 0 _ rfl; (with_reducible repeat (first | refine blk_drewN ?_ _ | refine blk_drew ?_ | refine blk_alloc ?_ _)); exact BK316.out⟩, ⟨by repeat (first | (with_reducible first | exact HB.out | apply below_alloc | apply pw_below_drewN | apply below_drew1 | refine below_set ?_ GE316.out) | exact HB.out)⟩⟩
        · rw [if_neg c12] at H
          exact absurd H (by simp)
    · rw [if_neg c10] at H
      have c10b0 : (t315 == 0) = false := beq_eq_false_iff_ne.mpr c10
      have c10b1 : (t315 != 0) = true := bne_iff_ne.mpr c10
      (first | rw [c10b0] | (simp only [i64_w, i32_w]; rw [c10b0]) | skip)
      have H' := Aside0.mk H
      clear H
      go_wp2
      go_meet
      case rel => exact ⟨_, (false), (by first | rfl | (simp; done) | (simp [*]; done)), H', ⟨by first | omega | exact Nat.le_refl _⟩, ⟨by (with_reducible repeat (first | apply Kd.R_alloc | apply Kd.R_drewN | apply Kd.R_drew)); exact Kd.R_mono (Kd.R_far (p := ⟨gb316, 1, none⟩) (Kd.R_far (p := ⟨gb316, 0, none⟩) (Kd.R_mono HO314.out (fun k_ hk => (⟨hk, hk.2⟩ : _ ∧ k_ ≠ gb316))) (fun _ hk => hk.2) (.int .i64 t311)) (fun _ hk => hk.2) (.slice Ao9 t312.length co9)) (fun _ hk => hk.1.2)⟩, ⟨by (with_reducible repeat (first | refine blk_drewN ?_ _ | refine blk_drew ?_ | refine blk_alloc ?_ _)); refine blk_put (cs := #[.int .i64 t311, .slice none 0 0]) ?_ 1 _ rfl; (with_reducible repeat (first | refine blk_drewN ?_ _ | refine blk_drew ?_ | refine blk_alloc ?_ _)); refine blk_put (cs := #[.int .i64 0, .slice none 0 0]) ?_ 0 _ rfl; (with_reducible repeat (first | refine blk_drewN ?_ _ | refine blk_drew ?_ | refine blk_alloc ?_ _)); exact BK316.out⟩, ⟨by repeat (first | (with_reducible first | exact HB.out | apply below_alloc | apply pw_below_drewN | apply below_drew1 | refine below_set ?_ GE316.out) | exact HB.out)⟩⟩
  case rest =>
    clear HC5
    try clear c1
    try clear c2
    try clear p2
    try clear c5
    try clear p6
    try clear c10
    try clear c10b0
    try clear c10b1
    try clear c11
    try clear c11b0
    try clear c12
    try clear c12b0
    try clear c12b1
    try clear hcz8_0
    try clear hcz8_1
    try clear hfz8_0
    try clear hfz8_1
    obtain ⟨kq, x27_4, rfl, HA, HJ4, HO_317001, BK316, HB⟩ := hcut
    cases kq with
    | zero => exact absurd HA.out (by simp [drovewayref05_Kept.j0])
    | succ kj4 =>
      have H := HA.out
      clear HA
      simp only [drovewayref05_Kept.j0] at H
      by_cases c14 : x27_4 = true
      · subst c14
        have H1 : (if 2 = 0 then ((drovewayref05_kept.f kj4 t311 t312 a2).bind fun t317 => (some (t317, 0))) else (some ((⟨#[]⟩ : ByteArray), 2))) = some (r1, r2) := by rw [if_pos rfl] at H; exact H
        clear H
        have H := H1
        clear H1
        by_cases c15 : 2 = 0
        · exact absurd c15 (by decide)
        · rw [if_neg c15] at H
          have c15b0 : (2 == 0) = false := beq_eq_false_iff_ne.mpr c15
          have c15b1 : (2 != 0) = true := bne_iff_ne.mpr c15
          simp only [Option.some.injEq, Prod.mk.injEq] at H
          obtain ⟨rfl, rfl⟩ := H
          go_wp2
          go_ret2
          exact ⟨by first | rfl | (simp [errW_none, errW_some] <;> rfl) | (simp [*, errW_none, errW_some] <;> rfl), by repeat (first | (with_reducible first | exact HB.out | apply below_alloc | apply pw_below_drewN | apply below_drew1 | refine below_set ?_ GE316.out) | exact HB.out)⟩
      · replace c14 := Bool.eq_false_iff.mpr c14
        subst c14
        have H1 : (if t315 = 0 then ((drovewayref05_kept.f kj4 t311 t312 a2).bind fun t318 => (some (t318, 0))) else (some ((⟨#[]⟩ : ByteArray), t315))) = some (r1, r2) := by rw [if_neg (show ¬ (false = true) by decide)] at H; exact H
        clear H
        have H := H1
        clear H1
        by_cases c19 : t315 = 0
        · rw [if_pos c19] at H
          have c19b0 : (t315 == 0) = true := beq_iff_eq.mpr c19
          have c19b1 : (t315 != 0) = false := bne_eq_false_iff_eq.mpr c19
          clear c19
          replace H := Option.bind_eq_some_iff.mp H
          obtain ⟨t318, A200, H⟩ := H
          replace H : (some (t318, 0)) = some (r1, r2) := H
          have A20 := Aside0.mk A200
          clear A200
          simp only [Option.some.injEq, Prod.mk.injEq] at H
          obtain ⟨rfl, rfl⟩ := H
          have hcz21_0 : wc.cell? ⟨gb316, 0, none⟩ = some (.int .i64 t311) := (blk_cell BK316.out 0).trans rfl
          have hcz21_1 : wc.cell? ⟨gb316, 1, none⟩ = some (.slice Ao9 t312.length co9) := (blk_cell BK316.out 1).trans rfl
          have hfz21_0 := blk_frozen BK316.out 0
          have hfz21_1 := blk_frozen BK316.out 1
          go_wp2_with (first | ((with_reducible refine gate_callee (f := 55) rfl ?_); refine goesL_ (some 33) rfl rfl Tryd.func55 (by kernel_rfl) rfl #[.agg #[.int .i64 t311, .slice Ao9 t312.length co9], .int .i64 a2] rfl (by (try simp only [List.map_toArray, List.map_cons, List.map_nil]); first | done | rfl | (simp only [List.length_drop, List.length_take]; rfl)) ?_; (with_reducible refine (drovewayref05_kept.calls kj4 t311 _ _ t312 a2 t318 _ ?side1 ?side2 A20.out).mono ?_); (case side1 => repeat (first | exact (Kd.R_reads' HO_317001.out).2.2 | (with_reducible refine Kd.C_alloc ?_ _) | (with_reducible refine Kd.C_drewN ?_ _) | (with_reducible refine Kd.C_drew ?_))); (case side2 => exact (Kd.R_reads' HO_317001.out).2.1); rintro e w22 ⟨rfl, hb⟩; refine ⟨_, rfl, ?_⟩; have n0_ := Aside0.mk (Kd.R_below (by (with_reducible repeat (first | apply Kd.R_alloc | apply Kd.R_drewN | apply Kd.R_drew)); exact HO_317001.out) hb); have n1_ := Aside0.mk (blk_below (g := gb316) (o := .cells #[.int .i64 t311, .slice Ao9 t312.length co9] 85 (0, 0)) (by (with_reducible repeat (first | refine blk_drewN ?_ _ | refine blk_drew ?_ | refine blk_alloc ?_ _)); exact BK316.out) hb); have n2_ := Aside0.mk (below_step (by repeat (first | (with_reducible first | exact HB.out | apply below_alloc | apply pw_below_drewN | apply below_drew1 | refine below_set ?_ GE316.out) | exact HB.out)) hb); clear HO_317001; clear BK316; clear HB; have HO_317001 := n0_; have BK316 := n1_; have HB := n2_; clear n0_ n1_ n2_; (try clear hb); (try clear hb2); (try clear hk); (try clear hi)))
          go_ret2
          exact ⟨by first | rfl | (simp [errW_none, errW_some] <;> rfl) | (simp [*, errW_none, errW_some] <;> rfl), by repeat (first | (with_reducible first | exact HB.out | apply below_alloc | apply pw_below_drewN | apply below_drew1 | refine below_set ?_ GE316.out) | exact HB.out)⟩
        · rw [if_neg c19] at H
          have c19b0 : (t315 == 0) = false := beq_eq_false_iff_ne.mpr c19
          have c19b1 : (t315 != 0) = true := bne_iff_ne.mpr c19
          simp only [Option.some.injEq, Prod.mk.injEq] at H
          obtain ⟨rfl, rfl⟩ := H
          go_wp2
          go_ret2
          exact ⟨by first | rfl | (simp [errW_none, errW_some] <;> rfl) | (simp [*, errW_none, errW_some] <;> rfl), by repeat (first | (with_reducible first | exact HB.out | apply below_alloc | apply pw_below_drewN | apply below_drew1 | refine below_set ?_ GE316.out) | exact HB.out)⟩

/-! ### drovewayref05_Agree: function 27 -/
def drovewayref05_Agree.l0 : Nat → Int → Int → Int → Int → List (S85) → Int → List (S85) → Option (Int × Int)
  | 0, _, _, _, _, _, _, _ => none
  | k + 1, x0, x11, x12, x328000, x328001, x334000, x334001 => if 0 ≤ x0 then (if x12 < (shl .i64 1 x0) then ((drovewayref05_size.f k x12).bind fun t334 => ((drovewayref05_size.f k x11).bind fun t335 => (if t334 > t335 then ((drovewayref05_kept.f k x328000 x328001 x12).bind fun t336 => ((drovewayref05_kept.f k x334000 x334001 x12).bind fun t337 => (if t336.toList = t337.toList then (drovewayref05_Agree.l0 k x0 x12 (wrap64 (x12 + 1)) x328000 x328001 x334000 x334001) else (drovewayref05_Agree.l0 k x0 x11 (wrap64 (x12 + 1)) x328000 x328001 x334000 x334001)))) else (drovewayref05_Agree.l0 k x0 x11 (wrap64 (x12 + 1)) x328000 x328001 x334000 x334001)))) else (some (x11, 0))) else (none)
def drovewayref05_Agree.f (k : Nat) (a0 : Int) (a1 : ByteArray) (a2 : ByteArray) : Option (Int × Int) := (drovewayref05_asked.f k a0 a1).bind fun bt322 => (if bt322.2.2 = 0 then ((drovewayref05_asked.f k a0 a2).bind fun bt328 => (if bt328.2.2 = 0 then (drovewayref05_Agree.l0 k a0 0 1 bt322.1 bt322.2.1 bt328.1 bt328.2.1) else (some (0, bt328.2.2)))) else (some (0, bt322.2.2)))
def drovewayref05_Agree.T11 : Bool × List (List Nat × List Nat) := (true, [([], []), ([0], [0]), ([], []), ([2, 1], [2]), ([1, 3], [1, 3]), ([4, 3], [4]), ([5], [5]), ([5], [5]), ([6, 7, 5, 5], [5, 6, 7]), ([5], [5]), ([5], [5]), ([9, 10, 8, 5], [5, 9, 10]), ([8, 11, 5], [5, 8, 11]), ([5, 12], [5, 12])])
def drovewayref05_Agree.B11 : List Nat := [0, 1, 0, 7, 15, 31, 63, 63, 255, 63, 63, 2047, 4095, 8191]
theorem drovewayref05_Agree.tab11 : rtab .any (opsOf Tryd.f27 11) = drovewayref05_Agree.T11 := by kernel_rfl
theorem drovewayref05_Agree.bits11 : waitsOk drovewayref05_Agree.T11.2 drovewayref05_Agree.B11 = true := by kernel_rfl
set_option maxHeartbeats 8000000 in
set_option maxRecDepth 100000 in
theorem drovewayref05_Agree.calls (k : Nat) (a0 : Int) (a1 : ByteArray) (a2 : ByteArray) (r1 : Int) (r2 : Int) (w : World) (h : drovewayref05_Agree.f k a0 a1 a2 = some (r1, r2)) :
    Calls Tryd.prog 27 #[.int .i64 a0, .string a1, .string a2] w fun e w' => e = .returned (.tuple #[.int .i64 r1, .int .i64 r2]) ∧ Below w.heap.size w w' := by
  have hu85 := Tryd.underlying85
  have HB := Aside0.mk (Below.refl w.heap.size w)
  have H : ((drovewayref05_asked.f k a0 a1).bind fun bt322 => (if bt322.2.2 = 0 then ((drovewayref05_asked.f k a0 a2).bind fun bt328 => (if bt328.2.2 = 0 then (drovewayref05_Agree.l0 k a0 0 1 bt322.1 bt322.2.1 bt328.1 bt328.2.1) else (some (0, bt328.2.2)))) else (some (0, bt322.2.2)))) = some (r1, r2) := h
  clear h
  replace H := Option.bind_eq_some_iff.mp H
  obtain ⟨⟨t322, t323, t326⟩, A40, H⟩ := H
  replace H : (if t326 = 0 then ((drovewayref05_asked.f k a0 a2).bind fun bt328 => (if bt328.2.2 = 0 then (drovewayref05_Agree.l0 k a0 0 1 t322 t323 bt328.1 bt328.2.1) else (some (0, bt328.2.2)))) else (some (0, t326))) = some (r1, r2) := H
  have A4 := Aside0.mk A40
  clear A40
  by_cases c5 : t326 = 0
  · rw [if_pos c5] at H
    have c5b0 : (t326 == 0) = true := beq_iff_eq.mpr c5
    have c5b1 : (t326 != 0) = false := bne_eq_false_iff_eq.mpr c5
    clear c5
    replace H := Option.bind_eq_some_iff.mp H
    obtain ⟨⟨t328, t329, t332⟩, A60, H⟩ := H
    replace H : (if t332 = 0 then (drovewayref05_Agree.l0 k a0 0 1 t322 t323 t328 t329) else (some (0, t332))) = some (r1, r2) := H
    have A6 := Aside0.mk A60
    clear A60
    by_cases c7 : t332 = 0
    · rw [if_pos c7] at H
      have c7b0 : (t332 == 0) = true := beq_iff_eq.mpr c7
      have c7b1 : (t332 != 0) = false := bne_eq_false_iff_eq.mpr c7
      clear c7
      have H' := Aside0.mk H
      clear H
      go_enter Tryd.func27, Tryd.ntmps27
      go_wp2_with (first | ((with_reducible refine gate_callee (f := 54) rfl ?_); refine goesL_ (some 16) rfl rfl Tryd.func54 (by kernel_rfl) rfl #[.int .i64 a0, .string a1] rfl (by (try simp only [List.map_toArray, List.map_cons, List.map_nil]); first | done | rfl | (simp only [List.length_drop, List.length_take]; rfl)) ?_; (with_reducible refine (drovewayref05_asked.calls k a0 a1 t322 t323 t326 _ A4.out).mono ?_); rintro e w8 ⟨v324, rfl, ho0, hb⟩; refine ⟨_, rfl, ?_⟩; have n0_ := Aside0.mk (Kd.R_lower ho0 (below_size (by repeat (first | (with_reducible first | exact HB.out | apply below_alloc | apply pw_below_drewN | apply below_drew1) | exact HB.out)))); have n1_ := Aside0.mk (below_step (by repeat (first | (with_reducible first | exact HB.out | apply below_alloc | apply pw_below_drewN | apply below_drew1) | exact HB.out)) hb); clear HB; have HO325 := n0_; have HB := n1_; clear n0_ n1_; (try clear hb); (try clear hb2); (try clear hk); (try clear hi); (try clear ho0)) | ((with_reducible refine gate_dst (N := 8) rfl ?_); refine box_event ?hg (N := 8) ?hd (cs := #[.int .i64 0, .slice none 0 0]) (t := 85) ?hr ?_; (case hd => rfl); (case hg => rfl); (case hr => first | (go_simp; done) | (go_simp; rfl)); intro gb327 hg w9 hbox hb; have n0_ := Aside0.mk (Kd.R_below (Kd.R_elderB (by (with_reducible repeat (first | apply Kd.R_alloc | apply Kd.R_drewN | apply Kd.R_drew)); exact HO325.out) gb327 (Nat.le_of_eq hg.symm)) hb); have n1_ := Aside0.mk (below_step (by repeat (first | (with_reducible first | exact HB.out | apply below_alloc | apply pw_below_drewN | apply below_drew1) | exact HB.out)) hb); have n2_ := Aside0.mk (hbox); have n3_ := Aside0.mk ((by rw [hg]; exact (below_size (by repeat (first | (with_reducible first | exact HB.out | apply below_alloc | apply pw_below_drewN | apply below_drew1) | exact HB.out))) : w.heap.size ≤ gb327)); have n4_ := Aside0.mk ((by rw [hg]; exact (below_size (by repeat (first | (with_reducible first | exact HB.out | apply below_alloc | apply pw_below_drewN | apply below_drew1) | exact HB.out))) : w.heap.size ≤ gb327)); clear HO325; clear HB; have HO325 := n0_; have HB := n1_; have BK327 := n2_; have GW327 := n3_; have GE327 := n4_; clear n0_ n1_ n2_ n3_ n4_; clear hb hbox hg; have hcz10_0 : w9.cell? ⟨gb327, 0, none⟩ = some (.int .i64 0) := (blk_cell BK327.out 0).trans rfl; have hcz10_1 : w9.cell? ⟨gb327, 1, none⟩ = some (.slice none 0 0) := (blk_cell BK327.out 1).trans rfl; have hfz10_0 := blk_frozen BK327.out 0; have hfz10_1 := blk_frozen BK327.out 1; obtain ⟨Ao11, co11, eo11⟩ := Kd.R_slice HO325.out; subst eo11) | ((with_reducible refine gate_callee (f := 54) rfl ?_); refine goesL_ (some 25) rfl rfl Tryd.func54 (by kernel_rfl) rfl #[.int .i64 a0, .string a2] rfl (by (try simp only [List.map_toArray, List.map_cons, List.map_nil]); first | done | rfl | (simp only [List.length_drop, List.length_take]; rfl)) ?_; (with_reducible refine (drovewayref05_asked.calls k a0 a2 t328 t329 t332 _ A6.out).mono ?_); rintro e w12 ⟨v330, rfl, ho0, hb⟩; refine ⟨_, rfl, ?_⟩; have n0_ := Aside0.mk (Kd.R_elder' (by (with_reducible repeat (first | apply Kd.R_alloc | apply Kd.R_drewN | apply Kd.R_drew)); exact (Kd.R_mono (Kd.R_far (p := ⟨gb327, 1, none⟩) (Kd.R_far (p := ⟨gb327, 0, none⟩) (Kd.R_mono HO325.out (fun k_ hk => (⟨hk, hk.2⟩ : _ ∧ k_ ≠ gb327))) (fun _ hk => hk.2) (.int .i64 t322)) (fun _ hk => hk.2) (.slice Ao11 t323.length co11)) (fun _ h_ => h_.1))) (Kd.R_base ho0) hb); have n1_ := Aside0.mk (Kd.R_lower (Kd.R_newB (Kd.R_new' ho0 (Kd.R_lt (by (with_reducible repeat (first | apply Kd.R_alloc | apply Kd.R_drewN | apply Kd.R_drew)); exact (Kd.R_mono (Kd.R_far (p := ⟨gb327, 1, none⟩) (Kd.R_far (p := ⟨gb327, 0, none⟩) (Kd.R_mono HO325.out (fun k_ hk => (⟨hk, hk.2⟩ : _ ∧ k_ ≠ gb327))) (fun _ hk => hk.2) (.int .i64 t322)) (fun _ hk => hk.2) (.slice Ao11 t323.length co11)) (fun _ h_ => h_.1))))) (g := gb327) (o := .cells #[.int .i64 t322, .slice Ao11 t323.length co11] 85 (0, 0)) (by (with_reducible repeat (first | refine blk_drewN ?_ _ | refine blk_drew ?_ | refine blk_alloc ?_ _)); refine blk_put (cs := #[.int .i64 t322, .slice none 0 0]) ?_ 1 _ rfl; (with_reducible repeat (first | refine blk_drewN ?_ _ | refine blk_drew ?_ | refine blk_alloc ?_ _)); refine blk_put (cs := #[.int .i64 0, .slice none 0 0]) ?_ 0 _ rfl; (with_reducible repeat (first | refine blk_drewN ?_ _ | refine blk_drew ?_ | refine blk_alloc ?_ _)); exact BK327.out)) (below_size (by repeat (first | (with_reducible first | exact HB.out | apply below_alloc | apply pw_below_drewN | apply below_drew1 | refine below_set ?_ GE327.out) | exact HB.out)))); have n2_ := Aside0.mk (blk_below (g := gb327) (o := .cells #[.int .i64 t322, .slice Ao11 t323.length co11] 85 (0, 0)) (by (with_reducible repeat (first | refine blk_drewN ?_ _ | refine blk_drew ?_ | refine blk_alloc ?_ _)); refine blk_put (cs := #[.int .i64 t322, .slice none 0 0]) ?_ 1 _ rfl; (with_reducible repeat (first | refine blk_drewN ?_ _ | refine blk_drew ?_ | refine blk_alloc ?_ _)); refine blk_put (cs := #[.int .i64 0, .slice none 0 0]) ?_ 0 _ rfl; (with_reducible repeat (first | refine blk_drewN ?_ _ | refine blk_drew ?_ | refine blk_alloc ?_ _)); exact BK327.out) hb); have n3_ := Aside0.mk (below_step (by repeat (first | (with_reducible first | exact HB.out | apply below_alloc | apply pw_below_drewN | apply below_drew1 | refine below_set ?_ GE327.out) | exact HB.out)) hb); clear HO325; clear BK327; clear HB; have HO325 := n0_; have HO331 := n1_; have BK327 := n2_; have HB := n3_; clear n0_ n1_ n2_ n3_; (try clear hb); (try clear hb2); (try clear hk); (try clear hi); (try clear ho0)) | ((with_reducible refine gate_dst (N := 10) rfl ?_); refine box_event ?hg (N := 10) ?hd (cs := #[.int .i64 0, .slice none 0 0]) (t := 85) ?hr ?_; (case hd => rfl); (case hg => rfl); (case hr => first | (go_simp; done) | (go_simp; rfl)); intro gb333 hg w13 hbox hb; have n0_ := Aside0.mk (Kd.R_below (Kd.R_elderB (by (with_reducible repeat (first | apply Kd.R_alloc | apply Kd.R_drewN | apply Kd.R_drew)); exact HO325.out) gb333 (Nat.le_of_eq hg.symm)) hb); have n1_ := Aside0.mk (Kd.R_below (Kd.R_elderB (by (with_reducible repeat (first | apply Kd.R_alloc | apply Kd.R_drewN | apply Kd.R_drew)); exact HO331.out) gb333 (Nat.le_of_eq hg.symm)) hb); have n2_ := Aside0.mk (blk_below (g := gb327) (o := .cells #[.int .i64 t322, .slice Ao11 t323.length co11] 85 (0, 0)) (by (with_reducible repeat (first | refine blk_drewN ?_ _ | refine blk_drew ?_ | refine blk_alloc ?_ _)); exact BK327.out) hb); have n3_ := Aside0.mk (below_step (by repeat (first | (with_reducible first | exact HB.out | apply below_alloc | apply pw_below_drewN | apply below_drew1 | refine below_set ?_ GE327.out) | exact HB.out)) hb); have n4_ := Aside0.mk (hbox); have n5_ := Aside0.mk ((by rw [hg]; exact (below_size (by repeat (first | (with_reducible first | exact HB.out | apply below_alloc | apply pw_below_drewN | apply below_drew1 | refine below_set ?_ GE327.out) | exact HB.out))) : w.heap.size ≤ gb333)); have n6_ := Aside0.mk ((by rw [hg]; exact (below_size (by repeat (first | (with_reducible first | exact HB.out | apply below_alloc | apply pw_below_drewN | apply below_drew1 | refine below_set ?_ GE327.out) | exact HB.out))) : w.heap.size ≤ gb333)); have n7_ := Aside0.mk ((by rw [hg]; exact Nat.ne_of_lt (blk_lt (g := gb327) (o := .cells #[.int .i64 t322, .slice Ao11 t323.length co11] 85 (0, 0)) (by (with_reducible repeat (first | refine blk_drewN ?_ _ | refine blk_drew ?_ | refine blk_alloc ?_ _)); exact BK327.out)) : gb327 ≠ gb333)); have n8_ := Aside0.mk ((by rw [hg]; exact Nat.ne_of_gt (blk_lt (g := gb327) (o := .cells #[.int .i64 t322, .slice Ao11 t323.length co11] 85 (0, 0)) (by (with_reducible repeat (first | refine blk_drewN ?_ _ | refine blk_drew ?_ | refine blk_alloc ?_ _)); exact BK327.out)) : gb333 ≠ gb327)); clear HO325; clear HO331; clear BK327; clear HB; have HO325 := n0_; have HO331 := n1_; have BK327 := n2_; have HB := n3_; have BK333 := n4_; have GW333 := n5_; have GE333 := n6_; have NB327_333 := n7_; have NB333_327 := n8_; clear n0_ n1_ n2_ n3_ n4_ n5_ n6_ n7_ n8_; clear hb hbox hg; have hnb14 := NB333_327.out; have hnc14 := NB327_333.out; have hcz15_0 : w13.cell? ⟨gb333, 0, none⟩ = some (.int .i64 0) := (blk_cell BK333.out 0).trans rfl; have hcz15_1 : w13.cell? ⟨gb333, 1, none⟩ = some (.slice none 0 0) := (blk_cell BK333.out 1).trans rfl; have hfz15_0 := blk_frozen BK333.out 0; have hfz15_1 := blk_frozen BK333.out 1; obtain ⟨Ao16, co16, eo16⟩ := Kd.R_slice HO331.out; subst eo16))
      go_loopg [11, 12] k (fun kq v11 v12 w' => ∃ (x11_1 : Int) (x12_1 : Int), v11 = .int .i64 x11_1 ∧ v12 = .int .i64 x12_1 ∧ Aside0 (drovewayref05_Agree.l0 kq a0 x11_1 x12_1 t322 t323 t328 t329 = some (r1, r2)) ∧ Aside0 (kq ≤ k) ∧ Aside0 (Kd.R k85 85 w' w.heap.size (fun k_ => some k_ ≠ ((.slice Ao16 t329.length co16) : Value).ownBlock ∧ k_ ≠ gb327 ∧ k_ ≠ gb333) (.slice Ao11 t323.length co11) t323) ∧ Aside0 (Kd.R k85 85 w' w.heap.size (fun k_ => some k_ ≠ ((.slice Ao11 t323.length co11) : Value).ownBlock ∧ k_ ≠ gb327 ∧ k_ ≠ gb333) (.slice Ao16 t329.length co16) t329) ∧ Aside0 (w'.heap[gb327]? = some (.cells #[.int .i64 t322, (.slice Ao11 t323.length co11)] 85 (0, 0))) ∧ Aside0 (w'.heap[gb333]? = some (.cells #[.int .i64 t328, (.slice Ao16 t329.length co16)] 85 (0, 0))) ∧ Aside0 (Below w.heap.size w w'))
      case atStart => exact ⟨(0), (1), (by first | rfl | (simp; done) | (simp [*]; done)), (by first | rfl | (simp; done) | (simp [*]; done)), H', ⟨Nat.le_refl _⟩, ⟨by (with_reducible repeat (first | apply Kd.R_alloc | apply Kd.R_drewN | apply Kd.R_drew)); exact Kd.R_mono (Kd.R_far (p := ⟨gb333, 1, none⟩) (Kd.R_far (p := ⟨gb333, 0, none⟩) (Kd.R_mono HO325.out (fun k_ hk => (⟨hk, hk.2⟩ : _ ∧ k_ ≠ gb333))) (fun _ hk => hk.2) (.int .i64 t328)) (fun _ hk => hk.2) (.slice Ao16 t329.length co16)) (fun _ hk => ⟨hk.1.1.2, ⟨hk.1.1.1.2, hk.1.2⟩⟩)⟩, ⟨by (with_reducible repeat (first | apply Kd.R_alloc | apply Kd.R_drewN | apply Kd.R_drew)); exact Kd.R_mono (Kd.R_far (p := ⟨gb333, 1, none⟩) (Kd.R_far (p := ⟨gb333, 0, none⟩) (Kd.R_mono HO331.out (fun k_ hk => (⟨hk, hk.2⟩ : _ ∧ k_ ≠ gb333))) (fun _ hk => hk.2) (.int .i64 t328)) (fun _ hk => hk.2) (.slice Ao16 t329.length co16)) (fun _ hk => ⟨hk.1.1.1.2, ⟨hk.1.1.2, hk.1.2⟩⟩)⟩, ⟨by (with_reducible repeat (first | refine blk_drewN ?_ _ | refine blk_drew ?_ | refine blk_alloc ?_ _)); refine blk_far ?_ NB327_333.out _; (with_reducible repeat (first | refine blk_drewN ?_ _ | refine blk_drew ?_ | refine blk_alloc ?_ _)); refine blk_far ?_ NB327_333.out _; (with_reducible repeat (first | refine blk_drewN ?_ _ | refine blk_drew ?_ | refine blk_alloc ?_ _)); exact BK327.out⟩, ⟨by (with_reducible repeat (first | refine blk_drewN ?_ _ | refine blk_drew ?_ | refine blk_alloc ?_ _)); refine blk_put (cs := #[.int .i64 t328, .slice none 0 0]) ?_ 1 _ rfl; (with_reducible repeat (first | refine blk_drewN ?_ _ | refine blk_drew ?_ | refine blk_alloc ?_ _)); refine blk_put (cs := #[.int .i64 0, .slice none 0 0]) ?_ 0 _ rfl; (with_reducible repeat (first | refine blk_drewN ?_ _ | refine blk_drew ?_ | refine blk_alloc ?_ _)); exact BK333.out⟩, ⟨by repeat (first | (with_reducible first | exact HB.out | apply below_alloc | apply pw_below_drewN | apply below_drew1 | refine below_set ?_ GE327.out | refine below_set ?_ GE333.out) | exact HB.out)⟩⟩
      case round =>
        clear H'
        try clear c1
        try clear c2
        try clear p2
        try clear c5
        try clear c5b0
        try clear c5b1
        try clear c7
        try clear c7b0
        try clear c7b1
        try clear c14
        try clear hcz10_0
        try clear hcz10_1
        try clear hcz15_0
        try clear hcz15_1
        try clear hfz10_0
        try clear hfz10_1
        try clear hfz15_0
        try clear hfz15_1
        obtain ⟨x11_1, x12_1, rfl, rfl, HA, HK1, HO_328001, HO_334001, BK327, BK333, HB⟩ := hrel
        cases gk with
        | zero => exact absurd HA.out (by simp [drovewayref05_Agree.l0])
        | succ k1 =>
          have H := HA.out
          clear HA
          simp only [drovewayref05_Agree.l0] at H
          by_cases c17 : 0 ≤ a0
          · rw [if_pos c17] at H
            have c17b0 := eq_true c17
            have c17b1 : decide (0 ≤ a0) = true := decide_eq_true c17
            clear c17
            obtain ⟨ji18, hji18⟩ : ∃ j_ : Int, (shl .i64 1 a0) = j_ := ⟨_, rfl⟩
            replace H : (if x12_1 < (ji18) then ((drovewayref05_size.f k1 x12_1).bind fun t334 => ((drovewayref05_size.f k1 x11_1).bind fun t335 => (if t334 > t335 then ((drovewayref05_kept.f k1 t322 t323 x12_1).bind fun t336 => ((drovewayref05_kept.f k1 t328 t329 x12_1).bind fun t337 => (if t336.toList = t337.toList then (drovewayref05_Agree.l0 k1 a0 x12_1 (wrap64 (x12_1 + 1)) t322 t323 t328 t329) else (drovewayref05_Agree.l0 k1 a0 x11_1 (wrap64 (x12_1 + 1)) t322 t323 t328 t329)))) else (drovewayref05_Agree.l0 k1 a0 x11_1 (wrap64 (x12_1 + 1)) t322 t323 t328 t329)))) else (some (x11_1, 0))) = some (r1, r2) := by first | (rw [hji18] at H; exact H) | (simp only [hji18] at H ⊢; exact H)
            have hji18_ : (IntKind.i64.wrap (1 * 2 ^ min a0.toNat 64)) = ji18 := hji18
            have hji18z : a0 ≤ 64 → (IntKind.i64.wrap (1 * 2 ^ a0.toNat)) = ji18 := shl_small hji18
            have hji18u : (IntKind.i64.wrap (2 ^ min a0.toNat 64)) = ji18 := by have h_ := hji18_; rw [Int.one_mul] at h_; exact h_
            have hji18v : a0 ≤ 64 → (IntKind.i64.wrap (2 ^ a0.toNat)) = ji18 := fun hle_ => by have h_ := hji18z hle_; rw [Int.one_mul] at h_; exact h_
            have hji18y : (wrap64 (1 * 2 ^ min a0.toNat 64)) = ji18 := (i64_w _).symm.trans hji18_
            have hji18x : a0 ≤ 64 → (wrap64 (1 * 2 ^ a0.toNat)) = ji18 := fun h_ => (i64_w _).symm.trans (hji18z h_)
            by_cases c19 : x12_1 < (ji18)
            · rw [if_pos c19] at H
              have c19b0 : decide (x12_1 < (ji18)) = true := decide_eq_true c19
              clear c19
              replace H := Option.bind_eq_some_iff.mp H
              obtain ⟨t334, A200, H⟩ := H
              replace H : ((drovewayref05_size.f k1 x11_1).bind fun t335 => (if t334 > t335 then ((drovewayref05_kept.f k1 t322 t323 x12_1).bind fun t336 => ((drovewayref05_kept.f k1 t328 t329 x12_1).bind fun t337 => (if t336.toList = t337.toList then (drovewayref05_Agree.l0 k1 a0 x12_1 (wrap64 (x12_1 + 1)) t322 t323 t328 t329) else (drovewayref05_Agree.l0 k1 a0 x11_1 (wrap64 (x12_1 + 1)) t322 t323 t328 t329)))) else (drovewayref05_Agree.l0 k1 a0 x11_1 (wrap64 (x12_1 + 1)) t322 t323 t328 t329))) = some (r1, r2) := H
              have A20 := Aside0.mk A200
              clear A200
              replace H := Option.bind_eq_some_iff.mp H
              obtain ⟨t335, A210, H⟩ := H
              replace H : (if t334 > t335 then ((drovewayref05_kept.f k1 t322 t323 x12_1).bind fun t336 => ((drovewayref05_kept.f k1 t328 t329 x12_1).bind fun t337 => (if t336.toList = t337.toList then (drovewayref05_Agree.l0 k1 a0 x12_1 (wrap64 (x12_1 + 1)) t322 t323 t328 t329) else (drovewayref05_Agree.l0 k1 a0 x11_1 (wrap64 (x12_1 + 1)) t322 t323 t328 t329)))) else (drovewayref05_Agree.l0 k1 a0 x11_1 (wrap64 (x12_1 + 1)) t322 t323 t328 t329)) = some (r1, r2) := H
              have A21 := Aside0.mk A210
              clear A210
              by_cases c22 : t334 > t335
              · rw [if_pos c22] at H
                have c22b0 : decide (t335 < t334) = true := decide_eq_true c22
                clear c22
                replace H := Option.bind_eq_some_iff.mp H
                obtain ⟨t336, A230, H⟩ := H
                replace H : ((drovewayref05_kept.f k1 t328 t329 x12_1).bind fun t337 => (if t336.toList = t337.toList then (drovewayref05_Agree.l0 k1 a0 x12_1 (wrap64 (x12_1 + 1)) t322 t323 t328 t329) else (drovewayref05_Agree.l0 k1 a0 x11_1 (wrap64 (x12_1 + 1)) t322 t323 t328 t329))) = some (r1, r2) := H
                have A23 := Aside0.mk A230
                clear A230
                replace H := Option.bind_eq_some_iff.mp H
                obtain ⟨t337, A240, H⟩ := H
                replace H : (if t336.toList = t337.toList then (drovewayref05_Agree.l0 k1 a0 x12_1 (wrap64 (x12_1 + 1)) t322 t323 t328 t329) else (drovewayref05_Agree.l0 k1 a0 x11_1 (wrap64 (x12_1 + 1)) t322 t323 t328 t329)) = some (r1, r2) := H
                have A24 := Aside0.mk A240
                clear A240
                by_cases c25 : t336.toList = t337.toList
                · rw [if_pos c25] at H
                  have c25b0 : (t336.toList == t337.toList) = true := beq_iff_eq.mpr c25
                  have c25b1 : (t336.toList != t337.toList) = false := bne_eq_false_iff_eq.mpr c25
                  clear c25
                  have H' := Aside0.mk H
                  clear H
                  try go_wp2
                  have n0_ := Aside0.mk (Kd.R_drew HO_328001.out)
                  have n1_ := Aside0.mk (Kd.R_drew HO_334001.out)
                  have n2_ := Aside0.mk (blk_drew BK327.out)
                  have n3_ := Aside0.mk (blk_drew BK333.out)
                  have n4_ := Aside0.mk (below_drew1 HB.out)
                  clear HO_328001
                  clear HO_334001
                  clear BK327
                  clear BK333
                  clear HB
                  have HO_328001 := n0_
                  have HO_334001 := n1_
                  have BK327 := n2_
                  have BK333 := n3_
                  have HB := n4_
                  clear n0_ n1_ n2_ n3_ n4_
                  refine start_ (n := 14) (S := fun w' => w'.cell? ⟨gb327, 0, none⟩ = some (.int .i64 t322) ∧ w'.cell? ⟨gb327, 1, none⟩ = some (.slice Ao11 t323.length co11) ∧ w'.cell? ⟨gb333, 0, none⟩ = some (.int .i64 t328) ∧ w'.cell? ⟨gb333, 1, none⟩ = some (.slice Ao16 t329.length co16)) (ds := []) #[false, false, false, false, false, false, false, false, false, false, false, false, false, false] (by kernel_rfl) rfl rfl ⟨(blk_cell BK327.out 0).trans rfl, (blk_cell BK327.out 1).trans rfl, (blk_cell BK333.out 0).trans rfl, (blk_cell BK333.out 1).trans rfl⟩ (fun hHeld => ?_); refine with_tabW drovewayref05_Agree.tab11 drovewayref05_Agree.bits11 (fun HT_ HW_ => ?_)
                  generalize wr.drew = w26 at HO_328001 HO_334001 BK327 BK333 HB hHeld ⊢
                  refine pure_ (i := 0) (N := some 37) (v := ?_) (a' := ?_) #[true, false, false, false, false, false, false, false, false, false, false, false, false, false] rfl rfl (any_of HT_.out (by kernel_rfl)) (fun _ _ _ h => h) (Or.inl ⟨by rfl, ?_⟩) ?_ ?_
                  rotate_left
                  · intro w'
                    go_simp
                    with_reducible rfl
                  rotate_left
                  · simp only [Act.put, List.setIfInBounds_toArray, List.set_cons_zero, List.set_cons_succ, i64_w, i32_w]
                    rfl
                  refine pure_ (i := 2) (N := some 39) (v := ?_) (a' := ?_) #[true, false, true, false, false, false, false, false, false, false, false, false, false, false] rfl rfl (any_of HT_.out (by kernel_rfl)) (fun _ _ _ h => h) (Or.inl ⟨by rfl, ?_⟩) ?_ ?_
                  rotate_left
                  · intro w'
                    go_simp
                    with_reducible rfl
                  rotate_left
                  · simp only [Act.put, List.setIfInBounds_toArray, List.set_cons_zero, List.set_cons_succ, i64_w, i32_w]
                    rfl
                  refine one_ (i := 1) (N := some 38) #[true, true, true, false, false, false, false, false, false, false, false, false, false, false] rfl rfl (one_of HT_.out (by kernel_rfl)) (by decide) (fun K hK => ?_)
                  refine goes_ Tryd.func49 (by kernel_rfl) rfl #[.int .i64 x12_1] (by rfl) rfl rfl (by (try simp only [List.map_toArray, List.map_cons, List.map_nil]); first | done | rfl | (simp only [List.length_drop, List.length_take]; rfl)) ?_
                  with_reducible refine (drovewayref05_size.calls k1 x12_1 t334 _ A20.out).mono ?_
                  rintro e w' ⟨rfl, ⟨nd, rfl⟩⟩
                  refine ⟨_, rfl, ?_⟩
                  refine hK.out _ _ ⟨(blk_cell BK327.out 0).trans rfl, (blk_cell BK327.out 1).trans rfl, (blk_cell BK333.out 0).trans rfl, (blk_cell BK333.out 1).trans rfl⟩ (fun hHeld => ?_)
                  clear hK K
                  refine norm_ (a' := ?_) ?_ ?_
                  rotate_left
                  · show Act.put _ (some 38) _ = _
                    simp only [Act.put, List.setIfInBounds_toArray, List.set_cons_zero, List.set_cons_succ, i64_w, i32_w]
                    rfl
                  refine one_ (i := 3) (N := some 40) #[true, true, true, true, false, false, false, false, false, false, false, false, false, false] rfl rfl (one_of HT_.out (by kernel_rfl)) (by decide) (fun K hK => ?_)
                  refine goes_ Tryd.func49 (by kernel_rfl) rfl #[.int .i64 x11_1] (by rfl) rfl rfl (by (try simp only [List.map_toArray, List.map_cons, List.map_nil]); first | done | rfl | (simp only [List.length_drop, List.length_take]; rfl)) ?_
                  with_reducible refine (drovewayref05_size.calls k1 x11_1 t335 _ A21.out).mono ?_
                  rintro e w' ⟨rfl, ⟨nd, rfl⟩⟩
                  refine ⟨_, rfl, ?_⟩
                  refine hK.out _ _ ⟨(blk_cell BK327.out 0).trans rfl, (blk_cell BK327.out 1).trans rfl, (blk_cell BK333.out 0).trans rfl, (blk_cell BK333.out 1).trans rfl⟩ (fun hHeld => ?_)
                  clear hK K
                  refine norm_ (a' := ?_) ?_ ?_
                  rotate_left
                  · show Act.put _ (some 40) _ = _
                    simp only [Act.put, List.setIfInBounds_toArray, List.set_cons_zero, List.set_cons_succ, i64_w, i32_w]
                    rfl
                  refine pure_ (i := 4) (N := some 41) (v := ?_) (a' := ?_) #[true, true, true, true, true, false, false, false, false, false, false, false, false, false] rfl rfl (any_of HT_.out (by kernel_rfl)) (fun _ _ _ h => h) (Or.inl ⟨by rfl, ?_⟩) ?_ ?_
                  rotate_left
                  · intro w'
                    go_simp
                    with_reducible rfl
                  rotate_left
                  · simp only [Act.put, List.setIfInBounds_toArray, List.set_cons_zero, List.set_cons_succ, i64_w, i32_w]
                    rfl
                  refine pure_ (i := 5) (N := some 42) (v := ?_) (a' := ?_) #[true, true, true, true, true, true, false, false, false, false, false, false, false, false] rfl rfl (any_of HT_.out (by kernel_rfl)) (fun _ _ _ h => h) (Or.inl ⟨by rfl, ?_⟩) ?_ ?_
                  rotate_left
                  · intro w'
                    go_simp
                    with_reducible rfl
                  rotate_left
                  · simp only [Act.put, List.setIfInBounds_toArray, List.set_cons_zero, List.set_cons_succ, i64_w, i32_w]
                    rfl
                  refine pure_ (i := 7) (N := some 44) (v := ?_) (a' := ?_) #[true, true, true, true, true, true, false, true, false, false, false, false, false, false] rfl rfl (any_of HT_.out (by kernel_rfl)) (fun _ _ _ h => h) (Or.inl ⟨by rfl, ?_⟩) ?_ ?_
                  rotate_left
                  · intro w'
                    go_simp
                    with_reducible rfl
                  rotate_left
                  · simp only [Act.put, List.setIfInBounds_toArray, List.set_cons_zero, List.set_cons_succ, i64_w, i32_w]
                    rfl
                  refine pure_ (i := 10) (N := some 47) (v := ?_) (a' := ?_) #[true, true, true, true, true, true, false, true, false, false, true, false, false, false] rfl rfl (any_of HT_.out (by kernel_rfl)) (fun _ _ _ h => h) (Or.inl ⟨by rfl, ?_⟩) ?_ ?_
                  rotate_left
                  · intro w'
                    go_simp
                    with_reducible rfl
                  rotate_left
                  · simp only [Act.put, List.setIfInBounds_toArray, List.set_cons_zero, List.set_cons_succ, i64_w, i32_w]
                    rfl
                  refine take_ (i := 6) (N := some 43) (v := ?_) (a' := ?_) #[true, true, true, true, true, true, true, true, false, false, true, false, false, false] rfl rfl (take_ofW HT_.out HW_.out (by kernel_rfl)) (fun _ _ _ h => h) (Or.inl ⟨by rfl, ?_⟩) hHeld ?_ ?_
                  rotate_left
                  · rintro w' ⟨s0, s1, s2, s3⟩
                    go_simp
                    with_reducible rfl
                  rotate_left
                  · simp only [Act.put, List.setIfInBounds_toArray, List.set_cons_zero, List.set_cons_succ, i64_w, i32_w]
                    rfl
                  refine take_ (i := 9) (N := some 46) (v := ?_) (a' := ?_) #[true, true, true, true, true, true, true, true, false, true, true, false, false, false] rfl rfl (take_ofW HT_.out HW_.out (by kernel_rfl)) (fun _ _ _ h => h) (Or.inl ⟨by rfl, ?_⟩) hHeld ?_ ?_
                  rotate_left
                  · rintro w' ⟨s0, s1, s2, s3⟩
                    go_simp
                    with_reducible rfl
                  rotate_left
                  · simp only [Act.put, List.setIfInBounds_toArray, List.set_cons_zero, List.set_cons_succ, i64_w, i32_w]
                    rfl
                  refine one_ (i := 8) (N := some 45) #[true, true, true, true, true, true, true, true, true, true, true, false, false, false] rfl rfl (one_of HT_.out (by kernel_rfl)) (by decide) (fun K hK => ?_)
                  refine goes_ Tryd.func55 (by kernel_rfl) rfl #[.agg #[.int .i64 t322, .slice Ao11 t323.length co11], .int .i64 x12_1] (by rfl) rfl rfl (by (try simp only [List.map_toArray, List.map_cons, List.map_nil]); first | done | rfl | (simp only [List.length_drop, List.length_take]; rfl)) ?_
                  with_reducible refine (drovewayref05_kept.calls k1 t322 _ _ t323 x12_1 t336 _ ?side1 ?side2 A23.out).mono ?_
                  (case side1 => repeat (first | exact (Kd.R_reads' HO_328001.out).2.2 | (with_reducible refine Kd.C_alloc ?_ _) | (with_reducible refine Kd.C_drewN ?_ _) | (with_reducible refine Kd.C_drew ?_)))
                  (case side2 => exact (Kd.R_reads' HO_328001.out).2.1)
                  rintro e w27 ⟨rfl, hb⟩
                  refine ⟨_, rfl, ?_⟩
                  have n0_ := Aside0.mk (Kd.R_below (by (with_reducible repeat (first | apply Kd.R_alloc | apply Kd.R_drewN | apply Kd.R_drew)); exact HO_328001.out) hb)
                  have n1_ := Aside0.mk (Kd.R_below (by (with_reducible repeat (first | apply Kd.R_alloc | apply Kd.R_drewN | apply Kd.R_drew)); exact HO_334001.out) hb)
                  have n2_ := Aside0.mk (blk_below (g := gb327) (o := .cells #[.int .i64 t322, .slice Ao11 t323.length co11] 85 (0, 0)) (by (with_reducible repeat (first | refine blk_drewN ?_ _ | refine blk_drew ?_ | refine blk_alloc ?_ _)); exact BK327.out) hb)
                  have n3_ := Aside0.mk (blk_below (g := gb333) (o := .cells #[.int .i64 t328, .slice Ao16 t329.length co16] 85 (0, 0)) (by (with_reducible repeat (first | refine blk_drewN ?_ _ | refine blk_drew ?_ | refine blk_alloc ?_ _)); exact BK333.out) hb)
                  have n4_ := Aside0.mk (below_step (by repeat (first | (with_reducible first | exact HB.out | apply below_alloc | apply pw_below_drewN | apply below_drew1 | refine below_set ?_ GE327.out | refine below_set ?_ GE333.out) | exact HB.out)) hb)
                  clear HO_328001
                  clear HO_334001
                  clear BK327
                  clear BK333
                  clear HB
                  have HO_328001 := n0_
                  have HO_334001 := n1_
                  have BK327 := n2_
                  have BK333 := n3_
                  have HB := n4_
                  clear n0_ n1_ n2_ n3_ n4_
                  (try clear hb)
                  (try clear hb2)
                  (try clear hk)
                  (try clear hi)
                  refine hK.out _ _ ⟨(blk_cell BK327.out 0).trans rfl, (blk_cell BK327.out 1).trans rfl, (blk_cell BK333.out 0).trans rfl, (blk_cell BK333.out 1).trans rfl⟩ (fun hHeld => ?_)
                  clear hK K
                  refine norm_ (a' := ?_) ?_ ?_
                  rotate_left
                  · show Act.put _ (some 45) _ = _
                    simp only [Act.put, List.setIfInBounds_toArray, List.set_cons_zero, List.set_cons_succ, i64_w, i32_w]
                    rfl
                  refine one_ (i := 11) (N := some 48) #[true, true, true, true, true, true, true, true, true, true, true, true, false, false] rfl rfl (one_of HT_.out (by kernel_rfl)) (by decide) (fun K hK => ?_)
                  refine goes_ Tryd.func55 (by kernel_rfl) rfl #[.agg #[.int .i64 t328, .slice Ao16 t329.length co16], .int .i64 x12_1] (by rfl) rfl rfl (by (try simp only [List.map_toArray, List.map_cons, List.map_nil]); first | done | rfl | (simp only [List.length_drop, List.length_take]; rfl)) ?_
                  with_reducible refine (drovewayref05_kept.calls k1 t328 _ _ t329 x12_1 t337 _ ?side1 ?side2 A24.out).mono ?_
                  (case side1 => repeat (first | exact (Kd.R_reads' HO_334001.out).2.2 | (with_reducible refine Kd.C_alloc ?_ _) | (with_reducible refine Kd.C_drewN ?_ _) | (with_reducible refine Kd.C_drew ?_)))
                  (case side2 => exact (Kd.R_reads' HO_334001.out).2.1)
                  rintro e w28 ⟨rfl, hb⟩
                  refine ⟨_, rfl, ?_⟩
                  have n0_ := Aside0.mk (Kd.R_below (by (with_reducible repeat (first | apply Kd.R_alloc | apply Kd.R_drewN | apply Kd.R_drew)); exact HO_328001.out) hb)
                  have n1_ := Aside0.mk (Kd.R_below (by (with_reducible repeat (first | apply Kd.R_alloc | apply Kd.R_drewN | apply Kd.R_drew)); exact HO_334001.out) hb)
                  have n2_ := Aside0.mk (blk_below (g := gb327) (o := .cells #[.int .i64 t322, .slice Ao11 t323.length co11] 85 (0, 0)) (by (with_reducible repeat (first | refine blk_drewN ?_ _ | refine blk_drew ?_ | refine blk_alloc ?_ _)); exact BK327.out) hb)
                  have n3_ := Aside0.mk (blk_below (g := gb333) (o := .cells #[.int .i64 t328, .slice Ao16 t329.length co16] 85 (0, 0)) (by (with_reducible repeat (first | refine blk_drewN ?_ _ | refine blk_drew ?_ | refine blk_alloc ?_ _)); exact BK333.out) hb)
                  have n4_ := Aside0.mk (below_step (by repeat (first | (with_reducible first | exact HB.out | apply below_alloc | apply pw_below_drewN | apply below_drew1 | refine below_set ?_ GE327.out | refine below_set ?_ GE333.out) | exact HB.out)) hb)
                  clear HO_328001
                  clear HO_334001
                  clear BK327
                  clear BK333
                  clear HB
                  have HO_328001 := n0_
                  have HO_334001 := n1_
                  have BK327 := n2_
                  have BK333 := n3_
                  have HB := n4_
                  clear n0_ n1_ n2_ n3_ n4_
                  (try clear hb)
                  (try clear hb2)
                  (try clear hk)
                  (try clear hi)
                  refine hK.out _ _ ⟨(blk_cell BK327.out 0).trans rfl, (blk_cell BK327.out 1).trans rfl, (blk_cell BK333.out 0).trans rfl, (blk_cell BK333.out 1).trans rfl⟩ (fun hHeld => ?_)
                  clear hK K
                  refine norm_ (a' := ?_) ?_ ?_
                  rotate_left
                  · show Act.put _ (some 48) _ = _
                    simp only [Act.put, List.setIfInBounds_toArray, List.set_cons_zero, List.set_cons_succ, i64_w, i32_w]
                    rfl
                  refine pure_ (i := 12) (N := some 49) (v := ?_) (a' := ?_) #[true, true, true, true, true, true, true, true, true, true, true, true, true, false] rfl rfl (any_of HT_.out (by kernel_rfl)) (fun _ _ _ h => h) (Or.inl ⟨by rfl, ?_⟩) ?_ ?_
                  rotate_left
                  · intro w'
                    go_simp
                    with_reducible rfl
                  rotate_left
                  · simp only [Act.put, List.setIfInBounds_toArray, List.set_cons_zero, List.set_cons_succ, i64_w, i32_w]
                    rfl
                  refine pure_ (i := 13) (N := some 50) (v := ?_) (a' := ?_) #[true, true, true, true, true, true, true, true, true, true, true, true, true, true] rfl rfl (any_of HT_.out (by kernel_rfl)) (fun _ _ _ h => h) (Or.inl ⟨by rfl, ?_⟩) ?_ ?_
                  rotate_left
                  · intro w'
                    go_simp
                    with_reducible rfl
                  rotate_left
                  · simp only [Act.put, List.setIfInBounds_toArray, List.set_cons_zero, List.set_cons_succ, i64_w, i32_w]
                    rfl
                  refine done_ (done_of HT_.out (by kernel_rfl)) ?_
                  try go_wp2
                  go_roundg k1
                  case measure => have := HK1.out; omega
                  case rel => exact ⟨(x12_1), (wrap64 (x12_1 + 1)), (by first | rfl | (simp; done) | (simp [*]; done)), (by first | rfl | (simp; done) | (simp [*]; done)), H', ⟨by have := HK1.out; omega⟩, ⟨by (with_reducible repeat (first | apply Kd.R_alloc | apply Kd.R_drewN | apply Kd.R_drew)); exact HO_328001.out⟩, ⟨by (with_reducible repeat (first | apply Kd.R_alloc | apply Kd.R_drewN | apply Kd.R_drew)); exact HO_334001.out⟩, ⟨by (with_reducible repeat (first | refine blk_drewN ?_ _ | refine blk_drew ?_ | refine blk_alloc ?_ _)); exact BK327.out⟩, ⟨by (with_reducible repeat (first | refine blk_drewN ?_ _ | refine blk_drew ?_ | refine blk_alloc ?_ _)); exact BK333.out⟩, ⟨by repeat (first | (with_reducible first | exact HB.out | apply below_alloc | apply pw_below_drewN | apply below_drew1 | refine below_set ?_ GE327.out | refine below_set ?_ GE333.out) | exact HB.out)⟩⟩
                · rw [if_neg c25] at H
                  have c25b0 : (t336.toList == t337.toList) = false := beq_eq_false_iff_ne.mpr c25
                  have c25b1 : (t336.toList != t337.toList) = true := bne_iff_ne.mpr c25
                  have H' := Aside0.mk H
                  clear H
                  try go_wp2
                  have n0_ := Aside0.mk (Kd.R_drew HO_328001.out)
                  have n1_ := Aside0.mk (Kd.R_drew HO_334001.out)
                  have n2_ := Aside0.mk (blk_drew BK327.out)
                  have n3_ := Aside0.mk (blk_drew BK333.out)
                  have n4_ := Aside0.mk (below_drew1 HB.out)
                  clear HO_328001
                  clear HO_334001
                  clear BK327
                  clear BK333
                  clear HB
                  have HO_328001 := n0_
                  have HO_334001 := n1_
                  have BK327 := n2_
                  have BK333 := n3_
                  have HB := n4_
                  clear n0_ n1_ n2_ n3_ n4_
                  refine start_ (n := 14) (S := fun w' => w'.cell? ⟨gb327, 0, none⟩ = some (.int .i64 t322) ∧ w'.cell? ⟨gb327, 1, none⟩ = some (.slice Ao11 t323.length co11) ∧ w'.cell? ⟨gb333, 0, none⟩ = some (.int .i64 t328) ∧ w'.cell? ⟨gb333, 1, none⟩ = some (.slice Ao16 t329.length co16)) (ds := []) #[false, false, false, false, false, false, false, false, false, false, false, false, false, false] (by kernel_rfl) rfl rfl ⟨(blk_cell BK327.out 0).trans rfl, (blk_cell BK327.out 1).trans rfl, (blk_cell BK333.out 0).trans rfl, (blk_cell BK333.out 1).trans rfl⟩ (fun hHeld => ?_); refine with_tabW drovewayref05_Agree.tab11 drovewayref05_Agree.bits11 (fun HT_ HW_ => ?_)
                  generalize wr.drew = w29 at HO_328001 HO_334001 BK327 BK333 HB hHeld ⊢
                  refine pure_ (i := 0) (N := some 37) (v := ?_) (a' := ?_) #[true, false, false, false, false, false, false, false, false, false, false, false, false, false] rfl rfl (any_of HT_.out (by kernel_rfl)) (fun _ _ _ h => h) (Or.inl ⟨by rfl, ?_⟩) ?_ ?_
                  rotate_left
                  · intro w'
                    go_simp
                    with_reducible rfl
                  rotate_left
                  · simp only [Act.put, List.setIfInBounds_toArray, List.set_cons_zero, List.set_cons_succ, i64_w, i32_w]
                    rfl
                  refine pure_ (i := 2) (N := some 39) (v := ?_) (a' := ?_) #[true, false, true, false, false, false, false, false, false, false, false, false, false, false] rfl rfl (any_of HT_.out (by kernel_rfl)) (fun _ _ _ h => h) (Or.inl ⟨by rfl, ?_⟩) ?_ ?_
                  rotate_left
                  · intro w'
                    go_simp
                    with_reducible rfl
                  rotate_left
                  · simp only [Act.put, List.setIfInBounds_toArray, List.set_cons_zero, List.set_cons_succ, i64_w, i32_w]
                    rfl
                  refine one_ (i := 1) (N := some 38) #[true, true, true, false, false, false, false, false, false, false, false, false, false, false] rfl rfl (one_of HT_.out (by kernel_rfl)) (by decide) (fun K hK => ?_)
                  refine goes_ Tryd.func49 (by kernel_rfl) rfl #[.int .i64 x12_1] (by rfl) rfl rfl (by (try simp only [List.map_toArray, List.map_cons, List.map_nil]); first | done | rfl | (simp only [List.length_drop, List.length_take]; rfl)) ?_
                  with_reducible refine (drovewayref05_size.calls k1 x12_1 t334 _ A20.out).mono ?_
                  rintro e w' ⟨rfl, ⟨nd, rfl⟩⟩
                  refine ⟨_, rfl, ?_⟩
                  refine hK.out _ _ ⟨(blk_cell BK327.out 0).trans rfl, (blk_cell BK327.out 1).trans rfl, (blk_cell BK333.out 0).trans rfl, (blk_cell BK333.out 1).trans rfl⟩ (fun hHeld => ?_)
                  clear hK K
                  refine norm_ (a' := ?_) ?_ ?_
                  rotate_left
                  · show Act.put _ (some 38) _ = _
                    simp only [Act.put, List.setIfInBounds_toArray, List.set_cons_zero, List.set_cons_succ, i64_w, i32_w]
                    rfl
                  refine one_ (i := 3) (N := some 40) #[true, true, true, true, false, false, false, false, false, false, false, false, false, false] rfl rfl (one_of HT_.out (by kernel_rfl)) (by decide) (fun K hK => ?_)
                  refine goes_ Tryd.func49 (by kernel_rfl) rfl #[.int .i64 x11_1] (by rfl) rfl rfl (by (try simp only [List.map_toArray, List.map_cons, List.map_nil]); first | done | rfl | (simp only [List.length_drop, List.length_take]; rfl)) ?_
                  with_reducible refine (drovewayref05_size.calls k1 x11_1 t335 _ A21.out).mono ?_
                  rintro e w' ⟨rfl, ⟨nd, rfl⟩⟩
                  refine ⟨_, rfl, ?_⟩
                  refine hK.out _ _ ⟨(blk_cell BK327.out 0).trans rfl, (blk_cell BK327.out 1).trans rfl, (blk_cell BK333.out 0).trans rfl, (blk_cell BK333.out 1).trans rfl⟩ (fun hHeld => ?_)
                  clear hK K
                  refine norm_ (a' := ?_) ?_ ?_
                  rotate_left
                  · show Act.put _ (some 40) _ = _
                    simp only [Act.put, List.setIfInBounds_toArray, List.set_cons_zero, List.set_cons_succ, i64_w, i32_w]
                    rfl
                  refine pure_ (i := 4) (N := some 41) (v := ?_) (a' := ?_) #[true, true, true, true, true, false, false, false, false, false, false, false, false, false] rfl rfl (any_of HT_.out (by kernel_rfl)) (fun _ _ _ h => h) (Or.inl ⟨by rfl, ?_⟩) ?_ ?_
                  rotate_left
                  · intro w'
                    go_simp
                    with_reducible rfl
                  rotate_left
                  · simp only [Act.put, List.setIfInBounds_toArray, List.set_cons_zero, List.set_cons_succ, i64_w, i32_w]
                    rfl
                  refine pure_ (i := 5) (N := some 42) (v := ?_) (a' := ?_) #[true, true, true, true, true, true, false, false, false, false, false, false, false, false] rfl rfl (any_of HT_.out (by kernel_rfl)) (fun _ _ _ h => h) (Or.inl ⟨by rfl, ?_⟩) ?_ ?_
                  rotate_left
                  · intro w'
                    go_simp
                    with_reducible rfl
                  rotate_left
                  · simp only [Act.put, List.setIfInBounds_toArray, List.set_cons_zero, List.set_cons_succ, i64_w, i32_w]
                    rfl
                  refine pure_ (i := 7) (N := some 44) (v := ?_) (a' := ?_) #[true, true, true, true, true, true, false, true, false, false, false, false, false, false] rfl rfl (any_of HT_.out (by kernel_rfl)) (fun _ _ _ h => h) (Or.inl ⟨by rfl, ?_⟩) ?_ ?_
                  rotate_left
                  · intro w'
                    go_simp
                    with_reducible rfl
                  rotate_left
                  · simp only [Act.put, List.setIfInBounds_toArray, List.set_cons_zero, List.set_cons_succ, i64_w, i32_w]
                    rfl
                  refine pure_ (i := 10) (N := some 47) (v := ?_) (a' := ?_) #[true, true, true, true, true, true, false, true, false, false, true, false, false, false] rfl rfl (any_of HT_.out (by kernel_rfl)) (fun _ _ _ h => h) (Or.inl ⟨by rfl, ?_⟩) ?_ ?_
                  rotate_left
                  · intro w'
                    go_simp
                    with_reducible rfl
                  rotate_left
                  · simp only [Act.put, List.setIfInBounds_toArray, List.set_cons_zero, List.set_cons_succ, i64_w, i32_w]
                    rfl
                  refine take_ (i := 6) (N := some 43) (v := ?_) (a' := ?_) #[true, true, true, true, true, true, true, true, false, false, true, false, false, false] rfl rfl (take_ofW HT_.out HW_.out (by kernel_rfl)) (fun _ _ _ h => h) (Or.inl ⟨by rfl, ?_⟩) hHeld ?_ ?_
                  rotate_left
                  · rintro w' ⟨s0, s1, s2, s3⟩
                    go_simp
                    with_reducible rfl
                  rotate_left
                  · simp only [Act.put, List.setIfInBounds_toArray, List.set_cons_zero, List.set_cons_succ, i64_w, i32_w]
                    rfl
                  refine take_ (i := 9) (N := some 46) (v := ?_) (a' := ?_) #[true, true, true, true, true, true, true, true, false, true, true, false, false, false] rfl rfl (take_ofW HT_.out HW_.out (by kernel_rfl)) (fun _ _ _ h => h) (Or.inl ⟨by rfl, ?_⟩) hHeld ?_ ?_
                  rotate_left
                  · rintro w' ⟨s0, s1, s2, s3⟩
                    go_simp
                    with_reducible rfl
                  rotate_left
                  · simp only [Act.put, List.setIfInBounds_toArray, List.set_cons_zero, List.set_cons_succ, i64_w, i32_w]
                    rfl
                  refine one_ (i := 8) (N := some 45) #[true, true, true, true, true, true, true, true, true, true, true, false, false, false] rfl rfl (one_of HT_.out (by kernel_rfl)) (by decide) (fun K hK => ?_)
                  refine goes_ Tryd.func55 (by kernel_rfl) rfl #[.agg #[.int .i64 t322, .slice Ao11 t323.length co11], .int .i64 x12_1] (by rfl) rfl rfl (by (try simp only [List.map_toArray, List.map_cons, List.map_nil]); first | done | rfl | (simp only [List.length_drop, List.length_take]; rfl)) ?_
                  with_reducible refine (drovewayref05_kept.calls k1 t322 _ _ t323 x12_1 t336 _ ?side1 ?side2 A23.out).mono ?_
                  (case side1 => repeat (first | exact (Kd.R_reads' HO_328001.out).2.2 | (with_reducible refine Kd.C_alloc ?_ _) | (with_reducible refine Kd.C_drewN ?_ _) | (with_reducible refine Kd.C_drew ?_)))
                  (case side2 => exact (Kd.R_reads' HO_328001.out).2.1)
                  rintro e w30 ⟨rfl, hb⟩
                  refine ⟨_, rfl, ?_⟩
                  have n0_ := Aside0.mk (Kd.R_below (by (with_reducible repeat (first | apply Kd.R_alloc | apply Kd.R_drewN | apply Kd.R_drew)); exact HO_328001.out) hb)
                  have n1_ := Aside0.mk (Kd.R_below (by (with_reducible repeat (first | apply Kd.R_alloc | apply Kd.R_drewN | apply Kd.R_drew)); exact HO_334001.out) hb)
                  have n2_ := Aside0.mk (blk_below (g := gb327) (o := .cells #[.int .i64 t322, .slice Ao11 t323.length co11] 85 (0, 0)) (by (with_reducible repeat (first | refine blk_drewN ?_ _ | refine blk_drew ?_ | refine blk_alloc ?_ _)); exact BK327.out) hb)
                  have n3_ := Aside0.mk (blk_below (g := gb333) (o := .cells #[.int .i64 t328, .slice Ao16 t329.length co16] 85 (0, 0)) (by (with_reducible repeat (first | refine blk_drewN ?_ _ | refine blk_drew ?_ | refine blk_alloc ?_ _)); exact BK333.out) hb)
                  have n4_ := Aside0.mk (below_step (by repeat (first | (with_reducible first | exact HB.out | apply below_alloc | apply pw_below_drewN | apply below_drew1 | refine below_set ?_ GE327.out | refine below_set ?_ GE333.out) | exact HB.out)) hb)
                  clear HO_328001
                  clear HO_334001
                  clear BK327
                  clear BK333
                  clear HB
                  have HO_328001 := n0_
                  have HO_334001 := n1_
                  have BK327 := n2_
                  have BK333 := n3_
                  have HB := n4_
                  clear n0_ n1_ n2_ n3_ n4_
                  (try clear hb)
                  (try clear hb2)
                  (try clear hk)
                  (try clear hi)
                  refine hK.out _ _ ⟨(blk_cell BK327.out 0).trans rfl, (blk_cell BK327.out 1).trans rfl, (blk_cell BK333.out 0).trans rfl, (blk_cell BK333.out 1).trans rfl⟩ (fun hHeld => ?_)
                  clear hK K
                  refine norm_ (a' := ?_) ?_ ?_
                  rotate_left
                  · show Act.put _ (some 45) _ = _
                    simp only [Act.put, List.setIfInBounds_toArray, List.set_cons_zero, List.set_cons_succ, i64_w, i32_w]
                    rfl
                  refine one_ (i := 11) (N := some 48) #[true, true, true, true, true, true, true, true, true, true, true, true, false, false] rfl rfl (one_of HT_.out (by kernel_rfl)) (by decide) (fun K hK => ?_)
                  refine goes_ Tryd.func55 (by kernel_rfl) rfl #[.agg #[.int .i64 t328, .slice Ao16 t329.length co16], .int .i64 x12_1] (by rfl) rfl rfl (by (try simp only [List.map_toArray, List.map_cons, List.map_nil]); first | done | rfl | (simp only [List.length_drop, List.length_take]; rfl)) ?_
                  with_reducible refine (drovewayref05_kept.calls k1 t328 _ _ t329 x12_1 t337 _ ?side1 ?side2 A24.out).mono ?_
                  (case side1 => repeat (first | exact (Kd.R_reads' HO_334001.out).2.2 | (with_reducible refine Kd.C_alloc ?_ _) | (with_reducible refine Kd.C_drewN ?_ _) | (with_reducible refine Kd.C_drew ?_)))
                  (case side2 => exact (Kd.R_reads' HO_334001.out).2.1)
                  rintro e w31 ⟨rfl, hb⟩
                  refine ⟨_, rfl, ?_⟩
                  have n0_ := Aside0.mk (Kd.R_below (by (with_reducible repeat (first | apply Kd.R_alloc | apply Kd.R_drewN | apply Kd.R_drew)); exact HO_328001.out) hb)
                  have n1_ := Aside0.mk (Kd.R_below (by (with_reducible repeat (first | apply Kd.R_alloc | apply Kd.R_drewN | apply Kd.R_drew)); exact HO_334001.out) hb)
                  have n2_ := Aside0.mk (blk_below (g := gb327) (o := .cells #[.int .i64 t322, .slice Ao11 t323.length co11] 85 (0, 0)) (by (with_reducible repeat (first | refine blk_drewN ?_ _ | refine blk_drew ?_ | refine blk_alloc ?_ _)); exact BK327.out) hb)
                  have n3_ := Aside0.mk (blk_below (g := gb333) (o := .cells #[.int .i64 t328, .slice Ao16 t329.length co16] 85 (0, 0)) (by (with_reducible repeat (first | refine blk_drewN ?_ _ | refine blk_drew ?_ | refine blk_alloc ?_ _)); exact BK333.out) hb)
                  have n4_ := Aside0.mk (below_step (by repeat (first | (with_reducible first | exact HB.out | apply below_alloc | apply pw_below_drewN | apply below_drew1 | refine below_set ?_ GE327.out | refine below_set ?_ GE333.out) | exact HB.out)) hb)
                  clear HO_328001
                  clear HO_334001
                  clear BK327
                  clear BK333
                  clear HB
                  have HO_328001 := n0_
                  have HO_334001 := n1_
                  have BK327 := n2_
                  have BK333 := n3_
                  have HB := n4_
                  clear n0_ n1_ n2_ n3_ n4_
                  (try clear hb)
                  (try clear hb2)
                  (try clear hk)
                  (try clear hi)
                  refine hK.out _ _ ⟨(blk_cell BK327.out 0).trans rfl, (blk_cell BK327.out 1).trans rfl, (blk_cell BK333.out 0).trans rfl, (blk_cell BK333.out 1).trans rfl⟩ (fun hHeld => ?_)
                  clear hK K
                  refine norm_ (a' := ?_) ?_ ?_
                  rotate_left
                  · show Act.put _ (some 48) _ = _
                    simp only [Act.put, List.setIfInBounds_toArray, List.set_cons_zero, List.set_cons_succ, i64_w, i32_w]
                    rfl
                  refine pure_ (i := 12) (N := some 49) (v := ?_) (a' := ?_) #[true, true, true, true, true, true, true, true, true, true, true, true, true, false] rfl rfl (any_of HT_.out (by kernel_rfl)) (fun _ _ _ h => h) (Or.inl ⟨by rfl, ?_⟩) ?_ ?_
                  rotate_left
                  · intro w'
                    go_simp
                    with_reducible rfl
                  rotate_left
                  · simp only [Act.put, List.setIfInBounds_toArray, List.set_cons_zero, List.set_cons_succ, i64_w, i32_w]
                    rfl
                  refine pure_ (i := 13) (N := some 50) (v := ?_) (a' := ?_) #[true, true, true, true, true, true, true, true, true, true, true, true, true, true] rfl rfl (any_of HT_.out (by kernel_rfl)) (fun _ _ _ h => h) (Or.inl ⟨by rfl, ?_⟩) ?_ ?_
                  rotate_left
                  · intro w'
                    go_simp
                    with_reducible rfl
                  rotate_left
                  · simp only [Act.put, List.setIfInBounds_toArray, List.set_cons_zero, List.set_cons_succ, i64_w, i32_w]
                    rfl
                  refine done_ (done_of HT_.out (by kernel_rfl)) ?_
                  try go_wp2
                  go_roundg k1
                  case measure => have := HK1.out; omega
                  case rel => exact ⟨(x11_1), (wrap64 (x12_1 + 1)), (by first | rfl | (simp; done) | (simp [*]; done)), (by first | rfl | (simp; done) | (simp [*]; done)), H', ⟨by have := HK1.out; omega⟩, ⟨by (with_reducible repeat (first | apply Kd.R_alloc | apply Kd.R_drewN | apply Kd.R_drew)); exact HO_328001.out⟩, ⟨by (with_reducible repeat (first | apply Kd.R_alloc | apply Kd.R_drewN | apply Kd.R_drew)); exact HO_334001.out⟩, ⟨by (with_reducible repeat (first | refine blk_drewN ?_ _ | refine blk_drew ?_ | refine blk_alloc ?_ _)); exact BK327.out⟩, ⟨by (with_reducible repeat (first | refine blk_drewN ?_ _ | refine blk_drew ?_ | refine blk_alloc ?_ _)); exact BK333.out⟩, ⟨by repeat (first | (with_reducible first | exact HB.out | apply below_alloc | apply pw_below_drewN | apply below_drew1 | refine below_set ?_ GE327.out | refine below_set ?_ GE333.out) | exact HB.out)⟩⟩
              · rw [if_neg c22] at H
                have c22b0 : decide (t335 < t334) = false := decide_eq_false c22
                clear c22
                have H' := Aside0.mk H
                clear H
                try go_wp2
                have n0_ := Aside0.mk (Kd.R_drew HO_328001.out)
                have n1_ := Aside0.mk (Kd.R_drew HO_334001.out)
                have n2_ := Aside0.mk (blk_drew BK327.out)
                have n3_ := Aside0.mk (blk_drew BK333.out)
                have n4_ := Aside0.mk (below_drew1 HB.out)
                clear HO_328001
                clear HO_334001
                clear BK327
                clear BK333
                clear HB
                have HO_328001 := n0_
                have HO_334001 := n1_
                have BK327 := n2_
                have BK333 := n3_
                have HB := n4_
                clear n0_ n1_ n2_ n3_ n4_
                refine start_ (n := 14) (S := fun w' => True) (ds := []) #[false, false, false, false, false, false, false, false, false, false, false, false, false, false] (by kernel_rfl) rfl rfl trivial (fun hHeld => ?_); refine with_tabW drovewayref05_Agree.tab11 drovewayref05_Agree.bits11 (fun HT_ HW_ => ?_)
                generalize wr.drew = w32 at HO_328001 HO_334001 BK327 BK333 HB hHeld ⊢
                refine pure_ (i := 0) (N := some 37) (v := ?_) (a' := ?_) #[true, false, false, false, false, false, false, false, false, false, false, false, false, false] rfl rfl (any_of HT_.out (by kernel_rfl)) (fun _ _ _ h => h) (Or.inl ⟨by rfl, ?_⟩) ?_ ?_
                rotate_left
                · intro w'
                  go_simp
                  with_reducible rfl
                rotate_left
                · simp only [Act.put, List.setIfInBounds_toArray, List.set_cons_zero, List.set_cons_succ, i64_w, i32_w]
                  rfl
                refine pure_ (i := 2) (N := some 39) (v := ?_) (a' := ?_) #[true, false, true, false, false, false, false, false, false, false, false, false, false, false] rfl rfl (any_of HT_.out (by kernel_rfl)) (fun _ _ _ h => h) (Or.inl ⟨by rfl, ?_⟩) ?_ ?_
                rotate_left
                · intro w'
                  go_simp
                  with_reducible rfl
                rotate_left
                · simp only [Act.put, List.setIfInBounds_toArray, List.set_cons_zero, List.set_cons_succ, i64_w, i32_w]
                  rfl
                refine one_ (i := 1) (N := some 38) #[true, true, true, false, false, false, false, false, false, false, false, false, false, false] rfl rfl (one_of HT_.out (by kernel_rfl)) (by decide) (fun K hK => ?_)
                refine goes_ Tryd.func49 (by kernel_rfl) rfl #[.int .i64 x12_1] (by rfl) rfl rfl (by (try simp only [List.map_toArray, List.map_cons, List.map_nil]); first | done | rfl | (simp only [List.length_drop, List.length_take]; rfl)) ?_
                with_reducible refine (drovewayref05_size.calls k1 x12_1 t334 _ A20.out).mono ?_
                rintro e w' ⟨rfl, ⟨nd, rfl⟩⟩
                refine ⟨_, rfl, ?_⟩
                refine hK.out _ _ trivial (fun hHeld => ?_)
                clear hK K
                refine norm_ (a' := ?_) ?_ ?_
                rotate_left
                · show Act.put _ (some 38) _ = _
                  simp only [Act.put, List.setIfInBounds_toArray, List.set_cons_zero, List.set_cons_succ, i64_w, i32_w]
                  rfl
                refine one_ (i := 3) (N := some 40) #[true, true, true, true, false, false, false, false, false, false, false, false, false, false] rfl rfl (one_of HT_.out (by kernel_rfl)) (by decide) (fun K hK => ?_)
                refine goes_ Tryd.func49 (by kernel_rfl) rfl #[.int .i64 x11_1] (by rfl) rfl rfl (by (try simp only [List.map_toArray, List.map_cons, List.map_nil]); first | done | rfl | (simp only [List.length_drop, List.length_take]; rfl)) ?_
                with_reducible refine (drovewayref05_size.calls k1 x11_1 t335 _ A21.out).mono ?_
                rintro e w' ⟨rfl, ⟨nd, rfl⟩⟩
                refine ⟨_, rfl, ?_⟩
                refine hK.out _ _ trivial (fun hHeld => ?_)
                clear hK K
                refine norm_ (a' := ?_) ?_ ?_
                rotate_left
                · show Act.put _ (some 40) _ = _
                  simp only [Act.put, List.setIfInBounds_toArray, List.set_cons_zero, List.set_cons_succ, i64_w, i32_w]
                  rfl
                refine pure_ (i := 4) (N := some 41) (v := ?_) (a' := ?_) #[true, true, true, true, true, false, false, false, false, false, false, false, false, false] rfl rfl (any_of HT_.out (by kernel_rfl)) (fun _ _ _ h => h) (Or.inl ⟨by rfl, ?_⟩) ?_ ?_
                rotate_left
                · intro w'
                  go_simp
                  with_reducible rfl
                rotate_left
                · simp only [Act.put, List.setIfInBounds_toArray, List.set_cons_zero, List.set_cons_succ, i64_w, i32_w]
                  rfl
                refine pure_ (i := 5) (N := some 42) (v := ?_) (a' := ?_) #[true, true, true, true, true, true, false, false, false, false, false, false, false, false] rfl rfl (any_of HT_.out (by kernel_rfl)) (fun _ _ _ h => h) (Or.inl ⟨by rfl, ?_⟩) ?_ ?_
                rotate_left
                · intro w'
                  go_simp
                  with_reducible rfl
                rotate_left
                · simp only [Act.put, List.setIfInBounds_toArray, List.set_cons_zero, List.set_cons_succ, i64_w, i32_w]
                  rfl
                refine pure_ (i := 6) (N := some 43) (v := undef) (a' := ?_) #[true, true, true, true, true, true, true, false, false, false, false, false, false, false] rfl rfl (any_of HT_.out (by kernel_rfl)) (fun _ _ _ h => h) (Or.inr ⟨by rfl, rfl⟩) ?_ ?_
                rotate_left
                · simp only [Act.put, List.setIfInBounds_toArray, List.set_cons_zero, List.set_cons_succ, i64_w, i32_w]
                  rfl
                refine pure_ (i := 7) (N := some 44) (v := undef) (a' := ?_) #[true, true, true, true, true, true, true, true, false, false, false, false, false, false] rfl rfl (any_of HT_.out (by kernel_rfl)) (fun _ _ _ h => h) (Or.inr ⟨by rfl, rfl⟩) ?_ ?_
                rotate_left
                · simp only [Act.put, List.setIfInBounds_toArray, List.set_cons_zero, List.set_cons_succ, i64_w, i32_w]
                  rfl
                refine pure_ (i := 8) (N := some 45) (v := undef) (a' := ?_) #[true, true, true, true, true, true, true, true, true, false, false, false, false, false] rfl rfl (any_of HT_.out (by kernel_rfl)) (fun _ _ _ h => h) (Or.inr ⟨by rfl, rfl⟩) ?_ ?_
                rotate_left
                · simp only [Act.put, List.setIfInBounds_toArray, List.set_cons_zero, List.set_cons_succ, i64_w, i32_w]
                  rfl
                refine pure_ (i := 9) (N := some 46) (v := undef) (a' := ?_) #[true, true, true, true, true, true, true, true, true, true, false, false, false, false] rfl rfl (any_of HT_.out (by kernel_rfl)) (fun _ _ _ h => h) (Or.inr ⟨by rfl, rfl⟩) ?_ ?_
                rotate_left
                · simp only [Act.put, List.setIfInBounds_toArray, List.set_cons_zero, List.set_cons_succ, i64_w, i32_w]
                  rfl
                refine pure_ (i := 10) (N := some 47) (v := undef) (a' := ?_) #[true, true, true, true, true, true, true, true, true, true, true, false, false, false] rfl rfl (any_of HT_.out (by kernel_rfl)) (fun _ _ _ h => h) (Or.inr ⟨by rfl, rfl⟩) ?_ ?_
                rotate_left
                · simp only [Act.put, List.setIfInBounds_toArray, List.set_cons_zero, List.set_cons_succ, i64_w, i32_w]
                  rfl
                refine pure_ (i := 11) (N := some 48) (v := undef) (a' := ?_) #[true, true, true, true, true, true, true, true, true, true, true, true, false, false] rfl rfl (any_of HT_.out (by kernel_rfl)) (fun _ _ _ h => h) (Or.inr ⟨by rfl, rfl⟩) ?_ ?_
                rotate_left
                · simp only [Act.put, List.setIfInBounds_toArray, List.set_cons_zero, List.set_cons_succ, i64_w, i32_w]
                  rfl
                refine pure_ (i := 12) (N := some 49) (v := undef) (a' := ?_) #[true, true, true, true, true, true, true, true, true, true, true, true, true, false] rfl rfl (any_of HT_.out (by kernel_rfl)) (fun _ _ _ h => h) (Or.inr ⟨by rfl, rfl⟩) ?_ ?_
                rotate_left
                · simp only [Act.put, List.setIfInBounds_toArray, List.set_cons_zero, List.set_cons_succ, i64_w, i32_w]
                  rfl
                refine pure_ (i := 13) (N := some 50) (v := ?_) (a' := ?_) #[true, true, true, true, true, true, true, true, true, true, true, true, true, true] rfl rfl (any_of HT_.out (by kernel_rfl)) (fun _ _ _ h => h) (Or.inl ⟨by rfl, ?_⟩) ?_ ?_
                rotate_left
                · intro w'
                  go_simp
                  with_reducible rfl
                rotate_left
                · simp only [Act.put, List.setIfInBounds_toArray, List.set_cons_zero, List.set_cons_succ, i64_w, i32_w]
                  rfl
                refine done_ (done_of HT_.out (by kernel_rfl)) ?_
                try go_wp2
                go_roundg k1
                case measure => have := HK1.out; omega
                case rel => exact ⟨(x11_1), (wrap64 (x12_1 + 1)), (by first | rfl | (simp; done) | (simp [*]; done)), (by first | rfl | (simp; done) | (simp [*]; done)), H', ⟨by have := HK1.out; omega⟩, ⟨by (with_reducible repeat (first | apply Kd.R_alloc | apply Kd.R_drewN | apply Kd.R_drew)); exact HO_328001.out⟩, ⟨by (with_reducible repeat (first | apply Kd.R_alloc | apply Kd.R_drewN | apply Kd.R_drew)); exact HO_334001.out⟩, ⟨by (with_reducible repeat (first | refine blk_drewN ?_ _ | refine blk_drew ?_ | refine blk_alloc ?_ _)); exact BK327.out⟩, ⟨by (with_reducible repeat (first | refine blk_drewN ?_ _ | refine blk_drew ?_ | refine blk_alloc ?_ _)); exact BK333.out⟩, ⟨by repeat (first | (with_reducible first | exact HB.out | apply below_alloc | apply pw_below_drewN | apply below_drew1 | refine below_set ?_ GE327.out | refine below_set ?_ GE333.out) | exact HB.out)⟩⟩
            · rw [if_neg c19] at H
              have c19b0 : decide (x12_1 < (ji18)) = false := decide_eq_false c19
              clear c19
              simp only [Option.some.injEq, Prod.mk.injEq] at H
              obtain ⟨rfl, rfl⟩ := H
              go_wp2
              go_ret2
              exact ⟨by first | rfl | (simp [errW_none, errW_some] <;> rfl) | (simp only [← hji18]; first | rfl | (simp [errW_none, errW_some] <;> rfl)) | (simp [*, errW_none, errW_some] <;> rfl), by repeat (first | (with_reducible first | exact HB.out | apply below_alloc | apply pw_below_drewN | apply below_drew1 | refine below_set ?_ GE327.out | refine below_set ?_ GE333.out) | exact HB.out)⟩
          · rw [if_neg c17] at H
            exact absurd H (by simp)
    · rw [if_neg c7] at H
      have c7b0 : (t332 == 0) = false := beq_eq_false_iff_ne.mpr c7
      have c7b1 : (t332 != 0) = true := bne_iff_ne.mpr c7
      simp only [Option.some.injEq, Prod.mk.injEq] at H
      obtain ⟨rfl, rfl⟩ := H
      go_enter Tryd.func27, Tryd.ntmps27
      go_wp2_with (first | ((with_reducible refine gate_callee (f := 54) rfl ?_); refine goesL_ (some 16) rfl rfl Tryd.func54 (by kernel_rfl) rfl #[.int .i64 a0, .string a1] rfl (by (try simp only [List.map_toArray, List.map_cons, List.map_nil]); first | done | rfl | (simp only [List.length_drop, List.length_take]; rfl)) ?_; (with_reducible refine (drovewayref05_asked.calls k a0 a1 t322 t323 t326 _ A4.out).mono ?_); rintro e w33 ⟨v324, rfl, ho0, hb⟩; refine ⟨_, rfl, ?_⟩; have n0_ := Aside0.mk (Kd.R_lower ho0 (below_size (by repeat (first | (with_reducible first | exact HB.out | apply below_alloc | apply pw_below_drewN | apply below_drew1) | exact HB.out)))); have n1_ := Aside0.mk (below_step (by repeat (first | (with_reducible first | exact HB.out | apply below_alloc | apply pw_below_drewN | apply below_drew1) | exact HB.out)) hb); clear HB; have HO325 := n0_; have HB := n1_; clear n0_ n1_; (try clear hb); (try clear hb2); (try clear hk); (try clear hi); (try clear ho0)) | ((with_reducible refine gate_dst (N := 8) rfl ?_); refine box_event ?hg (N := 8) ?hd (cs := #[.int .i64 0, .slice none 0 0]) (t := 85) ?hr ?_; (case hd => rfl); (case hg => rfl); (case hr => first | (go_simp; done) | (go_simp; rfl)); intro gb327 hg w34 hbox hb; have n0_ := Aside0.mk (Kd.R_below (Kd.R_elderB (by (with_reducible repeat (first | apply Kd.R_alloc | apply Kd.R_drewN | apply Kd.R_drew)); exact HO325.out) gb327 (Nat.le_of_eq hg.symm)) hb); have n1_ := Aside0.mk (below_step (by repeat (first | (with_reducible first | exact HB.out | apply below_alloc | apply pw_below_drewN | apply below_drew1) | exact HB.out)) hb); have n2_ := Aside0.mk (hbox); have n3_ := Aside0.mk ((by rw [hg]; exact (below_size (by repeat (first | (with_reducible first | exact HB.out | apply below_alloc | apply pw_below_drewN | apply below_drew1) | exact HB.out))) : w.heap.size ≤ gb327)); have n4_ := Aside0.mk ((by rw [hg]; exact (below_size (by repeat (first | (with_reducible first | exact HB.out | apply below_alloc | apply pw_below_drewN | apply below_drew1) | exact HB.out))) : w.heap.size ≤ gb327)); clear HO325; clear HB; have HO325 := n0_; have HB := n1_; have BK327 := n2_; have GW327 := n3_; have GE327 := n4_; clear n0_ n1_ n2_ n3_ n4_; clear hb hbox hg; have hcz35_0 : w34.cell? ⟨gb327, 0, none⟩ = some (.int .i64 0) := (blk_cell BK327.out 0).trans rfl; have hcz35_1 : w34.cell? ⟨gb327, 1, none⟩ = some (.slice none 0 0) := (blk_cell BK327.out 1).trans rfl; have hfz35_0 := blk_frozen BK327.out 0; have hfz35_1 := blk_frozen BK327.out 1; obtain ⟨Ao36, co36, eo36⟩ := Kd.R_slice HO325.out; subst eo36) | ((with_reducible refine gate_callee (f := 54) rfl ?_); refine goesL_ (some 25) rfl rfl Tryd.func54 (by kernel_rfl) rfl #[.int .i64 a0, .string a2] rfl (by (try simp only [List.map_toArray, List.map_cons, List.map_nil]); first | done | rfl | (simp only [List.length_drop, List.length_take]; rfl)) ?_; (with_reducible refine (drovewayref05_asked.calls k a0 a2 t328 t329 t332 _ A6.out).mono ?_); rintro e w37 ⟨v330, rfl, ho0, hb⟩; refine ⟨_, rfl, ?_⟩; have n0_ := Aside0.mk (Kd.R_elder' (by (with_reducible repeat (first | apply Kd.R_alloc | apply Kd.R_drewN | apply Kd.R_drew)); exact (Kd.R_mono (Kd.R_far (p := ⟨gb327, 1, none⟩) (Kd.R_far (p := ⟨gb327, 0, none⟩) (Kd.R_mono HO325.out (fun k_ hk => (⟨hk, hk.2⟩ : _ ∧ k_ ≠ gb327))) (fun _ hk => hk.2) (.int .i64 t322)) (fun _ hk => hk.2) (.slice Ao36 t323.length co36)) (fun _ h_ => h_.1))) (Kd.R_base ho0) hb); have n1_ := Aside0.mk (Kd.R_lower (Kd.R_newB (Kd.R_new' ho0 (Kd.R_lt (by (with_reducible repeat (first | apply Kd.R_alloc | apply Kd.R_drewN | apply Kd.R_drew)); exact (Kd.R_mono (Kd.R_far (p := ⟨gb327, 1, none⟩) (Kd.R_far (p := ⟨gb327, 0, none⟩) (Kd.R_mono HO325.out (fun k_ hk => (⟨hk, hk.2⟩ : _ ∧ k_ ≠ gb327))) (fun _ hk => hk.2) (.int .i64 t322)) (fun _ hk => hk.2) (.slice Ao36 t323.length co36)) (fun _ h_ => h_.1))))) (g := gb327) (o := .cells #[.int .i64 t322, .slice Ao36 t323.length co36] 85 (0, 0)) (by (with_reducible repeat (first | refine blk_drewN ?_ _ | refine blk_drew ?_ | refine blk_alloc ?_ _)); refine blk_put (cs := #[.int .i64 t322, .slice none 0 0]) ?_ 1 _ rfl; (with_reducible repeat (first | refine blk_drewN ?_ _ | refine blk_drew ?_ | refine blk_alloc ?_ _)); refine blk_put (cs := #[.int .i64 0, .slice none 0 0]) ?_ 0 _ rfl; (with_reducible repeat (first | refine blk_drewN ?_ _ | refine blk_drew ?_ | refine blk_alloc ?_ _)); exact BK327.out)) (below_size (by repeat (first | (with_reducible first | exact HB.out | apply below_alloc | apply pw_below_drewN | apply below_drew1 | refine below_set ?_ GE327.out) | exact HB.out)))); have n2_ := Aside0.mk (blk_below (g := gb327) (o := .cells #[.int .i64 t322, .slice Ao36 t323.length co36] 85 (0, 0)) (by (with_reducible repeat (first | refine blk_drewN ?_ _ | refine blk_drew ?_ | refine blk_alloc ?_ _)); refine blk_put (cs := #[.int .i64 t322, .slice none 0 0]) ?_ 1 _ rfl; (with_reducible repeat (first | refine blk_drewN ?_ _ | refine blk_drew ?_ | refine blk_alloc ?_ _)); refine blk_put (cs := #[.int .i64 0, .slice none 0 0]) ?_ 0 _ rfl; (with_reducible repeat (first | refine blk_drewN ?_ _ | refine blk_drew ?_ | refine blk_alloc ?_ _)); exact BK327.out) hb); have n3_ := Aside0.mk (below_step (by repeat (first | (with_reducible first | exact HB.out | apply below_alloc | apply pw_below_drewN | apply below_drew1 | refine below_set ?_ GE327.out) | exact HB.out)) hb); clear HO325; clear BK327; clear HB; have HO325 := n0_; have HO331 := n1_; have BK327 := n2_; have HB := n3_; clear n0_ n1_ n2_ n3_; (try clear hb); (try clear hb2); (try clear hk); (try clear hi); (try clear ho0)) | ((with_reducible refine gate_dst (N := 10) rfl ?_); refine box_event ?hg (N := 10) ?hd (cs := #[.int .i64 0, .slice none 0 0]) (t := 85) ?hr ?_; (case hd => rfl); (case hg => rfl); (case hr => first | (go_simp; done) | (go_simp; rfl)); intro gb333 hg w38 hbox hb; have n0_ := Aside0.mk (Kd.R_below (Kd.R_elderB (by (with_reducible repeat (first | apply Kd.R_alloc | apply Kd.R_drewN | apply Kd.R_drew)); exact HO325.out) gb333 (Nat.le_of_eq hg.symm)) hb); have n1_ := Aside0.mk (Kd.R_below (Kd.R_elderB (by (with_reducible repeat (first | apply Kd.R_alloc | apply Kd.R_drewN | apply Kd.R_drew)); exact HO331.out) gb333 (Nat.le_of_eq hg.symm)) hb); have n2_ := Aside0.mk (blk_below (g := gb327) (o := .cells #[.int .i64 t322, .slice Ao36 t323.length co36] 85 (0, 0)) (by (with_reducible repeat (first | refine blk_drewN ?_ _ | refine blk_drew ?_ | refine blk_alloc ?_ _)); exact BK327.out) hb); have n3_ := Aside0.mk (below_step (by repeat (first | (with_reducible first | exact HB.out | apply below_alloc | apply pw_below_drewN | apply below_drew1 | refine below_set ?_ GE327.out) | exact HB.out)) hb); have n4_ := Aside0.mk (hbox); have n5_ := Aside0.mk ((by rw [hg]; exact (below_size (by repeat (first | (with_reducible first | exact HB.out | apply below_alloc | apply pw_below_drewN | apply below_drew1 | refine below_set ?_ GE327.out) | exact HB.out))) : w.heap.size ≤ gb333)); have n6_ := Aside0.mk ((by rw [hg]; exact (below_size (by repeat (first | (with_reducible first | exact HB.out | apply below_alloc | apply pw_below_drewN | apply below_drew1 | refine below_set ?_ GE327.out) | exact HB.out))) : w.heap.size ≤ gb333)); have n7_ := Aside0.mk ((by rw [hg]; exact Nat.ne_of_lt (blk_lt (g := gb327) (o := .cells #[.int .i64 t322, .slice Ao36 t323.length co36] 85 (0, 0)) (by (with_reducible repeat (first | refine blk_drewN ?_ _ | refine blk_drew ?_ | refine blk_alloc ?_ _)); exact BK327.out)) : gb327 ≠ gb333)); have n8_ := Aside0.mk ((by rw [hg]; exact Nat.ne_of_gt (blk_lt (g := gb327) (o := .cells #[.int .i64 t322, .slice Ao36 t323.length co36] 85 (0, 0)) (by (with_reducible repeat (first | refine blk_drewN ?_ _ | refine blk_drew ?_ | refine blk_alloc ?_ _)); exact BK327.out)) : gb333 ≠ gb327)); clear HO325; clear HO331; clear BK327; clear HB; have HO325 := n0_; have HO331 := n1_; have BK327 := n2_; have HB := n3_; have BK333 := n4_; have GW333 := n5_; have GE333 := n6_; have NB327_333 := n7_; have NB333_327 := n8_; clear n0_ n1_ n2_ n3_ n4_ n5_ n6_ n7_ n8_; clear hb hbox hg; have hnb39 := NB333_327.out; have hnc39 := NB327_333.out; have hcz40_0 : w38.cell? ⟨gb333, 0, none⟩ = some (.int .i64 0) := (blk_cell BK333.out 0).trans rfl; have hcz40_1 : w38.cell? ⟨gb333, 1, none⟩ = some (.slice none 0 0) := (blk_cell BK333.out 1).trans rfl; have hfz40_0 := blk_frozen BK333.out 0; have hfz40_1 := blk_frozen BK333.out 1; obtain ⟨Ao41, co41, eo41⟩ := Kd.R_slice HO331.out; subst eo41))
      go_ret2
      exact ⟨by first | rfl | (simp [errW_none, errW_some] <;> rfl) | (simp [*, errW_none, errW_some] <;> rfl), by repeat (first | (with_reducible first | exact HB.out | apply below_alloc | apply pw_below_drewN | apply below_drew1 | refine below_set ?_ GE327.out | refine below_set ?_ GE333.out) | exact HB.out)⟩
  · rw [if_neg c5] at H
    have c5b0 : (t326 == 0) = false := beq_eq_false_iff_ne.mpr c5
    have c5b1 : (t326 != 0) = true := bne_iff_ne.mpr c5
    simp only [Option.some.injEq, Prod.mk.injEq] at H
    obtain ⟨rfl, rfl⟩ := H
    go_enter Tryd.func27, Tryd.ntmps27
    go_wp2_with (first | ((with_reducible refine gate_callee (f := 54) rfl ?_); refine goesL_ (some 16) rfl rfl Tryd.func54 (by kernel_rfl) rfl #[.int .i64 a0, .string a1] rfl (by (try simp only [List.map_toArray, List.map_cons, List.map_nil]); first | done | rfl | (simp only [List.length_drop, List.length_take]; rfl)) ?_; (with_reducible refine (drovewayref05_asked.calls k a0 a1 t322 t323 t326 _ A4.out).mono ?_); rintro e w42 ⟨v324, rfl, ho0, hb⟩; refine ⟨_, rfl, ?_⟩; have n0_ := Aside0.mk (Kd.R_lower ho0 (below_size (by repeat (first | (with_reducible first | exact HB.out | apply below_alloc | apply pw_below_drewN | apply below_drew1) | exact HB.out)))); have n1_ := Aside0.mk (below_step (by repeat (first | (with_reducible first | exact HB.out | apply below_alloc | apply pw_below_drewN | apply below_drew1) | exact HB.out)) hb); clear HB; have HO325 := n0_; have HB := n1_; clear n0_ n1_; (try clear hb); (try clear hb2); (try clear hk); (try clear hi); (try clear ho0)) | ((with_reducible refine gate_dst (N := 8) rfl ?_); refine box_event ?hg (N := 8) ?hd (cs := #[.int .i64 0, .slice none 0 0]) (t := 85) ?hr ?_; (case hd => rfl); (case hg => rfl); (case hr => first | (go_simp; done) | (go_simp; rfl)); intro gb327 hg w43 hbox hb; have n0_ := Aside0.mk (Kd.R_below (Kd.R_elderB (by (with_reducible repeat (first | apply Kd.R_alloc | apply Kd.R_drewN | apply Kd.R_drew)); exact HO325.out) gb327 (Nat.le_of_eq hg.symm)) hb); have n1_ := Aside0.mk (below_step (by repeat (first | (with_reducible first | exact HB.out | apply below_alloc | apply pw_below_drewN | apply below_drew1) | exact HB.out)) hb); have n2_ := Aside0.mk (hbox); have n3_ := Aside0.mk ((by rw [hg]; exact (below_size (by repeat (first | (with_reducible first | exact HB.out | apply below_alloc | apply pw_below_drewN | apply below_drew1) | exact HB.out))) : w.heap.size ≤ gb327)); have n4_ := Aside0.mk ((by rw [hg]; exact (below_size (by repeat (first | (with_reducible first | exact HB.out | apply below_alloc | apply pw_below_drewN | apply below_drew1) | exact HB.out))) : w.heap.size ≤ gb327)); clear HO325; clear HB; have HO325 := n0_; have HB := n1_; have BK327 := n2_; have GW327 := n3_; have GE327 := n4_; clear n0_ n1_ n2_ n3_ n4_; clear hb hbox hg; have hcz44_0 : w43.cell? ⟨gb327, 0, none⟩ = some (.int .i64 0) := (blk_cell BK327.out 0).trans rfl; have hcz44_1 : w43.cell? ⟨gb327, 1, none⟩ = some (.slice none 0 0) := (blk_cell BK327.out 1).trans rfl; have hfz44_0 := blk_frozen BK327.out 0; have hfz44_1 := blk_frozen BK327.out 1; obtain ⟨Ao45, co45, eo45⟩ := Kd.R_slice HO325.out; subst eo45))
    go_ret2
    exact ⟨by first | rfl | (simp [errW_none, errW_some] <;> rfl) | (simp [*, errW_none, errW_some] <;> rfl), by repeat (first | (with_reducible first | exact HB.out | apply below_alloc | apply pw_below_drewN | apply below_drew1 | refine below_set ?_ GE327.out) | exact HB.out)⟩

end
end Go.Proofs.YtdbbcngmnpejnaaDoor.B

/- breed.Agree, walked. (Printed by gen_d22.py.) -/
namespace Go.Proofs.YtdbbcngmnpejnaaDoor.B
open Go.Proofs.YtdbbcngmnpejnaaDoor.A
open Go.RowKit Go.Proofs.YtdbbcngmnpejnaaDoorW.PrintWords Go.Proofs.YtdbbcngmnpejnaaDoorW.PrintMore
/-- The text of what a tree keeps of a set. -/
def ktext (t : BT) (s : Nat) : ByteArray := match t.kept s with | some u => strB u.text | none => ⟨#[]⟩
def agStep (ta tb : BT) (s best : Nat) : Nat := if pcN best 8 < pcN s 8 ∧ ktext ta s = ktext tb s then s else best
def agF (ta tb : BT) : Nat → Nat → Nat → Nat
  | 0, _, best => best
  | d + 1, s, best => agF ta tb d (s + 1) (agStep ta tb s best)
/-- The greatest set about which two trees agree, and the error. -/
def agreeE (n : Int) (La Lb : List UInt8) : Int × Int := match parseE n La with
  | none => (0, errT n)
  | some ta => match parseE n Lb with
    | none => (0, errT n)
    | some tb => (((agF ta tb (2 ^ n.toNat - 1) 1 0 : Nat) : Int), 0)
theorem byte_inj {a b : ByteArray} (h : a.toList = b.toList) : a = b := by
  rw [Lib.toList_data, Lib.toList_data] at h
  obtain ⟨⟨a⟩⟩ := a
  obtain ⟨⟨b⟩⟩ := b
  have h : a = b := h
  rw [h]
theorem readE_two (n : Int) (La Lb : List UInt8) : readE n [La, Lb] = (parseE n La).bind fun ta => (parseE n Lb).map fun tb => [ta, tb] := by
  unfold readE parseE
  by_cases h : 1 ≤ n ∧ n ≤ 8
  · rw [if_pos h, if_pos h, if_pos h, mapO]
    cases parseF n.toNat La with
    | none => rfl
    | some t =>
      rw [mapO]
      cases parseF n.toNat Lb with
      | none => rfl
      | some u => rw [mapO]; rfl
  · rw [if_neg h, if_neg h]; rfl
theorem read_two (n : Int) (b c : Nat) (La Lb : List UInt8) (W : World) (hc : W.cell? ⟨b, 0, none⟩ = some (.string (strB La))) (hc1 : W.cell? ⟨b, 1, none⟩ = some (.string (strB Lb))) (hT : TabAt W) :
    Calls Tryd.prog 52 #[.int .i64 n, .slice (some ⟨b, 0, none⟩) 2 c] W fun e w' => (((parseE n La = none ∨ parseE n Lb = none) ∧ e = .returned (.tuple #[.slice none 0 0, .int .i64 (errT n)])) ∨
      ∃ (ta tb : BT) (g cap : Nat) (T : TypeId) (u : Value) (T2 : TypeId) (u2 : Value), parseE n La = some ta ∧ parseE n Lb = some tb ∧ e = .returned (.tuple #[.slice (some ⟨g, 0, none⟩) 2 cap, .int .i64 0]) ∧ w'.cell? ⟨g, 0, none⟩ = some (.iface T u) ∧ w'.cell? ⟨g, 1, none⟩ = some (.iface T2 u2) ∧ TrV w' (fun _ => True) (.iface T u) ta ∧ TrV w' (fun _ => True) (.iface T2 u2) tb) ∧ Below W.heap.size W w' := by
  refine (read_calls n b c [La, Lb] W (by simp) (fun j L' h => ?_) hT).mono ?_
  · match j, h with
    | 0, h => cases h; exact hc
    | 1, h => cases h; exact hc1
  · rintro e w' ⟨⟨h1, rfl⟩ | ⟨v, xs, h1, rfl, hR, hok⟩, hb⟩
    · rw [readE_two] at h1
      have h2 : parseE n La = none ∨ parseE n Lb = none := by
        cases h : parseE n La with
        | none => exact .inl rfl
        | some t =>
          cases h3 : parseE n Lb with
          | none => exact .inr rfl
          | some u => rw [h, h3] at h1; cases h1
      exact ⟨Or.inl ⟨h2, rfl⟩, hb⟩
    · rw [readE_two] at h1
      cases h : parseE n La with
      | none => rw [h] at h1; cases h1
      | some ta =>
        cases h3 : parseE n Lb with
        | none => rw [h, h3] at h1; cases h1
        | some tb =>
          rw [h, h3] at h1
          have hx : xs.map (·.2) = [ta, tb] := by injection h1 with h1; exact h1.symm
          obtain ⟨x, y, rfl⟩ : ∃ x y, xs = [x, y] := by
            have hl : xs.length = 2 := by rw [← List.length_map (f := fun x : TT => x.2), hx]; rfl
            match xs, hl with
            | [x, y], _ => exact ⟨x, y, rfl⟩
          have ht : x.2 = ta := by injection hx
          have ht2 : y.2 = tb := by injection hx with _ hx; injection hx
          obtain ⟨g, cap, rfl, _⟩ := Kd.R_form hR (by simp)
          have hC := (Kd.R_reads' hR).2.2
          obtain ⟨ad, had, hx0⟩ := ReadsOf.at_ (Kd.reads_of_C (d := default) hC) 0 (by decide) (by simp)
          cases had
          obtain ⟨ad, had, hx1⟩ := ReadsOf.at_ (Kd.reads_of_C (d := default) hC) 1 (by decide) (by simp)
          cases had
          have hx : w'.cell? ⟨g, 0, none⟩ = some (encT x) := hx0
          have hy : w'.cell? ⟨g, 1, none⟩ = some (encT y) := hx1
          have htv := (hok x (by simp)).1
          rw [ht] at htv
          obtain ⟨T, u, he, _⟩ := htv.ask
          rw [he] at hx htv
          have htv2 := (hok y (by simp)).1
          rw [ht2] at htv2
          obtain ⟨T2, u2, he2, _⟩ := htv2.ask
          rw [he2] at hy htv2
          exact ⟨Or.inr ⟨ta, tb, g, cap, T, u, T2, u2, rfl, rfl, rfl, hx, hy, htv.mono fun _ _ => trivial, htv2.mono fun _ _ => trivial⟩, hb⟩

set_option maxRecDepth 100000 in
set_option maxHeartbeats 6400000 in
theorem Agree_calls (n : Int) (La Lb : List UInt8) (W : World) (hT : TabAt W) :
    Calls Tryd.prog 26 #[.int .i64 n, .string (strB La), .string (strB Lb)] W fun e w' => e = .returned (.tuple #[.int .i64 (agreeE n La Lb).1, .int .i64 (agreeE n La Lb).2]) ∧ Below W.heap.size W w' := by
  have HT := Aside0.mk hT
  obtain ⟨Z, hZ⟩ : ∃ Z, agreeE n La Lb = Z := ⟨_, rfl⟩
  rw [hZ]
  unfold agreeE at hZ
  have hnew := heap_alloc_new W (.cells #[.string (strB La), .string (strB Lb)] 9)
  have HC0 := read_two n W.heap.size 2 La Lb _ (blk_cell hnew 0) (blk_cell hnew 1) (HT.out.next ((Below.refl _ W).alloc (Nat.le_refl _) _))
  have HC := Aside0.mk (HC0.mono fun e w' h => (⟨h.1, below_then ((Below.refl _ W).alloc (Nat.le_refl _) _) ((Below.refl _ W).alloc (Nat.le_refl _) _).size h.2⟩ : _ ∧ Below W.heap.size W w'))
  clear hnew HC0
  generalize strB La = sa at HC ⊢
  generalize strB Lb = sb at HC ⊢
  have he0 := errT_ne n
  obtain ⟨e1, e2⟩ := errne he0
  by_cases hbad : parseE n La = none ∨ parseE n Lb = none
  · have hz : Z = (0, errT n) := by
      rw [← hZ]
      rcases hbad with h | h
      · rw [h]
      · rw [h]; cases parseE n La <;> rfl
    subst hz
    have HC2 : Aside0 (Calls Tryd.prog 52 #[.int .i64 n, .slice (some ⟨W.heap.size, 0, none⟩) 2 2] (W.alloc (.cells #[.string sa, .string sb] 9)) fun e w' => e = .returned (.tuple #[.slice none 0 0, .int .i64 (errT n)]) ∧ Below W.heap.size W w') := ⟨HC.out.mono (by
      rintro e w' ⟨⟨_, h⟩ | ⟨ta, tb, _, _, _, _, _, _, h, h2, _⟩, hb⟩
      · exact ⟨h, hb⟩
      · rcases hbad with h3 | h3
        · rw [h3] at h; cases h
        · rw [h3] at h2; cases h2)⟩
    clear HC hbad he0 hZ
    generalize errT n = E at *
    go_enter Tryd.func26, Tryd.ntmps26
    go_wp2_with (go_at_call 52; go_must (refine HC2.out.mono ?_; rintro e w1 ⟨rfl, hb1⟩; have HB1 := Aside0.mk hb1; clear hb1))
    go_ret2
    exact ⟨rfl, HB1.out⟩
  · obtain ⟨ta, hpa⟩ : ∃ ta, parseE n La = some ta := by
      cases h : parseE n La with
      | none => exact absurd (.inl h) hbad
      | some t => exact ⟨t, rfl⟩
    obtain ⟨tb, hpb⟩ : ∃ tb, parseE n Lb = some tb := by
      cases h : parseE n Lb with
      | none => exact absurd (.inr h) hbad
      | some t => exact ⟨t, rfl⟩
    rw [hpa, hpb] at hZ
    dsimp only at hZ
    obtain ⟨hn1, hn8, hga, hsa⟩ := parseE_good hpa
    obtain ⟨_, _, hgb, hsb⟩ := parseE_good hpb
    have HC2 : Aside0 (Calls Tryd.prog 52 #[.int .i64 n, .slice (some ⟨W.heap.size, 0, none⟩) 2 2] (W.alloc (.cells #[.string sa, .string sb] 9)) fun e w' => ∃ (g cap : Nat) (T : TypeId) (u : Value) (T2 : TypeId) (u2 : Value), e = .returned (.tuple #[.slice (some ⟨g, 0, none⟩) 2 cap, .int .i64 0]) ∧ w'.cell? ⟨g, 0, none⟩ = some (.iface T u) ∧ w'.cell? ⟨g, 1, none⟩ = some (.iface T2 u2) ∧ TrV w' (fun _ => True) (.iface T u) ta ∧ TrV w' (fun _ => True) (.iface T2 u2) tb ∧ Below W.heap.size W w') := ⟨HC.out.mono (by
      rintro e w' ⟨⟨h, _⟩ | ⟨ta', tb', g, cap, T, u, T2, u2, h, h', h1, h2, h3, h4, h5⟩, hb⟩
      · exact absurd h hbad
      · rw [hpa] at h; cases h
        rw [hpb] at h'; cases h'
        exact ⟨g, cap, T, u, T2, u2, h1, h2, h3, h4, h5, hb⟩)⟩
    obtain ⟨m, rfl⟩ : ∃ m : Nat, n = m := ⟨n.toNat, by omega⟩
    have hm8 : m ≤ 8 := by omega
    rw [Int.toNat_natCast] at hsa hsb hZ
    clear HC hbad he0 e1 e2 hpa hpb
    have hP := pow_256 hm8
    have hP1 := Nat.two_pow_pos m
    have hw1 := wrap_pow hm8
    have hw2 := wrap64_pow hm8
    have HKS : Aside0 (∀ s, 1 ≤ s → s < 2 ^ m → (∃ ua, ta.kept s = some ua ∧ ua.Good) ∧ ∃ ub, tb.kept s = some ub ∧ ub.Good) := ⟨fun s h1 h2 => by
      obtain ⟨ua, a1, a2, _⟩ := kept_some (s := s) hga hsa (by omega) h2
      obtain ⟨ub, b1, b2, _⟩ := kept_some (s := s) hgb hsb (by omega) h2
      exact ⟨⟨ua, a1, a2⟩, ⟨ub, b1, b2⟩⟩⟩
    have HGTA := Aside0.mk hga
    have HGTB := Aside0.mk hgb
    have HZ : Aside0 (((agF ta tb (2 ^ m - 1) 1 0 : Nat) : Int) = Z.1 ∧ Z.2 = 0) := ⟨by rw [← hZ]; exact ⟨rfl, rfl⟩⟩
    clear hga hgb hsa hsb hZ
    generalize 2 ^ m = N at hP hP1 hw1 hw2 HKS HZ
    obtain ⟨N', rfl⟩ : ∃ N', N = N' + 1 := ⟨N - 1, by omega⟩
    rw [show N' + 1 - 1 = N' by omega] at HZ
    go_enter Tryd.func26, Tryd.ntmps26
    go_upto_region 6 with (go_at_call 52; go_must (refine HC2.out.mono ?_; rintro e w1 ⟨g, cap, T, u, T2, u2, rfl, hc1, hc2, ht1, ht2, hb1⟩; have HG1 := Aside0.mk hc1; have HG2 := Aside0.mk hc2; have HTV := Aside0.mk ht1; have HTV2 := Aside0.mk ht2; have HB1 := Aside0.mk hb1; clear hc1 hc2 ht1 ht2 hb1))
    go_loopg [10, 11] N' (fun gg v10 v11 wr => ∃ s best : Nat, 1 ≤ s ∧ s ≤ N' + 1 ∧ N' + 1 - s ≤ gg ∧ best < 256 ∧ v11 = .int .i64 (s : Int) ∧ v10 = .int .i64 (best : Int) ∧ Aside0 (((agF ta tb (N' + 1 - s) s best : Nat) : Int) = Z.1 ∧ Z.2 = 0) ∧ Aside0 (Below w1.heap.size w1 wr))
    case atStart => exact ⟨1, 0, Nat.le_refl _, by omega, by omega, by omega, rfl, rfl, ⟨by rw [show N' + 1 - 1 = N' by omega]; exact HZ.out⟩, ⟨Below.refl _ _⟩⟩
    case round =>
      clear HZ
      obtain ⟨s, best, hs1, hs, hgg, hb8, rfl, rfl, HZ, HB⟩ := hrel
      by_cases hsn : s < N' + 1
      · have hkz : (s : Int) < ((N' + 1 : Nat) : Int) := by omega
        have hs8 : s < 256 := by omega
        have HK : Aside0 (agF ta tb (N' + 1 - s) s best = agF ta tb (N' + 1 - (s + 1)) (s + 1) (agStep ta tb s best)) := ⟨by rw [show N' + 1 - s = (N' + 1 - (s + 1)) + 1 by omega, agF]⟩
        have HWR : Aside0 (Below W.heap.size W wr) := ⟨below_then HB1.out HB1.out.size HB.out⟩
        have HOS : Aside0 (∀ w, Calls Tryd.prog 47 #[.int .u64 (s : Int)] w fun e w' => e = .returned (.int .i64 (pcN s 8)) ∧ Below w.heap.size w w') := ⟨fun w => ones_calls s hs8 w⟩
        have HOB : Aside0 (∀ w, Calls Tryd.prog 47 #[.int .u64 (best : Int)] w fun e w' => e = .returned (.int .i64 (pcN best 8)) ∧ Below w.heap.size w w') := ⟨fun w => ones_calls best hb8 w⟩
        have hwk : IntKind.u64.wrap (s : Int) = (s : Int) := by rw [IntKind.wrap_u64]; omega
        have hwb : IntKind.u64.wrap (best : Int) = (best : Int) := by rw [IntKind.wrap_u64]; omega
        have g0 : wr.cell? ⟨g, 0, none⟩ = some (.iface T u) := pw_cell_below HB.out HG1.out
        have g1 : wr.cell? ⟨g, 1, none⟩ = some (.iface T2 u2) := pw_cell_below HB.out HG2.out
        have HGL : Aside0 (g < wr.heap.size) := ⟨World.block_lt_of_cell? wr _ g0⟩
        have hp1 := pcN_le s 8
        have hp2 := pcN_le best 8
        obtain ⟨⟨ua, hka, hgua⟩, ⟨ub, hkb, hgub⟩⟩ := HKS.out s hs1 hsn
        have HST : Aside0 (agStep ta tb s best = if pcN best 8 < pcN s 8 ∧ strB ua.text = strB ub.text then s else best) := ⟨by unfold agStep ktext; rw [hka, hkb]⟩
        have HKA : Aside0 (∀ w, Below wr.heap.size wr w → Calls Tryd.prog 53 #[.iface T u, .int .i64 (s : Int)] w fun e w' => ∃ v', e = .returned v' ∧ TrV w' (fun b => w.heap.size ≤ b) v' ua ∧ Below w.heap.size w w') := ⟨fun w hb => (kept_calls s hs8 ta HGTA.out _ _ w (HTV.out.below (below_then HB.out HB.out.size hb)) (HT.out.next (below_then HWR.out HWR.out.size hb))).mono (by
          rintro e w' ⟨⟨h, _⟩ | ⟨t', v, h, rfl, ht⟩, hb⟩
          · rw [hka] at h; cases h
          · rw [hka] at h; cases h; exact ⟨v, rfl, ht, hb⟩)⟩
        have HKB : Aside0 (∀ w, Below wr.heap.size wr w → Calls Tryd.prog 53 #[.iface T2 u2, .int .i64 (s : Int)] w fun e w' => ∃ v', e = .returned v' ∧ TrV w' (fun b => w.heap.size ≤ b) v' ub ∧ Below w.heap.size w w') := ⟨fun w hb => (kept_calls s hs8 tb HGTB.out _ _ w (HTV2.out.below (below_then HB.out HB.out.size hb)) (HT.out.next (below_then HWR.out HWR.out.size hb))).mono (by
          rintro e w' ⟨⟨h, _⟩ | ⟨t', v, h, rfl, ht⟩, hb⟩
          · rw [hkb] at h; cases h
          · rw [hkb] at h; cases h; exact ⟨v, rfl, ht, hb⟩)⟩
        have HGA := Aside0.mk hgua
        have HGB := Aside0.mk hgub
        clear hka hkb hgua hgub
        generalize pcN s 8 = ps at HOS HST hp1
        generalize pcN best 8 = pb at HOB HST hp2
        by_cases hpc : pb < ps
        · have hpz : (pb : Int) < (ps : Int) := by omega
          have hpy : (ps : Int) > (pb : Int) := by omega
          obtain ⟨xa, HXA⟩ : ∃ xa, strB ua.text = xa := ⟨_, rfl⟩
          obtain ⟨xb, HXB⟩ : ∃ xb, strB ub.text = xb := ⟨_, rfl⟩
          rw [HXA, HXB] at HST
          by_cases hx : xa = xb
          · have HS2 : Aside0 (agStep ta tb s best = s) := ⟨by rw [HST.out, if_pos ⟨hpc, hx⟩]⟩
            subst hx
            clear HST hpc
            go_upto_region 8 with fail
            have HBr : Aside0 (Below wr.heap.size wr wr.drew) := ⟨below_drew (Below.refl _ _)⟩
            refine wp_region_noPanic ?_
            refine wp_region_held_drew (S := fun w' => w'.cell? ⟨g, 0, none⟩ = some (.iface T u) ∧ w'.cell? ⟨g, 1, none⟩ = some (.iface T2 u2)) (by kernel_rfl) (⟨g0, g1⟩) (fun hHeld => ?_)
            refine H_on 0 29 ?va0 rfl rfl (by kernel_rfl) (by kernel_rfl) (by kernel_rfl) (by rfl) ?ha0 hHeld ?ra0
            case ha0 => (intro w hSw; obtain ⟨s0, s1⟩ := hSw; go_simp <;> with_reducible rfl)
            simp only [Act.put, List.setIfInBounds_toArray, List.set_cons_zero, List.set_cons_succ]
            refine H_on 1 30 ?va1 rfl rfl (by kernel_rfl) (by kernel_rfl) (by kernel_rfl) (by rfl) ?ha1 hHeld ?ra1
            case ha1 => (intro w hSw; obtain ⟨s0, s1⟩ := hSw; go_simp <;> with_reducible rfl)
            simp only [Act.put, List.setIfInBounds_toArray, List.set_cons_zero, List.set_cons_succ]
            refine H_on 3 32 ?va3 rfl rfl (by kernel_rfl) (by kernel_rfl) (by kernel_rfl) (by rfl) ?ha3 hHeld ?ra3
            case ha3 => (intro w hSw; obtain ⟨s0, s1⟩ := hSw; go_simp <;> with_reducible rfl)
            simp only [Act.put, List.setIfInBounds_toArray, List.set_cons_zero, List.set_cons_succ]
            refine H_on 4 33 ?va4 rfl rfl (by kernel_rfl) (by kernel_rfl) (by kernel_rfl) (by rfl) ?ha4 hHeld ?ra4
            case ha4 => (intro w hSw; obtain ⟨s0, s1⟩ := hSw; go_simp <;> with_reducible rfl)
            simp only [Act.put, List.setIfInBounds_toArray, List.set_cons_zero, List.set_cons_succ]
            refine wpAnyH_ready (rs := [2]) (by kernel_rfl) (by simp) ?_
            refine AllReadyH.cons rfl (fun K hK => ?_) AllReadyH.nil
            go_simp
            refine (HOS.out _).mono ?_
            rintro e wa ⟨rfl, hb⟩
            replace HBr : Aside0 (Below wr.heap.size wr wa) := ⟨below_then HBr.out HBr.out.size hb⟩
            clear hb
            try clear f0 f1
            have f0 : wa.cell? ⟨g, 0, none⟩ = some (.iface T u) := (World.cell?_of_block (HBr.out.block g HGL.out)).trans g0
            have f1 : wa.cell? ⟨g, 1, none⟩ = some (.iface T2 u2) := (World.cell?_of_block (HBr.out.block g HGL.out)).trans g1
            go_wp2_with fail
            refine hK.out _ _ (⟨f0, f1⟩) (fun hHeld => ?_)
            clear hK K
            try simp only [Act.put, List.setIfInBounds_toArray, List.set_cons_zero, List.set_cons_succ]
            refine wpAnyH_ready (rs := [5]) (by kernel_rfl) (by simp) ?_
            refine AllReadyH.cons rfl (fun K hK => ?_) AllReadyH.nil
            go_simp
            refine (HOB.out _).mono ?_
            rintro e wb ⟨rfl, hb⟩
            replace HBr : Aside0 (Below wr.heap.size wr wb) := ⟨below_then HBr.out HBr.out.size hb⟩
            clear hb
            try clear f0 f1
            have f0 : wb.cell? ⟨g, 0, none⟩ = some (.iface T u) := (World.cell?_of_block (HBr.out.block g HGL.out)).trans g0
            have f1 : wb.cell? ⟨g, 1, none⟩ = some (.iface T2 u2) := (World.cell?_of_block (HBr.out.block g HGL.out)).trans g1
            go_wp2_with fail
            refine hK.out _ _ (⟨f0, f1⟩) (fun hHeld => ?_)
            clear hK K
            try simp only [Act.put, List.setIfInBounds_toArray, List.set_cons_zero, List.set_cons_succ]
            refine H_on 6 35 ?va6 rfl rfl (by kernel_rfl) (by kernel_rfl) (by kernel_rfl) (by rfl) ?ha6 hHeld ?ra6
            case ha6 => (intro w hSw; obtain ⟨s0, s1⟩ := hSw; go_simp <;> with_reducible rfl)
            simp only [Act.put, List.setIfInBounds_toArray, List.set_cons_zero, List.set_cons_succ]
            refine H_on 7 36 ?va7 rfl rfl (by kernel_rfl) (by kernel_rfl) (by kernel_rfl) (by rfl) ?ha7 hHeld ?ra7
            case ha7 => (intro w hSw; obtain ⟨s0, s1⟩ := hSw; go_simp <;> with_reducible rfl)
            simp only [Act.put, List.setIfInBounds_toArray, List.set_cons_zero, List.set_cons_succ]
            refine H_on 8 37 ?va8 rfl rfl (by kernel_rfl) (by kernel_rfl) (by kernel_rfl) (by rfl) ?ha8 hHeld ?ra8
            case ha8 => (intro w hSw; obtain ⟨s0, s1⟩ := hSw; go_simp <;> with_reducible rfl)
            simp only [Act.put, List.setIfInBounds_toArray, List.set_cons_zero, List.set_cons_succ]
            refine H_on 9 38 ?va9 rfl rfl (by kernel_rfl) (by kernel_rfl) (by kernel_rfl) (by rfl) ?ha9 hHeld ?ra9
            case ha9 => (intro w hSw; obtain ⟨s0, s1⟩ := hSw; go_simp <;> with_reducible rfl)
            simp only [Act.put, List.setIfInBounds_toArray, List.set_cons_zero, List.set_cons_succ]
            refine H_on 10 39 ?va10 rfl rfl (by kernel_rfl) (by kernel_rfl) (by kernel_rfl) (by rfl) ?ha10 hHeld ?ra10
            case ha10 => (intro w hSw; obtain ⟨s0, s1⟩ := hSw; go_simp <;> with_reducible rfl)
            simp only [Act.put, List.setIfInBounds_toArray, List.set_cons_zero, List.set_cons_succ]
            refine H_on 11 40 ?va11 rfl rfl (by kernel_rfl) (by kernel_rfl) (by kernel_rfl) (by rfl) ?ha11 hHeld ?ra11
            case ha11 => (intro w hSw; obtain ⟨s0, s1⟩ := hSw; go_simp <;> with_reducible rfl)
            simp only [Act.put, List.setIfInBounds_toArray, List.set_cons_zero, List.set_cons_succ]
            refine H_on 14 43 ?va14 rfl rfl (by kernel_rfl) (by kernel_rfl) (by kernel_rfl) (by rfl) ?ha14 hHeld ?ra14
            case ha14 => (intro w hSw; obtain ⟨s0, s1⟩ := hSw; go_simp <;> with_reducible rfl)
            simp only [Act.put, List.setIfInBounds_toArray, List.set_cons_zero, List.set_cons_succ]
            refine H_on 15 44 ?va15 rfl rfl (by kernel_rfl) (by kernel_rfl) (by kernel_rfl) (by rfl) ?ha15 hHeld ?ra15
            case ha15 => (intro w hSw; obtain ⟨s0, s1⟩ := hSw; go_simp <;> with_reducible rfl)
            simp only [Act.put, List.setIfInBounds_toArray, List.set_cons_zero, List.set_cons_succ]
            refine H_on 16 45 ?va16 rfl rfl (by kernel_rfl) (by kernel_rfl) (by kernel_rfl) (by rfl) ?ha16 hHeld ?ra16
            case ha16 => (intro w hSw; obtain ⟨s0, s1⟩ := hSw; go_simp <;> with_reducible rfl)
            simp only [Act.put, List.setIfInBounds_toArray, List.set_cons_zero, List.set_cons_succ]
            refine H_on 17 46 ?va17 rfl rfl (by kernel_rfl) (by kernel_rfl) (by kernel_rfl) (by rfl) ?ha17 hHeld ?ra17
            case ha17 => (intro w hSw; obtain ⟨s0, s1⟩ := hSw; go_simp <;> with_reducible rfl)
            simp only [Act.put, List.setIfInBounds_toArray, List.set_cons_zero, List.set_cons_succ]
            refine wpAnyH_ready (rs := [12]) (by kernel_rfl) (by simp) ?_
            refine AllReadyH.cons rfl (fun K hK => ?_) AllReadyH.nil
            go_simp
            refine (HKA.out _ HBr.out).mono ?_
            rintro e wc ⟨va, rfl, htv, hb⟩
            replace HBr : Aside0 (Below wr.heap.size wr wc) := ⟨below_then HBr.out HBr.out.size hb⟩
            obtain ⟨T3, u3, K3, rfl, hmt3, hen3, hcall3⟩ := text_calls ua HGA.out _ va wc htv
            have HT3 := Aside0.mk hcall3
            have HBc : Aside0 (Below wc.heap.size wc wc) := ⟨Below.refl _ _⟩
            clear htv hcall3
            clear hb
            try clear f0 f1
            have f0 : wc.cell? ⟨g, 0, none⟩ = some (.iface T u) := (World.cell?_of_block (HBr.out.block g HGL.out)).trans g0
            have f1 : wc.cell? ⟨g, 1, none⟩ = some (.iface T2 u2) := (World.cell?_of_block (HBr.out.block g HGL.out)).trans g1
            go_wp2_with fail
            refine hK.out _ _ (⟨f0, f1⟩) (fun hHeld => ?_)
            clear hK K
            try simp only [Act.put, List.setIfInBounds_toArray, List.set_cons_zero, List.set_cons_succ]
            refine wpAnyH_ready (rs := [13]) (by kernel_rfl) (by simp) ?_
            refine AllReadyH.cons rfl (fun K hK => ?_) AllReadyH.nil
            go_simp
            refine (HXA ▸ HT3.out _ HBc.out (HT.out.next (below_then HWR.out HWR.out.size HBr.out))).mono ?_
            rintro e wd ⟨rfl, hb⟩
            replace HBr : Aside0 (Below wr.heap.size wr wd) := ⟨below_then HBr.out HBr.out.size hb⟩
            clear hb
            try clear f0 f1
            have f0 : wd.cell? ⟨g, 0, none⟩ = some (.iface T u) := (World.cell?_of_block (HBr.out.block g HGL.out)).trans g0
            have f1 : wd.cell? ⟨g, 1, none⟩ = some (.iface T2 u2) := (World.cell?_of_block (HBr.out.block g HGL.out)).trans g1
            go_wp2_with fail
            refine hK.out _ _ (⟨f0, f1⟩) (fun hHeld => ?_)
            clear hK K
            try simp only [Act.put, List.setIfInBounds_toArray, List.set_cons_zero, List.set_cons_succ]
            refine wpAnyH_ready (rs := [18]) (by kernel_rfl) (by simp) ?_
            refine AllReadyH.cons rfl (fun K hK => ?_) AllReadyH.nil
            go_simp
            refine (HKB.out _ HBr.out).mono ?_
            rintro e we ⟨vb, rfl, htv, hb⟩
            replace HBr : Aside0 (Below wr.heap.size wr we) := ⟨below_then HBr.out HBr.out.size hb⟩
            obtain ⟨T4, u4, K4, rfl, hmt4, hen4, hcall4⟩ := text_calls ub HGB.out _ vb we htv
            have HT4 := Aside0.mk hcall4
            have HBe : Aside0 (Below we.heap.size we we) := ⟨Below.refl _ _⟩
            clear htv hcall4
            clear hb
            try clear f0 f1
            have f0 : we.cell? ⟨g, 0, none⟩ = some (.iface T u) := (World.cell?_of_block (HBr.out.block g HGL.out)).trans g0
            have f1 : we.cell? ⟨g, 1, none⟩ = some (.iface T2 u2) := (World.cell?_of_block (HBr.out.block g HGL.out)).trans g1
            go_wp2_with fail
            refine hK.out _ _ (⟨f0, f1⟩) (fun hHeld => ?_)
            clear hK K
            try simp only [Act.put, List.setIfInBounds_toArray, List.set_cons_zero, List.set_cons_succ]
            refine wpAnyH_ready (rs := [19]) (by kernel_rfl) (by simp) ?_
            refine AllReadyH.cons rfl (fun K hK => ?_) AllReadyH.nil
            go_simp
            refine (HXB ▸ HT4.out _ HBe.out (HT.out.next (below_then HWR.out HWR.out.size HBr.out))).mono ?_
            rintro e wf ⟨rfl, hb⟩
            replace HBr : Aside0 (Below wr.heap.size wr wf) := ⟨below_then HBr.out HBr.out.size hb⟩
            clear hb
            try clear f0 f1
            have f0 : wf.cell? ⟨g, 0, none⟩ = some (.iface T u) := (World.cell?_of_block (HBr.out.block g HGL.out)).trans g0
            have f1 : wf.cell? ⟨g, 1, none⟩ = some (.iface T2 u2) := (World.cell?_of_block (HBr.out.block g HGL.out)).trans g1
            go_wp2_with fail
            refine hK.out _ _ (⟨f0, f1⟩) (fun hHeld => ?_)
            clear hK K
            try simp only [Act.put, List.setIfInBounds_toArray, List.set_cons_zero, List.set_cons_succ]
            refine H_on 20 49 ?va20 rfl rfl (by kernel_rfl) (by kernel_rfl) (by kernel_rfl) (by rfl) ?ha20 hHeld ?ra20
            case ha20 => (intro w hSw; obtain ⟨s0, s1⟩ := hSw; go_simp <;> with_reducible rfl)
            simp only [Act.put, List.setIfInBounds_toArray, List.set_cons_zero, List.set_cons_succ]
            refine H_on 21 50 ?va21 rfl rfl (by kernel_rfl) (by kernel_rfl) (by kernel_rfl) (by rfl) ?ha21 hHeld ?ra21
            case ha21 => (intro w hSw; obtain ⟨s0, s1⟩ := hSw; go_simp <;> with_reducible rfl)
            simp only [Act.put, List.setIfInBounds_toArray, List.set_cons_zero, List.set_cons_succ]
            refine wpAnyH_done (by kernel_rfl) ?_ _
            refine NoPanic.normal ?_
            clear hHeld
            go_wp2
            go_roundg (N' - s)
            case measure => omega
            case rel => exact ⟨s + 1, s, by omega, by omega, by omega, hs8, by go_num, rfl, ⟨by have h := HZ.out; rw [HK.out, HS2.out] at h; exact h⟩, ⟨HB.out.trans (HBr.out.mono HB.out.size)⟩⟩
          · have HS2 : Aside0 (agStep ta tb s best = best) := ⟨by rw [HST.out, if_neg (fun h => hx h.2)]⟩
            have hxl : (xa.toList == xb.toList) = false := beq_eq_false_iff_ne.mpr fun h => hx (byte_inj h)
            clear HST hpc hx
            go_upto_region 8 with fail
            have HBr : Aside0 (Below wr.heap.size wr wr.drew) := ⟨below_drew (Below.refl _ _)⟩
            refine wp_region_noPanic ?_
            refine wp_region_held_drew (S := fun w' => w'.cell? ⟨g, 0, none⟩ = some (.iface T u) ∧ w'.cell? ⟨g, 1, none⟩ = some (.iface T2 u2)) (by kernel_rfl) (⟨g0, g1⟩) (fun hHeld => ?_)
            refine H_on 0 29 ?vb0 rfl rfl (by kernel_rfl) (by kernel_rfl) (by kernel_rfl) (by rfl) ?hb0 hHeld ?rb0
            case hb0 => (intro w hSw; obtain ⟨s0, s1⟩ := hSw; go_simp <;> with_reducible rfl)
            simp only [Act.put, List.setIfInBounds_toArray, List.set_cons_zero, List.set_cons_succ]
            refine H_on 1 30 ?vb1 rfl rfl (by kernel_rfl) (by kernel_rfl) (by kernel_rfl) (by rfl) ?hb1 hHeld ?rb1
            case hb1 => (intro w hSw; obtain ⟨s0, s1⟩ := hSw; go_simp <;> with_reducible rfl)
            simp only [Act.put, List.setIfInBounds_toArray, List.set_cons_zero, List.set_cons_succ]
            refine H_on 3 32 ?vb3 rfl rfl (by kernel_rfl) (by kernel_rfl) (by kernel_rfl) (by rfl) ?hb3 hHeld ?rb3
            case hb3 => (intro w hSw; obtain ⟨s0, s1⟩ := hSw; go_simp <;> with_reducible rfl)
            simp only [Act.put, List.setIfInBounds_toArray, List.set_cons_zero, List.set_cons_succ]
            refine H_on 4 33 ?vb4 rfl rfl (by kernel_rfl) (by kernel_rfl) (by kernel_rfl) (by rfl) ?hb4 hHeld ?rb4
            case hb4 => (intro w hSw; obtain ⟨s0, s1⟩ := hSw; go_simp <;> with_reducible rfl)
            simp only [Act.put, List.setIfInBounds_toArray, List.set_cons_zero, List.set_cons_succ]
            refine wpAnyH_ready (rs := [2]) (by kernel_rfl) (by simp) ?_
            refine AllReadyH.cons rfl (fun K hK => ?_) AllReadyH.nil
            go_simp
            refine (HOS.out _).mono ?_
            rintro e wa ⟨rfl, hb⟩
            replace HBr : Aside0 (Below wr.heap.size wr wa) := ⟨below_then HBr.out HBr.out.size hb⟩
            clear hb
            try clear f0 f1
            have f0 : wa.cell? ⟨g, 0, none⟩ = some (.iface T u) := (World.cell?_of_block (HBr.out.block g HGL.out)).trans g0
            have f1 : wa.cell? ⟨g, 1, none⟩ = some (.iface T2 u2) := (World.cell?_of_block (HBr.out.block g HGL.out)).trans g1
            go_wp2_with fail
            refine hK.out _ _ (⟨f0, f1⟩) (fun hHeld => ?_)
            clear hK K
            try simp only [Act.put, List.setIfInBounds_toArray, List.set_cons_zero, List.set_cons_succ]
            refine wpAnyH_ready (rs := [5]) (by kernel_rfl) (by simp) ?_
            refine AllReadyH.cons rfl (fun K hK => ?_) AllReadyH.nil
            go_simp
            refine (HOB.out _).mono ?_
            rintro e wb ⟨rfl, hb⟩
            replace HBr : Aside0 (Below wr.heap.size wr wb) := ⟨below_then HBr.out HBr.out.size hb⟩
            clear hb
            try clear f0 f1
            have f0 : wb.cell? ⟨g, 0, none⟩ = some (.iface T u) := (World.cell?_of_block (HBr.out.block g HGL.out)).trans g0
            have f1 : wb.cell? ⟨g, 1, none⟩ = some (.iface T2 u2) := (World.cell?_of_block (HBr.out.block g HGL.out)).trans g1
            go_wp2_with fail
            refine hK.out _ _ (⟨f0, f1⟩) (fun hHeld => ?_)
            clear hK K
            try simp only [Act.put, List.setIfInBounds_toArray, List.set_cons_zero, List.set_cons_succ]
            refine H_on 6 35 ?vb6 rfl rfl (by kernel_rfl) (by kernel_rfl) (by kernel_rfl) (by rfl) ?hb6 hHeld ?rb6
            case hb6 => (intro w hSw; obtain ⟨s0, s1⟩ := hSw; go_simp <;> with_reducible rfl)
            simp only [Act.put, List.setIfInBounds_toArray, List.set_cons_zero, List.set_cons_succ]
            refine H_on 7 36 ?vb7 rfl rfl (by kernel_rfl) (by kernel_rfl) (by kernel_rfl) (by rfl) ?hb7 hHeld ?rb7
            case hb7 => (intro w hSw; obtain ⟨s0, s1⟩ := hSw; go_simp <;> with_reducible rfl)
            simp only [Act.put, List.setIfInBounds_toArray, List.set_cons_zero, List.set_cons_succ]
            refine H_on 8 37 ?vb8 rfl rfl (by kernel_rfl) (by kernel_rfl) (by kernel_rfl) (by rfl) ?hb8 hHeld ?rb8
            case hb8 => (intro w hSw; obtain ⟨s0, s1⟩ := hSw; go_simp <;> with_reducible rfl)
            simp only [Act.put, List.setIfInBounds_toArray, List.set_cons_zero, List.set_cons_succ]
            refine H_on 9 38 ?vb9 rfl rfl (by kernel_rfl) (by kernel_rfl) (by kernel_rfl) (by rfl) ?hb9 hHeld ?rb9
            case hb9 => (intro w hSw; obtain ⟨s0, s1⟩ := hSw; go_simp <;> with_reducible rfl)
            simp only [Act.put, List.setIfInBounds_toArray, List.set_cons_zero, List.set_cons_succ]
            refine H_on 10 39 ?vb10 rfl rfl (by kernel_rfl) (by kernel_rfl) (by kernel_rfl) (by rfl) ?hb10 hHeld ?rb10
            case hb10 => (intro w hSw; obtain ⟨s0, s1⟩ := hSw; go_simp <;> with_reducible rfl)
            simp only [Act.put, List.setIfInBounds_toArray, List.set_cons_zero, List.set_cons_succ]
            refine H_on 11 40 ?vb11 rfl rfl (by kernel_rfl) (by kernel_rfl) (by kernel_rfl) (by rfl) ?hb11 hHeld ?rb11
            case hb11 => (intro w hSw; obtain ⟨s0, s1⟩ := hSw; go_simp <;> with_reducible rfl)
            simp only [Act.put, List.setIfInBounds_toArray, List.set_cons_zero, List.set_cons_succ]
            refine H_on 14 43 ?vb14 rfl rfl (by kernel_rfl) (by kernel_rfl) (by kernel_rfl) (by rfl) ?hb14 hHeld ?rb14
            case hb14 => (intro w hSw; obtain ⟨s0, s1⟩ := hSw; go_simp <;> with_reducible rfl)
            simp only [Act.put, List.setIfInBounds_toArray, List.set_cons_zero, List.set_cons_succ]
            refine H_on 15 44 ?vb15 rfl rfl (by kernel_rfl) (by kernel_rfl) (by kernel_rfl) (by rfl) ?hb15 hHeld ?rb15
            case hb15 => (intro w hSw; obtain ⟨s0, s1⟩ := hSw; go_simp <;> with_reducible rfl)
            simp only [Act.put, List.setIfInBounds_toArray, List.set_cons_zero, List.set_cons_succ]
            refine H_on 16 45 ?vb16 rfl rfl (by kernel_rfl) (by kernel_rfl) (by kernel_rfl) (by rfl) ?hb16 hHeld ?rb16
            case hb16 => (intro w hSw; obtain ⟨s0, s1⟩ := hSw; go_simp <;> with_reducible rfl)
            simp only [Act.put, List.setIfInBounds_toArray, List.set_cons_zero, List.set_cons_succ]
            refine H_on 17 46 ?vb17 rfl rfl (by kernel_rfl) (by kernel_rfl) (by kernel_rfl) (by rfl) ?hb17 hHeld ?rb17
            case hb17 => (intro w hSw; obtain ⟨s0, s1⟩ := hSw; go_simp <;> with_reducible rfl)
            simp only [Act.put, List.setIfInBounds_toArray, List.set_cons_zero, List.set_cons_succ]
            refine wpAnyH_ready (rs := [12]) (by kernel_rfl) (by simp) ?_
            refine AllReadyH.cons rfl (fun K hK => ?_) AllReadyH.nil
            go_simp
            refine (HKA.out _ HBr.out).mono ?_
            rintro e wc ⟨va, rfl, htv, hb⟩
            replace HBr : Aside0 (Below wr.heap.size wr wc) := ⟨below_then HBr.out HBr.out.size hb⟩
            obtain ⟨T3, u3, K3, rfl, hmt3, hen3, hcall3⟩ := text_calls ua HGA.out _ va wc htv
            have HT3 := Aside0.mk hcall3
            have HBc : Aside0 (Below wc.heap.size wc wc) := ⟨Below.refl _ _⟩
            clear htv hcall3
            clear hb
            try clear f0 f1
            have f0 : wc.cell? ⟨g, 0, none⟩ = some (.iface T u) := (World.cell?_of_block (HBr.out.block g HGL.out)).trans g0
            have f1 : wc.cell? ⟨g, 1, none⟩ = some (.iface T2 u2) := (World.cell?_of_block (HBr.out.block g HGL.out)).trans g1
            go_wp2_with fail
            refine hK.out _ _ (⟨f0, f1⟩) (fun hHeld => ?_)
            clear hK K
            try simp only [Act.put, List.setIfInBounds_toArray, List.set_cons_zero, List.set_cons_succ]
            refine wpAnyH_ready (rs := [13]) (by kernel_rfl) (by simp) ?_
            refine AllReadyH.cons rfl (fun K hK => ?_) AllReadyH.nil
            go_simp
            refine (HXA ▸ HT3.out _ HBc.out (HT.out.next (below_then HWR.out HWR.out.size HBr.out))).mono ?_
            rintro e wd ⟨rfl, hb⟩
            replace HBr : Aside0 (Below wr.heap.size wr wd) := ⟨below_then HBr.out HBr.out.size hb⟩
            clear hb
            try clear f0 f1
            have f0 : wd.cell? ⟨g, 0, none⟩ = some (.iface T u) := (World.cell?_of_block (HBr.out.block g HGL.out)).trans g0
            have f1 : wd.cell? ⟨g, 1, none⟩ = some (.iface T2 u2) := (World.cell?_of_block (HBr.out.block g HGL.out)).trans g1
            go_wp2_with fail
            refine hK.out _ _ (⟨f0, f1⟩) (fun hHeld => ?_)
            clear hK K
            try simp only [Act.put, List.setIfInBounds_toArray, List.set_cons_zero, List.set_cons_succ]
            refine wpAnyH_ready (rs := [18]) (by kernel_rfl) (by simp) ?_
            refine AllReadyH.cons rfl (fun K hK => ?_) AllReadyH.nil
            go_simp
            refine (HKB.out _ HBr.out).mono ?_
            rintro e we ⟨vb, rfl, htv, hb⟩
            replace HBr : Aside0 (Below wr.heap.size wr we) := ⟨below_then HBr.out HBr.out.size hb⟩
            obtain ⟨T4, u4, K4, rfl, hmt4, hen4, hcall4⟩ := text_calls ub HGB.out _ vb we htv
            have HT4 := Aside0.mk hcall4
            have HBe : Aside0 (Below we.heap.size we we) := ⟨Below.refl _ _⟩
            clear htv hcall4
            clear hb
            try clear f0 f1
            have f0 : we.cell? ⟨g, 0, none⟩ = some (.iface T u) := (World.cell?_of_block (HBr.out.block g HGL.out)).trans g0
            have f1 : we.cell? ⟨g, 1, none⟩ = some (.iface T2 u2) := (World.cell?_of_block (HBr.out.block g HGL.out)).trans g1
            go_wp2_with fail
            refine hK.out _ _ (⟨f0, f1⟩) (fun hHeld => ?_)
            clear hK K
            try simp only [Act.put, List.setIfInBounds_toArray, List.set_cons_zero, List.set_cons_succ]
            refine wpAnyH_ready (rs := [19]) (by kernel_rfl) (by simp) ?_
            refine AllReadyH.cons rfl (fun K hK => ?_) AllReadyH.nil
            go_simp
            refine (HXB ▸ HT4.out _ HBe.out (HT.out.next (below_then HWR.out HWR.out.size HBr.out))).mono ?_
            rintro e wf ⟨rfl, hb⟩
            replace HBr : Aside0 (Below wr.heap.size wr wf) := ⟨below_then HBr.out HBr.out.size hb⟩
            clear hb
            try clear f0 f1
            have f0 : wf.cell? ⟨g, 0, none⟩ = some (.iface T u) := (World.cell?_of_block (HBr.out.block g HGL.out)).trans g0
            have f1 : wf.cell? ⟨g, 1, none⟩ = some (.iface T2 u2) := (World.cell?_of_block (HBr.out.block g HGL.out)).trans g1
            go_wp2_with fail
            refine hK.out _ _ (⟨f0, f1⟩) (fun hHeld => ?_)
            clear hK K
            try simp only [Act.put, List.setIfInBounds_toArray, List.set_cons_zero, List.set_cons_succ]
            refine H_on 20 49 ?vb20 rfl rfl (by kernel_rfl) (by kernel_rfl) (by kernel_rfl) (by rfl) ?hb20 hHeld ?rb20
            case hb20 => (intro w hSw; obtain ⟨s0, s1⟩ := hSw; go_simp <;> with_reducible rfl)
            simp only [Act.put, List.setIfInBounds_toArray, List.set_cons_zero, List.set_cons_succ]
            refine H_on 21 50 ?vb21 rfl rfl (by kernel_rfl) (by kernel_rfl) (by kernel_rfl) (by rfl) ?hb21 hHeld ?rb21
            case hb21 => (intro w hSw; obtain ⟨s0, s1⟩ := hSw; go_simp <;> with_reducible rfl)
            simp only [Act.put, List.setIfInBounds_toArray, List.set_cons_zero, List.set_cons_succ]
            refine wpAnyH_done (by kernel_rfl) ?_ _
            refine NoPanic.normal ?_
            clear hHeld
            go_wp2
            go_roundg (N' - s)
            case measure => omega
            case rel => exact ⟨s + 1, best, by omega, by omega, by omega, hb8, by go_num, rfl, ⟨by have h := HZ.out; rw [HK.out, HS2.out] at h; exact h⟩, ⟨HB.out.trans (HBr.out.mono HB.out.size)⟩⟩
        · have hpz : ¬ (pb : Int) < (ps : Int) := by omega
          have hpy : ((ps : Int) > (pb : Int)) = False := eq_false (by omega)
          have hpx : ((pb : Int) < (ps : Int)) = False := eq_false (by omega)
          clear hpz
          have HS2 : Aside0 (agStep ta tb s best = best) := ⟨by rw [HST.out, if_neg (fun h => hpc h.1)]⟩
          clear HST hpc HKA HKB
          go_upto_region 8 with fail
          have HBr : Aside0 (Below wr.heap.size wr wr.drew) := ⟨below_drew (Below.refl _ _)⟩
          refine wp_region_noPanic ?_
          refine wp_region_held_drew (S := fun w' => w'.cell? ⟨g, 0, none⟩ = some (.iface T u) ∧ w'.cell? ⟨g, 1, none⟩ = some (.iface T2 u2)) (by kernel_rfl) (⟨g0, g1⟩) (fun hHeld => ?_)
          refine H_on 0 29 ?vc0 rfl rfl (by kernel_rfl) (by kernel_rfl) (by kernel_rfl) (by rfl) ?hc0 hHeld ?rc0
          case hc0 => (intro w hSw; obtain ⟨s0, s1⟩ := hSw; go_simp <;> with_reducible rfl)
          simp only [Act.put, List.setIfInBounds_toArray, List.set_cons_zero, List.set_cons_succ]
          refine H_on 1 30 ?vc1 rfl rfl (by kernel_rfl) (by kernel_rfl) (by kernel_rfl) (by rfl) ?hc1 hHeld ?rc1
          case hc1 => (intro w hSw; obtain ⟨s0, s1⟩ := hSw; go_simp <;> with_reducible rfl)
          simp only [Act.put, List.setIfInBounds_toArray, List.set_cons_zero, List.set_cons_succ]
          refine H_on 3 32 ?vc3 rfl rfl (by kernel_rfl) (by kernel_rfl) (by kernel_rfl) (by rfl) ?hc3 hHeld ?rc3
          case hc3 => (intro w hSw; obtain ⟨s0, s1⟩ := hSw; go_simp <;> with_reducible rfl)
          simp only [Act.put, List.setIfInBounds_toArray, List.set_cons_zero, List.set_cons_succ]
          refine H_on 4 33 ?vc4 rfl rfl (by kernel_rfl) (by kernel_rfl) (by kernel_rfl) (by rfl) ?hc4 hHeld ?rc4
          case hc4 => (intro w hSw; obtain ⟨s0, s1⟩ := hSw; go_simp <;> with_reducible rfl)
          simp only [Act.put, List.setIfInBounds_toArray, List.set_cons_zero, List.set_cons_succ]
          refine wpAnyH_ready (rs := [2]) (by kernel_rfl) (by simp) ?_
          refine AllReadyH.cons rfl (fun K hK => ?_) AllReadyH.nil
          go_simp
          refine (HOS.out _).mono ?_
          rintro e wa ⟨rfl, hb⟩
          replace HBr : Aside0 (Below wr.heap.size wr wa) := ⟨below_then HBr.out HBr.out.size hb⟩
          clear hb
          try clear f0 f1
          have f0 : wa.cell? ⟨g, 0, none⟩ = some (.iface T u) := (World.cell?_of_block (HBr.out.block g HGL.out)).trans g0
          have f1 : wa.cell? ⟨g, 1, none⟩ = some (.iface T2 u2) := (World.cell?_of_block (HBr.out.block g HGL.out)).trans g1
          go_wp2_with fail
          refine hK.out _ _ (⟨f0, f1⟩) (fun hHeld => ?_)
          clear hK K
          try simp only [Act.put, List.setIfInBounds_toArray, List.set_cons_zero, List.set_cons_succ]
          refine wpAnyH_ready (rs := [5]) (by kernel_rfl) (by simp) ?_
          refine AllReadyH.cons rfl (fun K hK => ?_) AllReadyH.nil
          go_simp
          refine (HOB.out _).mono ?_
          rintro e wb ⟨rfl, hb⟩
          replace HBr : Aside0 (Below wr.heap.size wr wb) := ⟨below_then HBr.out HBr.out.size hb⟩
          clear hb
          try clear f0 f1
          have f0 : wb.cell? ⟨g, 0, none⟩ = some (.iface T u) := (World.cell?_of_block (HBr.out.block g HGL.out)).trans g0
          have f1 : wb.cell? ⟨g, 1, none⟩ = some (.iface T2 u2) := (World.cell?_of_block (HBr.out.block g HGL.out)).trans g1
          go_wp2_with fail
          refine hK.out _ _ (⟨f0, f1⟩) (fun hHeld => ?_)
          clear hK K
          try simp only [Act.put, List.setIfInBounds_toArray, List.set_cons_zero, List.set_cons_succ]
          refine H_on 6 35 ?vc6 rfl rfl (by kernel_rfl) (by kernel_rfl) (by kernel_rfl) (by rfl) ?hc6 hHeld ?rc6
          case hc6 => (intro w hSw; obtain ⟨s0, s1⟩ := hSw; go_simp <;> with_reducible rfl)
          simp only [Act.put, List.setIfInBounds_toArray, List.set_cons_zero, List.set_cons_succ]
          refine H_on 7 36 ?vc7 rfl rfl (by kernel_rfl) (by kernel_rfl) (by kernel_rfl) (by rfl) ?hc7 hHeld ?rc7
          case hc7 => (intro w hSw; obtain ⟨s0, s1⟩ := hSw; go_simp <;> with_reducible rfl)
          simp only [Act.put, List.setIfInBounds_toArray, List.set_cons_zero, List.set_cons_succ]
          refine H_off 8 37 rfl rfl (by kernel_rfl) (by kernel_rfl) (by kernel_rfl) (by rfl) hHeld ?_
          simp only [Act.put, List.setIfInBounds_toArray, List.set_cons_zero, List.set_cons_succ]
          refine H_off 9 38 rfl rfl (by kernel_rfl) (by kernel_rfl) (by kernel_rfl) (by rfl) hHeld ?_
          simp only [Act.put, List.setIfInBounds_toArray, List.set_cons_zero, List.set_cons_succ]
          refine H_off 10 39 rfl rfl (by kernel_rfl) (by kernel_rfl) (by kernel_rfl) (by rfl) hHeld ?_
          simp only [Act.put, List.setIfInBounds_toArray, List.set_cons_zero, List.set_cons_succ]
          refine H_off 11 40 rfl rfl (by kernel_rfl) (by kernel_rfl) (by kernel_rfl) (by rfl) hHeld ?_
          simp only [Act.put, List.setIfInBounds_toArray, List.set_cons_zero, List.set_cons_succ]
          refine H_off 12 41 rfl rfl (by kernel_rfl) (by kernel_rfl) (by kernel_rfl) (by rfl) hHeld ?_
          simp only [Act.put, List.setIfInBounds_toArray, List.set_cons_zero, List.set_cons_succ]
          refine H_off 13 42 rfl rfl (by kernel_rfl) (by kernel_rfl) (by kernel_rfl) (by rfl) hHeld ?_
          simp only [Act.put, List.setIfInBounds_toArray, List.set_cons_zero, List.set_cons_succ]
          refine H_off 14 43 rfl rfl (by kernel_rfl) (by kernel_rfl) (by kernel_rfl) (by rfl) hHeld ?_
          simp only [Act.put, List.setIfInBounds_toArray, List.set_cons_zero, List.set_cons_succ]
          refine H_off 15 44 rfl rfl (by kernel_rfl) (by kernel_rfl) (by kernel_rfl) (by rfl) hHeld ?_
          simp only [Act.put, List.setIfInBounds_toArray, List.set_cons_zero, List.set_cons_succ]
          refine H_off 16 45 rfl rfl (by kernel_rfl) (by kernel_rfl) (by kernel_rfl) (by rfl) hHeld ?_
          simp only [Act.put, List.setIfInBounds_toArray, List.set_cons_zero, List.set_cons_succ]
          refine H_off 17 46 rfl rfl (by kernel_rfl) (by kernel_rfl) (by kernel_rfl) (by rfl) hHeld ?_
          simp only [Act.put, List.setIfInBounds_toArray, List.set_cons_zero, List.set_cons_succ]
          refine H_off 18 47 rfl rfl (by kernel_rfl) (by kernel_rfl) (by kernel_rfl) (by rfl) hHeld ?_
          simp only [Act.put, List.setIfInBounds_toArray, List.set_cons_zero, List.set_cons_succ]
          refine H_off 19 48 rfl rfl (by kernel_rfl) (by kernel_rfl) (by kernel_rfl) (by rfl) hHeld ?_
          simp only [Act.put, List.setIfInBounds_toArray, List.set_cons_zero, List.set_cons_succ]
          refine H_off 20 49 rfl rfl (by kernel_rfl) (by kernel_rfl) (by kernel_rfl) (by rfl) hHeld ?_
          simp only [Act.put, List.setIfInBounds_toArray, List.set_cons_zero, List.set_cons_succ]
          refine H_on 21 50 ?vc21 rfl rfl (by kernel_rfl) (by kernel_rfl) (by kernel_rfl) (by rfl) ?hc21 hHeld ?rc21
          case hc21 => (intro w hSw; obtain ⟨s0, s1⟩ := hSw; go_simp <;> with_reducible rfl)
          simp only [Act.put, List.setIfInBounds_toArray, List.set_cons_zero, List.set_cons_succ]
          refine wpAnyH_done (by kernel_rfl) ?_ _
          refine NoPanic.normal ?_
          clear hHeld
          go_wp2
          go_roundg (N' - s)
          case measure => omega
          case rel => exact ⟨s + 1, best, by omega, by omega, by omega, hb8, by go_num, rfl, ⟨by have h := HZ.out; rw [HK.out, HS2.out] at h; exact h⟩, ⟨HB.out.trans (HBr.out.mono HB.out.size)⟩⟩
      · have hkz : ¬ (s : Int) < ((N' + 1 : Nat) : Int) := by omega
        have HZ2 : Aside0 ((best : Int) = Z.1 ∧ Z.2 = 0) := ⟨by have h := HZ.out; rwa [show N' + 1 - s = 0 by omega, agF] at h⟩
        go_wp2
        go_ret2
        exact ⟨by rw [← HZ2.out.1, HZ2.out.2]; rfl, below_then HB1.out HB1.out.size HB.out⟩
end Go.Proofs.YtdbbcngmnpejnaaDoor.B

/- The reference's Kept and Agree, as printed: what the program's answer. -/
namespace Go.Proofs.YtdbbcngmnpejnaaDoor.B
open Go.Proofs.YtdbbcngmnpejnaaDoor.A
open Go.RowKit Go.Proofs.YtdbbcngmnpejnaaDoorW.PrintWords Go.Proofs.YtdbbcngmnpejnaaDoorW.PrintMore
theorem shl_pow : ∀ m : Nat, m ≤ 8 → shl .i64 1 (m : Int) = ((2 ^ m : Nat) : Int) := by decide +kernel
theorem RKept_ev (n : Int) (S : List UInt8) (hS : S.length ≤ 1000000000) (s : Int) : Ev (fun k => drovewayref05_Kept.f k n (strB S) s) (keptE n S s) := by
  have ha := asked_ev n S hS
  unfold askedR at ha
  unfold keptE
  cases hp : parseE n S with
  | none =>
    rw [hp] at ha
    have h0 := errT_ne n
    refine Ev.congr (fun k => by unfold drovewayref05_Kept.f; rfl) (Ev.bind ha ?_)
    refine Ev.congr (fun k => by rw [if_neg h0]) (Ev.step (f := fun _ => some (⟨#[]⟩, errT n)) (fun k => by rw [drovewayref05_Kept.j0, if_neg Bool.false_ne_true, if_neg h0]) (Ev.now _))
  | some t =>
    rw [hp] at ha
    obtain ⟨hn1, hn8, hg, hst⟩ := parseE_good hp
    obtain ⟨m, rfl⟩ : ∃ m : Nat, n = m := ⟨n.toNat, by omega⟩
    rw [Int.toNat_natCast] at hst ⊢
    have hm8 : m ≤ 8 := by omega
    have hP := pow_256 hm8
    have HS := Aside0.mk (shl_pow m hm8)
    refine Ev.congr (fun k => by unfold drovewayref05_Kept.f; rfl) (Ev.bind ha ?_)
    dsimp only
    by_cases h1 : s < 1
    · rw [if_neg (by omega)]
      refine Ev.congr (fun k => by rw [if_pos rfl, if_pos h1]) (Ev.step (f := fun _ => some (⟨#[]⟩, 2)) (fun k => by rw [drovewayref05_Kept.j0, if_pos rfl, if_neg (by decide)]) (Ev.now _))
    · by_cases h2 : s < ((2 ^ m : Nat) : Int)
      · rw [if_pos (by omega)]
        obtain ⟨q, rfl⟩ : ∃ q : Nat, s = q := ⟨s.toNat, by omega⟩
        rw [Int.toNat_natCast]
        obtain ⟨u, hku, _, _⟩ := kept_some (s := q) hg hst (by omega) (by omega)
        rw [hku]
        have hk := kept_ev (s := q) (by omega) t hg u hku
        refine Ev.congr (fun k => by rw [if_pos rfl, if_neg h1, if_pos (by omega), HS.out, decide_eq_false (by omega)]) (Ev.step (fun k => ?_) (Ev.bind (f := fun _ z => some (z, 0)) hk (Ev.now _)))
        rw [drovewayref05_Kept.j0, if_neg Bool.false_ne_true, if_pos rfl]
      · rw [if_neg (by omega)]
        refine Ev.congr (fun k => by rw [if_pos rfl, if_neg h1, if_pos (by omega), HS.out, decide_eq_true (by omega)]) (Ev.step (f := fun _ => some (⟨#[]⟩, 2)) (fun k => by rw [drovewayref05_Kept.j0, if_pos rfl, if_neg (by decide)]) (Ev.now _))
theorem RKept_calls (n : Int) (S : List UInt8) (hS : S.length ≤ 1000000000) (s : Int) (w : World) : Calls Tryd.prog 25 #[.int .i64 n, .string (strB S), .int .i64 s] w fun e w' => e = .returned (.tuple #[.string (keptE n S s).1, .int .i64 (keptE n S s).2]) ∧ Below w.heap.size w w' := by
  obtain ⟨k, hk⟩ := RKept_ev n S hS s
  exact drovewayref05_Kept.calls k n _ s _ _ w (hk k (Nat.le_refl _))

/-! ### Agree -/
theorem size_ev {s : Nat} (h8 : s < 256) : Ev (fun k => drovewayref05_size.f k (s : Int)) ((pcN s 8 : Nat) : Int) := by
  have h : (List.range 256).all (fun s => decide (drovewayref05_size.f 20 (s : Int) = some (pcN s 8 : Int))) = true := by decide +kernel
  have h := List.all_eq_true.1 h s (List.mem_range.2 h8)
  rw [decide_eq_true_iff] at h
  exact Ev.of (fun k => drovewayref05_size.mono _ k) h
theorem RAgree_ev (n : Int) (Sa Sb : List UInt8) (ha : Sa.length ≤ 1000000000) (hb : Sb.length ≤ 1000000000) : Ev (fun k => drovewayref05_Agree.f k n (strB Sa) (strB Sb)) (agreeE n Sa Sb) := by
  have hea := asked_ev n Sa ha
  have heb := asked_ev n Sb hb
  unfold askedR at hea heb
  unfold agreeE
  have h0 := errT_ne n
  cases hpa : parseE n Sa with
  | none =>
    rw [hpa] at hea
    refine Ev.congr (fun k => by unfold drovewayref05_Agree.f; rfl) (Ev.bind hea ?_)
    exact Ev.congr (f := fun _ => some (0, errT n)) (fun k => by rw [if_neg h0]) (Ev.now _)
  | some ta =>
    rw [hpa] at hea
    refine Ev.congr (fun k => by unfold drovewayref05_Agree.f; rfl) (Ev.bind hea ?_)
    refine Ev.congr (fun k => by rw [if_pos rfl]) (Ev.bind (f := fun k bt => if bt.2.2 = 0 then (drovewayref05_Agree.l0 k n 0 1 ((ta.set : Nat) : Int) (ndS ta).f1 bt.1 bt.2.1) else (some (0, bt.2.2))) heb ?_)
    cases hpb : parseE n Sb with
    | none => exact Ev.congr (f := fun _ => some (0, errT n)) (fun k => by dsimp only; rw [if_neg h0]) (Ev.now _)
    | some tb =>
      dsimp only
      obtain ⟨hn1, hn8, hga, hsa⟩ := parseE_good hpa
      obtain ⟨_, _, hgb, hsb⟩ := parseE_good hpb
      obtain ⟨m, rfl⟩ : ∃ m : Nat, n = m := ⟨n.toNat, by omega⟩
      rw [Int.toNat_natCast] at hsa hsb ⊢
      have hm8 : m ≤ 8 := by omega
      have hP := pow_256 hm8
      have hP1 := Nat.two_pow_pos m
      have HS := Aside0.mk (shl_pow m hm8)
      have hloop : ∀ d s best : Nat, s + d = 2 ^ m → 1 ≤ s → best < 256 → Ev (fun k => drovewayref05_Agree.l0 k (m : Int) (best : Int) (s : Int) ((ta.set : Nat) : Int) (ndS ta).f1 ((tb.set : Nat) : Int) (ndS tb).f1) (((agF ta tb d s best : Nat) : Int), 0) := by
        intro d
        induction d with
        | zero =>
          intro s best h _ _
          rw [agF]
          refine Ev.step (f := fun _ => some ((best : Int), 0)) (fun k => ?_) (Ev.now _)
          rw [drovewayref05_Agree.l0, if_pos (by omega), HS.out, if_neg (by omega)]
        | succ d ih =>
          intro s best h hs1 hb8
          have hs8 : s < 256 := by omega
          have hsP : s < 2 ^ m := by omega
          have HW := Aside0.mk (show wrap64 ((s : Int) + 1) = ((s + 1 : Nat) : Int) by unfold wrap64; omega)
          rw [agF]
          refine Ev.step (fun k => ?_) (Ev.bind (size_ev hs8) (Ev.bind (f := fun k y => if ((pcN s 8 : Nat) : Int) > y then ((drovewayref05_kept.f k ((ta.set : Nat) : Int) (ndS ta).f1 (s : Int)).bind fun t336 => ((drovewayref05_kept.f k ((tb.set : Nat) : Int) (ndS tb).f1 (s : Int)).bind fun t337 => (if t336.toList = t337.toList then (drovewayref05_Agree.l0 k (m : Int) (s : Int) ((s + 1 : Nat) : Int) ((ta.set : Nat) : Int) (ndS ta).f1 ((tb.set : Nat) : Int) (ndS tb).f1) else (drovewayref05_Agree.l0 k (m : Int) (best : Int) ((s + 1 : Nat) : Int) ((ta.set : Nat) : Int) (ndS ta).f1 ((tb.set : Nat) : Int) (ndS tb).f1)))) else (drovewayref05_Agree.l0 k (m : Int) (best : Int) ((s + 1 : Nat) : Int) ((ta.set : Nat) : Int) (ndS ta).f1 ((tb.set : Nat) : Int) (ndS tb).f1)) (size_ev hb8) ?_) (f := fun k x => (drovewayref05_size.f k (best : Int)).bind fun y => if x > y then ((drovewayref05_kept.f k ((ta.set : Nat) : Int) (ndS ta).f1 (s : Int)).bind fun t336 => ((drovewayref05_kept.f k ((tb.set : Nat) : Int) (ndS tb).f1 (s : Int)).bind fun t337 => (if t336.toList = t337.toList then (drovewayref05_Agree.l0 k (m : Int) (s : Int) ((s + 1 : Nat) : Int) ((ta.set : Nat) : Int) (ndS ta).f1 ((tb.set : Nat) : Int) (ndS tb).f1) else (drovewayref05_Agree.l0 k (m : Int) (best : Int) ((s + 1 : Nat) : Int) ((ta.set : Nat) : Int) (ndS ta).f1 ((tb.set : Nat) : Int) (ndS tb).f1)))) else (drovewayref05_Agree.l0 k (m : Int) (best : Int) ((s + 1 : Nat) : Int) ((ta.set : Nat) : Int) (ndS ta).f1 ((tb.set : Nat) : Int) (ndS tb).f1)))
          · rw [drovewayref05_Agree.l0, if_pos (by omega), HS.out, if_pos (by omega), HW.out]
          · obtain ⟨ua, hka, hgua, _⟩ := kept_some (s := s) hga hsa (by omega) hsP
            obtain ⟨ub, hkb, hgub, _⟩ := kept_some (s := s) hgb hsb (by omega) hsP
            have hea := kept_ev (s := s) hs8 ta hga ua hka
            have heb := kept_ev (s := s) hs8 tb hgb ub hkb
            have hst : agStep ta tb s best = if pcN best 8 < pcN s 8 ∧ strB ua.text = strB ub.text then s else best := by unfold agStep ktext; rw [hka, hkb]
            rw [hst]
            generalize strB ua.text = xa at hea ⊢
            generalize strB ub.text = xb at heb ⊢
            by_cases hpc : pcN best 8 < pcN s 8
            · refine Ev.congr (fun k => by rw [if_pos (by omega)]) (Ev.bind hea (Ev.bind (f := fun k z => if xa.toList = z.toList then _ else _) heb ?_))
              by_cases hx : xa = xb
              · rw [if_pos ⟨hpc, hx⟩]
                exact Ev.congr (fun k => by rw [if_pos (by rw [hx])]) (ih (s + 1) s (by omega) (by omega) hs8)
              · rw [if_neg (fun h => hx h.2)]
                exact Ev.congr (fun k => by rw [if_neg (fun h => hx (byte_inj h))]) (ih (s + 1) best (by omega) (by omega) hb8)
            · rw [if_neg (fun h => hpc h.1)]
              exact Ev.congr (fun k => by rw [if_neg (by omega)]) (ih (s + 1) best (by omega) (by omega) hb8)
      exact Ev.congr (fun k => by rw [if_pos rfl]; rfl) (hloop (2 ^ m - 1) 1 0 (by omega) (Nat.le_refl _) (by decide))
theorem RAgree_calls (n : Int) (Sa Sb : List UInt8) (ha : Sa.length ≤ 1000000000) (hb : Sb.length ≤ 1000000000) (w : World) : Calls Tryd.prog 27 #[.int .i64 n, .string (strB Sa), .string (strB Sb)] w fun e w' => e = .returned (.tuple #[.int .i64 (agreeE n Sa Sb).1, .int .i64 (agreeE n Sa Sb).2]) ∧ Below w.heap.size w w' := by
  obtain ⟨k, hk⟩ := RAgree_ev n Sa Sb ha hb
  exact drovewayref05_Agree.calls k n _ _ _ _ w (hk k (Nat.le_refl _))
end Go.Proofs.YtdbbcngmnpejnaaDoor.B

/- The reference's Count, as the kit's print writes it; its drawn region by hand. -/
namespace Go.Proofs.YtdbbcngmnpejnaaDoor.B
open Go.Proofs.YtdbbcngmnpejnaaDoor.A
open Go.RowKit Go.Proofs.YtdbbcngmnpejnaaDoorW.PrintWords Go.Proofs.YtdbbcngmnpejnaaDoorW.PrintLast Go.Proofs.YtdbbcngmnpejnaaDoorW.PrintMore
section
attribute [local go_sem] max2_int min2_int max_two min_two max_three min_three max_four min_four   -- for this text's walks alone
set_option linter.unusedVariables false
set_option linter.unusedSimpArgs false
/-! ### drovewayref05_Count: function 14 -/
mutual
def drovewayref05_Count.j0 : Nat → Int → Bool → Option (Int × Int)
  | 0, _, _ => none
  | k + 1, x0, x14 => if x14 = true then (some (0, 2)) else (drovewayref05_Count.l0 k x0 (([0, 1] : List Int)) (([1, 1] : List Int)) 2)
def drovewayref05_Count.l0 : Nat → Int → List Int → List Int → Int → Option (Int × Int)
  | 0, _, _, _, _ => none
  | k + 1, x0, x4, x5, x6 => if x6 ≤ x0 then (drovewayref05_Count.l1 k x0 x4 x5 x6 0 1) else (if 0 ≤ x0 then (if x0 < (x4.length : Int) then (some (rd x4 x0, 0)) else (none)) else (none))
def drovewayref05_Count.l1 : Nat → Int → List Int → List Int → Int → Int → Int → Option (Int × Int)
  | 0, _, _, _, _, _, _ => none
  | k + 1, x0, x4, x5, x6, x7, x8 => if x8 < x6 then ((drovewayref05_choose.f k (wrap64 (x6 - 1)) (wrap64 (x8 - 1))).bind fun t123 => (if 0 ≤ x8 then (if x8 < (x4.length : Int) then (if 0 ≤ (wrap64 (x6 - x8)) then (if (wrap64 (x6 - x8)) < (x5.length : Int) then (drovewayref05_Count.l1 k x0 x4 x5 x6 (wrap64 (x7 + (wrap64 ((wrap64 (t123 * (rd x4 x8))) * (rd x5 (wrap64 (x6 - x8))))))) (wrap64 (x8 + 1))) else (none)) else (none)) else (none)) else (none))) else (if x4.length < 17592186044416 then (if x5.length < 17592186044416 then (drovewayref05_Count.l0 k x0 (x4 ++ [x7]) (x5 ++ [wrap64 (2 * x7)]) (wrap64 (x6 + 1))) else (none)) else (none))
end
def drovewayref05_Count.f (k : Nat) (a0 : Int) : Option (Int × Int) := if a0 < 1 then (drovewayref05_Count.j0 k a0 true) else (drovewayref05_Count.j0 k a0 (decide (a0 > 8)))
end
end Go.Proofs.YtdbbcngmnpejnaaDoor.B

/- Count and the reference's Count give the same. -/
namespace Go.Proofs.YtdbbcngmnpejnaaDoor.B
open Go.Proofs.YtdbbcngmnpejnaaDoor.A
open Go.RowKit Go.Proofs.YtdbbcngmnpejnaaDoorW.PrintWords Go.Proofs.YtdbbcngmnpejnaaDoorW.PrintMore
def countE (n : Int) : Int × Int := if 1 ≤ n ∧ n ≤ 8 then (([0, 1, 1, 4, 26, 236, 2752, 39208, 660032] : List Int).getD n.toNat 0, 0) else (0, 2)
theorem count_in : (List.range 9).all (fun n => n == 0 || (decide (breed_Count.f 80 (n : Int) = some (countE n)) && decide (drovewayref05_Count.f 160 (n : Int) = some (countE n)))) = true := by decide +kernel
theorem count_some (n : Int) : ∃ k, breed_Count.f k n = some (countE n) := by
  by_cases h : 1 ≤ n ∧ n ≤ 8
  · have h1 := List.all_eq_true.1 count_in n.toNat (List.mem_range.2 (by omega))
    have h2 : ((n.toNat : Nat) : Int) = n := by omega
    have h3 : (n.toNat == 0) = false := by rw [beq_eq_false_iff_ne]; omega
    rw [h2, h3, Bool.false_or, Bool.and_eq_true, decide_eq_true_iff, decide_eq_true_iff] at h1
    exact ⟨80, h1.1⟩
  · refine ⟨1, ?_⟩
    unfold breed_Count.f breed_herd.f countE
    rw [if_neg h]
    by_cases h1 : n ≥ 1
    · rw [if_pos h1, Option.bind_some, if_neg (by rw [decide_eq_true_iff]; omega)]
    · rw [if_neg h1, Option.bind_some, if_neg Bool.false_ne_true]
theorem Count_calls (n : Int) (W : World) : Calls Tryd.prog 13 #[.int .i64 n] W fun e w' => e = .returned (.tuple #[.int .i64 (countE n).1, .int .i64 (countE n).2]) ∧ Below W.heap.size W w' := by
  obtain ⟨k, hk⟩ := count_some n
  exact (breed_Count.calls k n _ _ W hk).mono fun _ _ h => h
end Go.Proofs.YtdbbcngmnpejnaaDoor.B

/- alive: what every right program knows of a few beasts. -/
namespace Go.Proofs.YtdbbcngmnpejnaaDoor.B
open Go.Proofs.YtdbbcngmnpejnaaDoor.A
open Go.RowKit Go.Proofs.YtdbbcngmnpejnaaDoorW.PrintWords Go.Proofs.YtdbbcngmnpejnaaDoorW.PrintMore
/-- Two triples in a row that has just been made. -/
theorem two_reads (W : World) (a b : S44) : Kd.C k44 (W.alloc (.cells #[.int .i64 a.f0, .int .i64 a.f1, .int .i64 a.f2, .int .i64 b.f0, .int .i64 b.f1, .int .i64 b.f2] 44)) (some ⟨W.heap.size, 0, none⟩) 2 [a, b] := by
  refine ⟨rfl, by decide, fun _ => ⟨_, rfl, fun j p hj => ?_⟩⟩
  have hb := heap_alloc_new W (.cells #[.int .i64 a.f0, .int .i64 a.f1, .int .i64 a.f2, .int .i64 b.f0, .int .i64 b.f1, .int .i64 b.f2] 44)
  refine ⟨_, rfl, k44_mk _ p, fun i u hu => ?_⟩
  rw [add_plain, blk_cell hb]
  match j, hj, i, hu with
  | 0, hj, 0, hu => cases hj; exact hu
  | 0, hj, 1, hu => cases hj; exact hu
  | 0, hj, 2, hu => cases hj; exact hu
  | 1, hj, 0, hu => cases hj; exact hu
  | 1, hj, 1, hu => cases hj; exact hu
  | 1, hj, 2, hu => cases hj; exact hu
theorem alive_Build : buildE 4 [⟨0, 1, 2⟩, ⟨1, 2, 3⟩] = (⟨#[40, 40, 40, 48, 44, 49, 41, 44, 50, 41, 44, 51, 41]⟩, 0) := by kernel_rfl
theorem alive_Knot : knotE 3 [⟨0, 1, 2⟩, ⟨1, 2, 0⟩] = (7, 0) := by kernel_rfl
theorem sort_two {a b : BT} (h : low a.set ≤ low b.set) : sortB [a, b] = [a, b] := by
  unfold sortB
  refine List.mergeSort_of_pairwise ?_
  simp [h]
theorem alive_parse : parseE 4 [40, 40, 40, 48, 44, 49, 41, 44, 50, 41, 44, 51, 41] = some (.node [.node [.node [.leaf 0, .leaf 1], .leaf 2], .leaf 3]) := by kernel_rfl
theorem alive_text : (strB (BT.node [.node [.leaf 0, .leaf 2], .leaf 3]).text, (0 : Int)) = (⟨#[40, 40, 48, 44, 50, 41, 44, 51, 41]⟩, 0) := by kernel_rfl
theorem alive_Kept : keptE 4 [40, 40, 40, 48, 44, 49, 41, 44, 50, 41, 44, 51, 41] 13 = (⟨#[40, 40, 48, 44, 50, 41, 44, 51, 41]⟩, 0) := by
  unfold keptE
  rw [alive_parse]
  have h : BT.kept 13 (.node [.node [.node [.leaf 0, .leaf 1], .leaf 2], .leaf 3]) = some (.node [.node [.leaf 0, .leaf 2], .leaf 3]) := by
    have h0 : BT.kept 13 (.leaf 0) = some (.leaf 0) := by kernel_rfl
    have h1 : BT.kept 13 (.leaf 1) = none := by kernel_rfl
    have h2 : BT.kept 13 (.leaf 2) = some (.leaf 2) := by kernel_rfl
    have h3 : BT.kept 13 (.leaf 3) = some (.leaf 3) := by kernel_rfl
    have ha : BT.kept 13 (.node [.leaf 0, .leaf 1]) = some (.leaf 0) := by
      rw [BT.kept, BT.keptL, h0, BT.keptL, h1, BT.keptL]; rfl
    have hb : BT.kept 13 (.node [.node [.leaf 0, .leaf 1], .leaf 2]) = some (.node [.leaf 0, .leaf 2]) := by
      rw [BT.kept, BT.keptL, ha, BT.keptL, h2, BT.keptL]
      show some (BT.node (sortB _)) = _
      rw [sort_two (by decide +kernel)]
    rw [BT.kept, BT.keptL, hb, BT.keptL, h3, BT.keptL]
    show some (BT.node (sortB _)) = _
    rw [sort_two (by decide +kernel)]
  simp only []
  rw [if_pos (by decide), show (13 : Int).toNat = 13 from rfl, h]
  exact alive_text
theorem alive_Family : familyE 3 [40, 40, 48, 44, 49, 41, 44, 50, 41] 0 1 = (3, 0) := by kernel_rfl

set_option maxRecDepth 100000 in
set_option maxHeartbeats 3200000 in
theorem alive_calls (w : World) (hT : TabAt w) : Calls Tryd.prog 15 #[] w fun e w' => e = .returned (.bool true) ∧ Below w.heap.size w w' := by
  have HT := Aside0.mk hT
  have HB := Aside0.mk (Below.refl w.heap.size w)
  have H1 : Aside0 (∀ W, TabAt W → Calls Tryd.prog 17 #[.int .i64 4, .slice (some ⟨W.heap.size, 0, none⟩) 2 2] (W.alloc (.cells #[.int .i64 0, .int .i64 1, .int .i64 2, .int .i64 1, .int .i64 2, .int .i64 3] 44)) fun e w' => e = .returned (.tuple #[.string ⟨#[40, 40, 40, 48, 44, 49, 41, 44, 50, 41, 44, 51, 41]⟩, .int .i64 0]) ∧ Below W.heap.size W w') := ⟨fun W hT => by
    have := Build_calls 4 (some ⟨W.heap.size, 0, none⟩) 2 [⟨0, 1, 2⟩, ⟨1, 2, 3⟩] _ (two_reads W ⟨0, 1, 2⟩ ⟨1, 2, 3⟩) (by decide) (hT.next ((Below.refl _ _).alloc (Nat.le_refl _) _))
    rw [alive_Build] at this
    exact this.mono fun e w' ⟨h1, h2⟩ => ⟨h1, below_then ((Below.refl _ W).alloc (Nat.le_refl _) _) ((Below.refl _ W).alloc (Nat.le_refl _) _).size h2⟩⟩
  have H2 : Aside0 (∀ W, Calls Tryd.prog 19 #[.int .i64 3, .slice (some ⟨W.heap.size, 0, none⟩) 2 2] (W.alloc (.cells #[.int .i64 0, .int .i64 1, .int .i64 2, .int .i64 1, .int .i64 2, .int .i64 0] 44)) fun e w' => e = .returned (.tuple #[.int .i64 7, .int .i64 0]) ∧ Below W.heap.size W w') := ⟨fun W => by
    have := Knot_calls 3 (some ⟨W.heap.size, 0, none⟩) 2 [⟨0, 1, 2⟩, ⟨1, 2, 0⟩] _ (two_reads W ⟨0, 1, 2⟩ ⟨1, 2, 0⟩) (by decide)
    rw [alive_Knot] at this
    exact this.mono fun e w' ⟨h1, h2⟩ => ⟨h1, below_then ((Below.refl _ W).alloc (Nat.le_refl _) _) ((Below.refl _ W).alloc (Nat.le_refl _) _).size h2⟩⟩
  have H3 : Aside0 (∀ W, Calls Tryd.prog 13 #[.int .i64 5] W fun e w' => e = .returned (.tuple #[.int .i64 236, .int .i64 0]) ∧ Below W.heap.size W w') := ⟨fun W => Count_calls 5 W⟩
  have H4 : Aside0 (∀ W, TabAt W → Calls Tryd.prog 24 #[.int .i64 4, .string ⟨#[40, 40, 40, 48, 44, 49, 41, 44, 50, 41, 44, 51, 41]⟩, .int .i64 13] W fun e w' => e = .returned (.tuple #[.string ⟨#[40, 40, 48, 44, 50, 41, 44, 51, 41]⟩, .int .i64 0]) ∧ Below W.heap.size W w') := ⟨fun W hT => by
    have := Kept_calls 4 [40, 40, 40, 48, 44, 49, 41, 44, 50, 41, 44, 51, 41] 13 W hT
    rw [alive_Kept] at this
    exact this⟩
  have H5 : Aside0 (∀ W, TabAt W → Calls Tryd.prog 42 #[.int .i64 3, .string ⟨#[40, 40, 48, 44, 49, 41, 44, 50, 41]⟩, .int .i64 0, .int .i64 1] W fun e w' => e = .returned (.tuple #[.int .i64 3, .int .i64 0]) ∧ Below W.heap.size W w') := ⟨fun W hT => by
    have := Family_calls 3 [40, 40, 48, 44, 49, 41, 44, 50, 41] 0 1 W hT
    rw [alive_Family] at this
    exact this⟩
  clear hT
  go_enter Tryd.func15, Tryd.ntmps15
  go_wp2_with (first
    | (go_at_call 17; go_must (refine (H1.out _ HT.out).mono ?_; rintro e w1 ⟨rfl, hb⟩; have HB1 := Aside0.mk hb; clear hb))
    | (go_at_call 19; go_must (refine (H2.out _).mono ?_; rintro e w2 ⟨rfl, hb⟩; have HB2 := Aside0.mk (below_then HB1.out HB1.out.size hb); clear hb))
    | (go_at_call 13; go_must (refine (H3.out _).mono ?_; rintro e w3 ⟨rfl, hb⟩; have HB3 := Aside0.mk (below_then HB2.out HB2.out.size hb); clear hb))
    | (go_at_call 24; go_must (refine (H4.out _ (HT.out.next HB3.out)).mono ?_; rintro e w4 ⟨rfl, hb⟩; have HB4 := Aside0.mk (below_then HB3.out HB3.out.size hb); clear hb))
    | (go_at_call 42; go_must (refine (H5.out _ (HT.out.next HB4.out)).mono ?_; rintro e w5 ⟨rfl, hb⟩; have HB5 := Aside0.mk (below_then HB4.out HB4.out.size hb); clear hb)))
  go_ret
  exact ⟨rfl, HB5.out⟩
end Go.Proofs.YtdbbcngmnpejnaaDoor.B

/- BreedAho, walked: it returns true. -/
namespace Go.Proofs.YtdbbcngmnpejnaaDoor.B
open Go.Proofs.YtdbbcngmnpejnaaDoor.A
open Go.RowKit Go.Proofs.YtdbbcngmnpejnaaDoorW.PrintWords Go.Proofs.YtdbbcngmnpejnaaDoorW.PrintMore
theorem strB_of (s : ByteArray) : ∃ L, strB L = s ∧ L.length = s.size := ⟨s.data.toList, by
  obtain ⟨⟨d⟩⟩ := s
  rfl, Array.length_toList⟩
end Go.Proofs.YtdbbcngmnpejnaaDoor.B

/- BreedKeeps, walked: it returns true. -/
namespace Go.Proofs.YtdbbcngmnpejnaaDoor.B
open Go.Proofs.YtdbbcngmnpejnaaDoor.A
open Go.RowKit Go.Proofs.YtdbbcngmnpejnaaDoorW.PrintWords Go.Proofs.YtdbbcngmnpejnaaDoorW.PrintMore
set_option maxRecDepth 100000 in
set_option maxHeartbeats 6400000 in
theorem keeps_any (n : Int) (sa sb : ByteArray) (q : Int) (W : World) (hT : TabAt W) :
    Calls Tryd.prog 5 #[.int .i64 n, .string sa, .string sb, .int .i64 q] W fun e w' => e = .returned (.bool true) ∧ Below W.heap.size W w' := by
  obtain ⟨La, hLa, hlA⟩ := strB_of sa
  obtain ⟨Lb, hLb, hlB⟩ := strB_of sb
  have HT := Aside0.mk hT
  have HFW : Aside0 (∀ (s : ByteArray) w, Calls Tryd.prog 16 #[.slice none 0 0, .string s] w fun e w' => e = .returned (.bool (decide (s.size ≤ 100))) ∧ Below w.heap.size w w') := ⟨fun s w => by
    have h := few_calls none 0 [] s w (Kd.C_nil k44 w) (Nat.le_refl _)
    rw [show decide (([] : List S44).length ≤ 100 ∧ s.size ≤ 100) = decide (s.size ≤ 100) by rw [decide_eq_decide]; simp] at h
    exact h⟩
  have HFA := Aside0.mk (HFW.out sa)
  have HFB := Aside0.mk (HFW.out sb)
  have HAL : Aside0 (∀ w, Below W.heap.size W w → Calls Tryd.prog 15 #[] w fun e w' => e = .returned (.bool true) ∧ Below w.heap.size w w') := ⟨fun w hb => alive_calls w (HT.out.next hb)⟩
  have HB : Aside0 (Below W.heap.size W W) := ⟨Below.refl _ _⟩
  clear HFW
  by_cases a1 : sa.size ≤ 100
  · rw [decide_eq_true a1] at HFA
    by_cases a2 : sb.size ≤ 100
    · rw [decide_eq_true a2] at HFB
      have HP1 : Aside0 (∀ w, Below W.heap.size W w → Calls Tryd.prog 24 #[.int .i64 n, .string sa, .int .i64 q] w fun e w' => e = .returned (.tuple #[.string (keptE n La q).1, .int .i64 (keptE n La q).2]) ∧ Below w.heap.size w w') := ⟨fun w hb => by have := Kept_calls n La q w (HT.out.next hb); rwa [hLa] at this⟩
      have HQ1 : Aside0 (∀ w, Calls Tryd.prog 25 #[.int .i64 n, .string sa, .int .i64 q] w fun e w' => e = .returned (.tuple #[.string (keptE n La q).1, .int .i64 (keptE n La q).2]) ∧ Below w.heap.size w w') := ⟨fun w => by have := RKept_calls n La (by omega) q w; rwa [hLa] at this⟩
      have HP2 : Aside0 (∀ w, Below W.heap.size W w → Calls Tryd.prog 26 #[.int .i64 n, .string sa, .string sb] w fun e w' => e = .returned (.tuple #[.int .i64 (agreeE n La Lb).1, .int .i64 (agreeE n La Lb).2]) ∧ Below w.heap.size w w') := ⟨fun w hb => by have := Agree_calls n La Lb w (HT.out.next hb); rwa [hLa, hLb] at this⟩
      have HQ2 : Aside0 (∀ w, Calls Tryd.prog 27 #[.int .i64 n, .string sa, .string sb] w fun e w' => e = .returned (.tuple #[.int .i64 (agreeE n La Lb).1, .int .i64 (agreeE n La Lb).2]) ∧ Below w.heap.size w w') := ⟨fun w => by have := RAgree_calls n La Lb (by omega) (by omega) w; rwa [hLa, hLb] at this⟩
      generalize (keptE n La q).1 = k1 at HP1 HQ1
      generalize (keptE n La q).2 = k2 at HP1 HQ1
      generalize (agreeE n La Lb).1 = g1 at HP2 HQ2
      generalize (agreeE n La Lb).2 = g2 at HP2 HQ2
      clear hT hLa hLb a1 a2
      go_enter Tryd.func5, Tryd.ntmps5
      go_wp2_with (first
        | (go_at_call 16; first | ((with_reducible refine (HFA.out _).mono ?_); rintro e w1 ⟨rfl, hb⟩; replace HB := Aside0.mk (below_then HB.out HB.out.size hb); clear hb) | ((with_reducible refine (HFB.out _).mono ?_); rintro e w1 ⟨rfl, hb⟩; replace HB := Aside0.mk (below_then HB.out HB.out.size hb); clear hb))
        | (go_at_call 24; go_must (refine (HP1.out _ HB.out).mono ?_; rintro e w1 ⟨rfl, hb⟩; replace HB := Aside0.mk (below_then HB.out HB.out.size hb); clear hb))
        | (go_at_call 25; go_must (refine (HQ1.out _).mono ?_; rintro e w1 ⟨rfl, hb⟩; replace HB := Aside0.mk (below_then HB.out HB.out.size hb); clear hb))
        | (go_at_call 26; go_must (refine (HP2.out _ HB.out).mono ?_; rintro e w1 ⟨rfl, hb⟩; replace HB := Aside0.mk (below_then HB.out HB.out.size hb); clear hb))
        | (go_at_call 27; go_must (refine (HQ2.out _).mono ?_; rintro e w1 ⟨rfl, hb⟩; replace HB := Aside0.mk (below_then HB.out HB.out.size hb); clear hb))
        | (go_at_call 15; go_must (refine (HAL.out _ HB.out).mono ?_; rintro e w1 ⟨rfl, hb⟩; replace HB := Aside0.mk (below_then HB.out HB.out.size hb); clear hb)))
      go_ret
      exact ⟨rfl, HB.out⟩
    · rw [decide_eq_false a2] at HFB
      clear hT hLa hLb a1 a2
      go_enter Tryd.func5, Tryd.ntmps5
      go_wp2_with (first
        | (go_at_call 16; first | ((with_reducible refine (HFA.out _).mono ?_); rintro e w1 ⟨rfl, hb⟩; replace HB := Aside0.mk (below_then HB.out HB.out.size hb); clear hb) | ((with_reducible refine (HFB.out _).mono ?_); rintro e w1 ⟨rfl, hb⟩; replace HB := Aside0.mk (below_then HB.out HB.out.size hb); clear hb))
        | (go_at_call 15; go_must (refine (HAL.out _ HB.out).mono ?_; rintro e w1 ⟨rfl, hb⟩; replace HB := Aside0.mk (below_then HB.out HB.out.size hb); clear hb)))
      go_ret
      exact ⟨rfl, HB.out⟩
  · rw [decide_eq_false a1] at HFA
    clear hT hLa hLb a1
    go_enter Tryd.func5, Tryd.ntmps5
    go_wp2_with (first
      | (go_at_call 16; first | ((with_reducible refine (HFA.out _).mono ?_); rintro e w1 ⟨rfl, hb⟩; replace HB := Aside0.mk (below_then HB.out HB.out.size hb); clear hb) | ((with_reducible refine (HFB.out _).mono ?_); rintro e w1 ⟨rfl, hb⟩; replace HB := Aside0.mk (below_then HB.out HB.out.size hb); clear hb))
      | (go_at_call 15; go_must (refine (HAL.out _ HB.out).mono ?_; rintro e w1 ⟨rfl, hb⟩; replace HB := Aside0.mk (below_then HB.out HB.out.size hb); clear hb)))
    go_ret
    exact ⟨rfl, HB.out⟩
end Go.Proofs.YtdbbcngmnpejnaaDoor.B

/- What the laid variables give the walks: the table of math/bits lies; and the door's own heap meets the condition. -/
namespace Go.Proofs.YtdbbcngmnpejnaaDoor.B
open Go.Proofs.YtdbbcngmnpejnaaDoor.A
open Go Go.ChangeShapes Go.WideShapes Go.ChangeAt Go.RowKit
def laidB : List (String × DataW Unit) := [("math/bits.deBruijn32tab", Rows.laid_math_bits_deBruijn32tab), ("math/bits.deBruijn64tab", Rows.laid_math_bits_deBruijn64tab)]
theorem gTab : Tryd.prog.globalNamed "math/bits.deBruijn64tab" = some 1 := by kernel_rfl
theorem tTab : (Tryd.prog.globals[1]?).map (·.type) = some 150 := by kernel_rfl
theorem uTab : Tryd.prog.underlying 150 = some (.array 64 5) := Tryd.underlying150
theorem uU8 : Tryd.prog.underlying 5 = some (.int .u8) := Tryd.underlying5
theorem cU8 : Tryd.prog.cellsOf 5 = 1 := by kernel_rfl
/-- The door's own heap meets the condition. -/
theorem door_met (os : Os) (args : Array Value) : laidMetH Tryd.prog laidB ((World.doorLaid Tryd.prog 24 os).forCall (fun _ _ => 0) ⟨#[], args, []⟩).memory :=
  laidMetH_of_parts3 (fuel := 8) (laidMet_of_run' 8 (by kernel_rfl) (by kernel_rfl)) (by kernel_rfl) (by kernel_rfl)
theorem tab_data : (Rows.laid_math_bits_deBruijn64tab : DataW Unit) = .agg (tab64.map fun n => .lit (.int .u8 n)) := by rfl
theorem of_laid {W : World} (h : laidMetH Tryd.prog laidB W) : TabAt W := by
  rw [MakeChecks.laidMetH_plain _ _ _ (by kernel_rfl)] at h
  obtain ⟨ps, ⟨g0, t0, cs0, f0, p0, q0, hg0, ht0, hv0, hd0, ⟨g1, t1, cs1, f1, p1, q1, hg1, ht1, hv1, hd1, _, _⟩, _⟩, _, _⟩ := h
  obtain rfl := Option.some.inj (gTab.symm.trans hg1)
  obtain rfl := Option.some.inj (tTab.symm.trans ht1)
  rw [tab_data] at hd1
  obtain ⟨xs, m1, rfl, hx1, hlen, hn3, hel⟩ := DataW.trod_array uTab hd1
  intro j hj
  have hj' : j < xs.length := by omega
  have h0 := hel j hj
  rw [cU8, Nat.mul_one, List.getElem?_eq_getElem hj'] at h0
  obtain ⟨k, e1, e2, _⟩ := DataW.trod_int uU8 h0
  simp only [Prod.mk.injEq, DataW.agg.injEq] at hx1
  have hx := congrArg (fun l : List (DataW Unit) => l[j]?) hx1.1
  simp only [List.getElem?_map, List.getElem?_eq_getElem hj', Option.map_some, e2] at hx
  have hjt : j < tab64.length := hj
  rw [List.getElem?_eq_getElem hjt] at hx
  simp only [Option.map_some, Option.some.injEq, DataW.lit.injEq, Lit.int.injEq, true_and] at hx
  have hc := World.var?_cell hg1 hv1 j
  rw [hc]
  have e3 : cs1.toList[j]? = some (.int .u8 k) := by
    have := congrArg (fun l : List Value => l[0]?) e1
    simpa [List.getElem?_take, List.getElem?_drop] using this
  rw [Array.getElem?_toList] at e3
  rw [e3, ← hx]
  simp [List.getD_eq_getElem?_getD, List.getElem?_eq_getElem hjt]
end Go.Proofs.YtdbbcngmnpejnaaDoor.B

/- BreedKeeps holds: its code returns true and leaves what it was given as it was. Conditions: those of the given statement, none besides. -/
namespace Go.Proofs.YtdbbcngmnpejnaaDoor.breedKeeps
open Go.ChangeShapes Go.WideShapes Go.ChangeAt Go.RowKit
open Go.ChangeMaps (open_string shut_string)
open Go.Proofs.YtdbbcngmnpejnaaDoorW.PrintWords
open Go.Proofs.YtdbbcngmnpejnaaDoor.A
set_option linter.unusedVariables false
theorem own : ownKnob Tryd.prog.godebug = none := by kernel_rfl
theorem laidOut : laidOutB Tryd.prog = true := by kernel_rfl
def IsRow (k : IntKind) (w : World) (a : Option Addr) (len cap : Nat) (zs : List Int) : Prop :=
  (a = none ∧ len = 0 ∧ cap = 0 ∧ zs = []) ∨
  ∃ x, a = some x ∧ len ≤ cap ∧ cap ≤ maxLen ∧ zs.length = cap ∧ (∀ i, i < zs.length → w.cell? (x.add i) = some (.int k (zs.getD i 0))) ∧ ∀ n ∈ zs, (Lit.int k n).wf = true
set_option maxRecDepth 100000 in
theorem lifted (os : Os) (started : os.Started) (H : Type) (enc : TypeId × Value → H) :
    ReturnsInHanded {} Tryd.checked os 5 .any (fun w args => (Rows.breedKeepsSpec.pre enc Tryd.prog Tryd.f5 [] false w args ∧ laidMetH Tryd.prog Go.Proofs.YtdbbcngmnpejnaaDoor.B.laidB w) ∧ sizedMet enc Tryd.prog Tryd.f5 (OpenSpec.ofChange Rows.breedKeepsSpec) false w args)
      (Rows.breedKeepsSpec.post enc Tryd.prog Tryd.f5 false true false false) := by
  refine returnsInHanded_of_change_and (C := Tryd.checked) (X := fun w _ => laidMetH Tryd.prog Go.Proofs.YtdbbcngmnpejnaaDoor.B.laidB w) (fun _ _ _ hh h => h.of_heap hh) own started (by kernel_rfl) Tryd.func5
    (ChangeSpec.witness_shaped (enc := enc) (C := Tryd.checked) (os := os) (X := fun w _ => laidMetH Tryd.prog Go.Proofs.YtdbbcngmnpejnaaDoor.B.laidB w) false (World.doorLaid Tryd.prog 24 os) #[.int .i64 0, .string ByteArray.empty, .string ByteArray.empty, .int .i64 0] 8 rfl (World.shaped_of_RefB (by kernel_rfl) (by kernel_rfl)) (by kernel_rfl) (by kernel_rfl) (by kernel_rfl) (Go.Proofs.YtdbbcngmnpejnaaDoor.B.door_met os _)) ?_
  intro W base args ds gs before hval0 hW hcnd hsz0 hL _
  have hsz : (DataW.weightsEach Tryd.prog (Tryd.f5.params.toList ++ Rows.breedKeepsSpec.plain.varTypes Tryd.prog) (ds ++ gs)).all (· ≤ reachBytes) = true := hsz0
  have hval : ∀ (j : Nat) t v, Tryd.f5.params[j]? = some t → args[j]? = some v → Value.okWide Tryd.prog W .any base t v := hval0
  have hW' := hW
  obtain ⟨p, q, hA0, hV, rfl, hfz, hnd⟩ := hW
  have hA : DataW.TrodAll enc Tryd.prog W 0 (fun _ => true) true Tryd.f5.params.toList args.toList ds p := hA0
  rw [Tryd.params5] at hA hval hsz
  obtain ⟨v0, vs0, d0, ds0, p0, q0, hargs, rfl, rfl, h0, r0⟩ := trodAll_cons hA
  obtain ⟨v1, vs1, d1, ds1, p1, q1, rfl, rfl, rfl, h1, r1⟩ := trodAll_cons r0
  obtain ⟨v2, vs2, d2, ds2, p2, q2, rfl, rfl, rfl, h2, r2⟩ := trodAll_cons r1
  obtain ⟨v3, vs3, d3, ds3, p3, q3, rfl, rfl, rfl, h3, r3⟩ := trodAll_cons r2
  obtain ⟨rfl, rfl, rfl⟩ := trodAll_nil r3
  obtain rfl : args = #[v0, v1, v2, v3] := by cases args; simp_all
  obtain ⟨rfl, rfl⟩ := trodVars_none hV
  obtain ⟨a0, rfl, rfl, rfl, w0⟩ := open_int Tryd.underlying3 (hval 0 3 v0 rfl rfl) h0
  obtain ⟨a1, rfl, rfl, rfl, y1⟩ := open_string Tryd.underlying9 (hval 1 9 v1 rfl rfl) h1
  have w1 : a1.size ≤ 140737488351232 := by
    have z := sized_string hsz (j := 1) (t := 9) rfl rfl
    rw [Array.length_toList] at z
    exact z
  obtain ⟨a2, rfl, rfl, rfl, y2⟩ := open_string Tryd.underlying9 (hval 2 9 v2 rfl rfl) h2
  have w2 : a2.size ≤ 140737488351232 := by
    have z := sized_string hsz (j := 2) (t := 9) rfl rfl
    rw [Array.length_toList] at z
    exact z
  obtain ⟨a3, rfl, rfl, rfl, w3⟩ := open_int Tryd.underlying3 (hval 3 3 v3 rfl rfl) h3
  clear hA0 hval0 hsz0 hsz
  refine (B.keeps_any a0 a1 a2 a3 W (B.of_laid hL)).mono fun e W' ⟨he, bel⟩ => ?_
  subst he
  exact ⟨_, rfl, _, _, _, [], _, [], hW', trodAll_mk1 (shut_bool Tryd.underlying4 _), (trodAll_cons_mk (shut_int Tryd.underlying3 w0) (trodAll_cons_mk (shut_string Tryd.underlying9 y1) (trodAll_cons_mk (shut_string Tryd.underlying9 y2) (trodAll_cons_mk (shut_int Tryd.underlying3 w3) trodAll_mk0)))), rfl, bel.frame _, fun h => by cases h⟩
theorem over : Rows.breedKeepsRow.holds Tryd.pinned (OpenSpec.ofChange Rows.breedKeepsSpec) :=
  OpenClaim.holds_of_wide 5 Tryd.f5 rfl rfl rfl rfl rfl rfl rfl ⟨rfl, rfl, rfl, rfl, rfl⟩ rfl rfl rfl rfl rfl (by kernel_rfl) Tryd.func5 (by kernel_rfl)
    (of_decide_eq_true (by kernel_rfl)) (by unfold Func.isWrapper; first | (rw [if_pos (by decide +kernel)]; kernel_rfl) | (rw [if_neg (by decide +kernel)]; exact ⟨rfl, rfl⟩))
    (fun os started H enc _ => lifted os started H enc)
theorem proved : Rows.BreedKeepsSaid := over
/-- The tied card. -/
theorem card : Rows.BreedKeepsCardSaid :=
  Claim7.holds_tied_plain_at .later [] [.data, .data] true (true, "449c50ce385e76ce5fb1e3c7acce1baa715782fc22fdf803fec36f95dc6565be") true
    proved (fun _ h => by cases h) (by kernel_rfl) (fun _ h => by cases h) breedKeeps_row_tie rfl ⟨rfl, rfl⟩ (by kernel_rfl) rfl
    (fun f fn hf hfn => by
      obtain rfl : f = 5 := Option.some.inj ((show Tryd.prog.funcNamed "droveway/drovewaylaw05.BreedKeeps" = some 5 by kernel_rfl).symm.trans hf) |>.symm
      obtain rfl : fn = Tryd.f5 := (Option.some.inj (Tryd.func5.symm.trans hfn)).symm
      exact ⟨by kernel_rfl, fun j t ht => by
        rw [Tryd.params5] at ht
        have hm : t ∈ [3, 9, 9, 3] := by simpa using Array.mem_of_getElem? ht
        have hall : ([3, 9, 9, 3].all fun u => !Tryd.prog.wantsStandIn u) = true := by kernel_rfl
        exact (show Tryd.prog.wantsStandIn t = false by simpa using List.all_eq_true.1 hall t hm)⟩)
    (by kernel_rfl)
#print axioms card
end Go.Proofs.YtdbbcngmnpejnaaDoor.breedKeeps
namespace Go.Proofs.YtdbbcngmnpejnaaDoor
/-- The card, under a short name, for the claim. -/
theorem breedKeeps_holds : Rows.BreedKeepsCardSaid := breedKeeps.card
end Go.Proofs.YtdbbcngmnpejnaaDoor
