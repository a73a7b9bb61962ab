/- BreedBack holds: its code returns true and leaves what it was given as it was. Conditions: those of the given statement, none besides. -/
import Derived.Test.YtdbbcngmnpejnaaDoorZBa3
import Derived.Test.YtdbbcngmnpejnaaDoorProg
import Derived.Below
import Derived.Deep.Draws
import Derived.Deep.AppendLies
import Derived.Maps.AppendAt
import Derived.OwnWalk
import Derived.Laws.BytesArg
import Derived.Laws.MakeOwn
import Derived.Laws.OwnMore
import Derived.Deep.OwnRows
import Derived.Tactics
import Derived.Lib.ConvBytes
import Derived.Laws.Slices
import Derived.WalkKit
import Derived.KernelRfl
import Derived.RowKit3
import Derived.Deep.LoopGhost
import Derived.Deep.QuietTactic
import Derived.BigQuiet
import Derived.WideLaws
import Derived.Deep.DeepCutAuto
import Derived.Deep.CutBlock
import Derived.Deep.RegionHeld3
import Derived.Laws.Rows
import Derived.Lib.AppendStr
import Derived.ArgAppend
import Derived.Laws.IdiomCopy
import Derived.OrdersHeld
import Derived.Laws.BitsLemmas
import Derived.RowKit
import Derived.Test.YtdbbcngmnpejnaaDoorWWords
import Derived.Test.YtdbbcngmnpejnaaDoorWLast
import Derived.Test.YtdbbcngmnpejnaaDoorWTab
import Derived.Test.YtdbbcngmnpejnaaDoorWRepsOne
import Derived.Test.YtdbbcngmnpejnaaDoorWGuard
import Derived.Test.YtdbbcngmnpejnaaDoorRows
import Derived.ProofKit
import Derived.LaidMore
import Derived.OpenShut
import Derived.Stop.Joined
import Derived.Test.YtdbbcngmnpejnaaDoorCards
import Derived.Test.YtdbbcngmnpejnaaDoorTie
import Derived.SevenTiedAt
import Derived.ShutString
import Derived.ChangeOld
import Derived.SizedLaws
import Derived.Test.YtdbbcngmnpejnaaDoorWSized
/- in, as the kit's print writes it. -/
namespace Go.Proofs.YtdbbcngmnpejnaaDoor.B
open Go.Proofs.YtdbbcngmnpejnaaDoor.A
open Go.RowKit Go.Proofs.YtdbbcngmnpejnaaDoorW.PrintWords Go.Proofs.YtdbbcngmnpejnaaDoorW.PrintLast Go.Proofs.YtdbbcngmnpejnaaDoorW.PrintMore
section
attribute [local go_sem] max2_int min2_int max_two min_two max_three min_three max_four min_four   -- for this text's walks alone
set_option linter.unusedVariables false
set_option linter.unusedSimpArgs false
attribute [local go_sem high] eqA44
/-! ### drovewaylaw05_in: function 36 -/
def drovewaylaw05_in.l0 : Nat → List (S44) → Int → Int → Int → Int → Option (Bool)
  | 0, _, _, _, _, _ => none
  | k + 1, x0, x5, x292000, x292001, x292002 => if x5 < (x0.length : Int) then (if 0 ≤ x5 then (if (((rd_T44 x0 x5).f0) == x292000 && (((rd_T44 x0 x5).f1) == x292001 && (((rd_T44 x0 x5).f2) == x292002))) = true then (some true) else (drovewaylaw05_in.l0 k x0 (wrap64 (x5 + 1)) x292000 x292001 x292002)) else (none)) else (some false)
def drovewaylaw05_in.f (k : Nat) (l0 : List (S44)) (a1_0 : Int) (a1_1 : Int) (a1_2 : Int) : Option (Bool) := drovewaylaw05_in.l0 k l0 0 a1_0 a1_1 a1_2
set_option maxHeartbeats 8000000 in
set_option maxRecDepth 100000 in
theorem drovewaylaw05_in.calls (k : Nat) (A0 : Option Addr) (c0 : Nat) (l0 : List (S44)) (a1_0 : Int) (a1_1 : Int) (a1_2 : Int) (r : Bool) (w : World) (hr0 : Kd.C k44 w A0 l0.length l0) (hc0 : l0.length ≤ c0) (h : drovewaylaw05_in.f k l0 a1_0 a1_1 a1_2 = some r) :
    Calls Tryd.prog 36 #[.slice A0 l0.length c0, .agg #[.int .i64 a1_0, .int .i64 a1_1, .int .i64 a1_2]] w fun e w' => e = .returned (.bool r) ∧ Below w.heap.size w w' := by
  have hu44 := Tryd.underlying44
  have HR0 := Aside0.mk hr0
  have HC0 := Aside0.mk hc0
  clear hr0 hc0
  have HB := Aside0.mk (Below.refl w.heap.size w)
  have H : (drovewaylaw05_in.l0 k l0 0 a1_0 a1_1 a1_2) = some r := h
  clear h
  have H' := Aside0.mk H
  clear H
  go_enter Tryd.func36, Tryd.ntmps36
  go_wp2_with (first | ((with_reducible refine gate_dst (N := 3) rfl ?_); refine box_event ?hg (N := 3) ?hd (cs := #[.int .i64 a1_0, .int .i64 a1_1, .int .i64 a1_2]) (t := 44) ?hr ?_; (case hd => rfl); (case hg => rfl); (case hr => first | (go_simp; done) | (go_simp; rfl)); intro gb291 hg w3 hbox hb; have n0_ := Aside0.mk (below_step (by repeat (first | (with_reducible first | exact HB.out | apply below_alloc | apply pw_below_drewN | apply below_drew1) | exact HB.out)) hb); have n1_ := Aside0.mk (hbox); have n2_ := Aside0.mk ((by rw [hg]; exact (below_size (by repeat (first | (with_reducible first | exact HB.out | apply below_alloc | apply pw_below_drewN | apply below_drew1) | exact HB.out))) : w.heap.size ≤ gb291)); have n3_ := Aside0.mk ((by rw [hg]; exact (below_size (by repeat (first | (with_reducible first | exact HB.out | apply below_alloc | apply pw_below_drewN | apply below_drew1) | exact HB.out))) : w.heap.size ≤ gb291)); clear HB; have HB := n0_; have BK291 := n1_; have GW291 := n2_; have GE291 := n3_; clear n0_ n1_ n2_ n3_; clear hb hbox hg))
  repeat (go_quiet (first | ((with_reducible refine gate_dst (N := 3) rfl ?_); refine box_event ?hg (N := 3) ?hd (cs := #[.int .i64 a1_0, .int .i64 a1_1, .int .i64 a1_2]) (t := 44) ?hr ?_; (case hd => rfl); (case hg => rfl); (case hr => first | (go_simp; done) | (go_simp; rfl)); intro gb291 hg w3 hbox hb; have n0_ := Aside0.mk (below_step (by repeat (first | (with_reducible first | exact HB.out | apply below_alloc | apply pw_below_drewN | apply below_drew1) | exact HB.out)) hb); have n1_ := Aside0.mk (hbox); have n2_ := Aside0.mk ((by rw [hg]; exact (below_size (by repeat (first | (with_reducible first | exact HB.out | apply below_alloc | apply pw_below_drewN | apply below_drew1) | exact HB.out))) : w.heap.size ≤ gb291)); have n3_ := Aside0.mk ((by rw [hg]; exact (below_size (by repeat (first | (with_reducible first | exact HB.out | apply below_alloc | apply pw_below_drewN | apply below_drew1) | exact HB.out))) : w.heap.size ≤ gb291)); clear HB; have HB := n0_; have BK291 := n1_; have GW291 := n2_; have GE291 := n3_; clear n0_ n1_ n2_ n3_; clear hb hbox hg)); try go_wp2_with (first | ((with_reducible refine gate_dst (N := 3) rfl ?_); refine box_event ?hg (N := 3) ?hd (cs := #[.int .i64 a1_0, .int .i64 a1_1, .int .i64 a1_2]) (t := 44) ?hr ?_; (case hd => rfl); (case hg => rfl); (case hr => first | (go_simp; done) | (go_simp; rfl)); intro gb291 hg w3 hbox hb; have n0_ := Aside0.mk (below_step (by repeat (first | (with_reducible first | exact HB.out | apply below_alloc | apply pw_below_drewN | apply below_drew1) | exact HB.out)) hb); have n1_ := Aside0.mk (hbox); have n2_ := Aside0.mk ((by rw [hg]; exact (below_size (by repeat (first | (with_reducible first | exact HB.out | apply below_alloc | apply pw_below_drewN | apply below_drew1) | exact HB.out))) : w.heap.size ≤ gb291)); have n3_ := Aside0.mk ((by rw [hg]; exact (below_size (by repeat (first | (with_reducible first | exact HB.out | apply below_alloc | apply pw_below_drewN | apply below_drew1) | exact HB.out))) : w.heap.size ≤ gb291)); clear HB; have HB := n0_; have BK291 := n1_; have GW291 := n2_; have GE291 := n3_; clear n0_ n1_ n2_ n3_; clear hb hbox hg)))
  go_loopg [5] k (fun kq v5 w' => ∃ (x5_1 : Int), v5 = .int .i64 x5_1 ∧ Aside0 (drovewaylaw05_in.l0 kq l0 x5_1 a1_0 a1_1 a1_2 = some r) ∧ Aside0 (kq ≤ k) ∧ Aside0 (w'.heap[gb291]? = some (.cells #[.int .i64 a1_0, .int .i64 a1_1, .int .i64 a1_2] 44 (0, 0))) ∧ Aside0 (Below w.heap.size w w'))
  case atStart => exact ⟨(0), (by first | rfl | (simp; done) | (simp [*]; done)), H', ⟨Nat.le_refl _⟩, ⟨by (with_reducible repeat (first | refine blk_drewN ?_ _ | refine blk_drew ?_ | refine blk_alloc ?_ _)); exact BK291.out⟩, ⟨by repeat (first | (with_reducible first | exact HB.out | apply below_alloc | apply pw_below_drewN | apply below_drew1 | refine below_set ?_ GE291.out) | exact HB.out)⟩⟩
  case round =>
    clear H'
    try clear p2
    try clear c3
    obtain ⟨x5_1, rfl, HA, HK1, BK291, HB⟩ := hrel
    cases gk with
    | zero => exact absurd HA.out (by simp [drovewaylaw05_in.l0])
    | succ k1 =>
      have H := HA.out
      clear HA
      simp only [drovewaylaw05_in.l0] at H
      by_cases c4 : x5_1 < (l0.length : Int)
      · rw [if_pos c4] at H
        have c4b0 : decide (x5_1 < (l0.length : Int)) = true := decide_eq_true c4
        clear c4
        by_cases c5 : 0 ≤ x5_1
        · rw [if_pos c5] at H
          have c5b0 : decide (0 ≤ x5_1) = true := decide_eq_true c5
          clear c5
          by_cases c6 : (((rd_T44 l0 x5_1).f0) == a1_0 && (((rd_T44 l0 x5_1).f1) == a1_1 && (((rd_T44 l0 x5_1).f2) == a1_2))) = true
          · rw [if_pos c6] at H
            have c6b0 : (((rd_T44 l0 x5_1).f0) == a1_0 && (((rd_T44 l0 x5_1).f1) == a1_1 && (((rd_T44 l0 x5_1).f2) == a1_2))) = true := c6
            (try (have c6b1 : decide (((rd_T44 l0 x5_1).f0) = a1_0 && (((rd_T44 l0 x5_1).f1) == a1_1 && (((rd_T44 l0 x5_1).f2) == a1_2))) = true := by simpa using c6))
            (try (have c6b2 : (((rd_T44 l0 x5_1).f0) == a1_0 && (((rd_T44 l0 x5_1).f1) == a1_1 && (((rd_T44 l0 x5_1).f2) == a1_2))) = true := by simpa using c6))
            clear c6
            obtain rfl := Option.some.inj H
            have p292 : 0 ≤ (x5_1 : Int) := of_decide_eq_true (by first | (with_reducible assumption) | assumption)
            have q292 : x5_1 < (l0.length : Int) := of_decide_eq_true (by first | (with_reducible assumption) | assumption)
            obtain ⟨ad292, e292, hx292_0, hx292_1, hx292_2⟩ := at_T44 HR0.out x5_1 p292 q292
            cases e292
            replace hx292_0 := (HB.out.cell (World.block_lt_of_cell? w _ hx292_0)).trans hx292_0
            replace hx292_1 := (HB.out.cell (World.block_lt_of_cell? w _ hx292_1)).trans hx292_1
            replace hx292_2 := (HB.out.cell (World.block_lt_of_cell? w _ hx292_2)).trans hx292_2
            replace p292 := eq_true p292
            replace q292 := eq_true q292
            have hcz7_0 : wr.cell? ⟨gb291, 0, none⟩ = some (.int .i64 a1_0) := (blk_cell BK291.out 0).trans rfl
            have hcz7_1 : wr.cell? ⟨gb291, 1, none⟩ = some (.int .i64 a1_1) := (blk_cell BK291.out 1).trans rfl
            have hcz7_2 : wr.cell? ⟨gb291, 2, none⟩ = some (.int .i64 a1_2) := (blk_cell BK291.out 2).trans rfl
            have hfz7_0 := blk_frozen BK291.out 0
            have hfz7_1 := blk_frozen BK291.out 1
            have hfz7_2 := blk_frozen BK291.out 2
            go_wp2
            repeat (go_quiet (fail); try go_wp2)
            go_ret
            exact ⟨by first | rfl | (simp [errW_none, errW_some] <;> rfl) | (simp [*, errW_none, errW_some] <;> rfl), by repeat (first | (with_reducible first | exact HB.out | apply below_alloc | apply pw_below_drewN | apply below_drew1 | refine below_set ?_ GE291.out) | exact HB.out)⟩
          · rw [if_neg c6] at H
            have c6b0 : (((rd_T44 l0 x5_1).f0) == a1_0 && (((rd_T44 l0 x5_1).f1) == a1_1 && (((rd_T44 l0 x5_1).f2) == a1_2))) = false := by simpa using c6
            (try (have c6b1 : decide (((rd_T44 l0 x5_1).f0) = a1_0 && (((rd_T44 l0 x5_1).f1) == a1_1 && (((rd_T44 l0 x5_1).f2) == a1_2))) = false := by simpa using c6))
            (try (have c6b2 : (((rd_T44 l0 x5_1).f0) == a1_0 && (((rd_T44 l0 x5_1).f1) == a1_1 && (((rd_T44 l0 x5_1).f2) == a1_2))) = false := by simpa using c6))
            (try (have c6b3 : ¬ (((rd_T44 l0 x5_1).f0) = a1_0 && (((rd_T44 l0 x5_1).f1) == a1_1 && (((rd_T44 l0 x5_1).f2) == a1_2))) := by simpa using c6))
            clear c6
            have H' := Aside0.mk H
            clear H
            have p292 : 0 ≤ (x5_1 : Int) := of_decide_eq_true (by first | (with_reducible assumption) | assumption)
            have q292 : x5_1 < (l0.length : Int) := of_decide_eq_true (by first | (with_reducible assumption) | assumption)
            obtain ⟨ad292, e292, hx292_0, hx292_1, hx292_2⟩ := at_T44 HR0.out x5_1 p292 q292
            cases e292
            replace hx292_0 := (HB.out.cell (World.block_lt_of_cell? w _ hx292_0)).trans hx292_0
            replace hx292_1 := (HB.out.cell (World.block_lt_of_cell? w _ hx292_1)).trans hx292_1
            replace hx292_2 := (HB.out.cell (World.block_lt_of_cell? w _ hx292_2)).trans hx292_2
            replace p292 := eq_true p292
            replace q292 := eq_true q292
            have hcz8_0 : wr.cell? ⟨gb291, 0, none⟩ = some (.int .i64 a1_0) := (blk_cell BK291.out 0).trans rfl
            have hcz8_1 : wr.cell? ⟨gb291, 1, none⟩ = some (.int .i64 a1_1) := (blk_cell BK291.out 1).trans rfl
            have hcz8_2 : wr.cell? ⟨gb291, 2, none⟩ = some (.int .i64 a1_2) := (blk_cell BK291.out 2).trans rfl
            have hfz8_0 := blk_frozen BK291.out 0
            have hfz8_1 := blk_frozen BK291.out 1
            have hfz8_2 := blk_frozen BK291.out 2
            go_wp2
            repeat (go_quiet (fail); try go_wp2)
            go_roundg k1
            case measure => have := HK1.out; omega
            case rel => exact ⟨(wrap64 (x5_1 + 1)), (by first | rfl | (simp; done) | (simp [*]; done)), H', ⟨by have := HK1.out; omega⟩, ⟨by (with_reducible repeat (first | refine blk_drewN ?_ _ | refine blk_drew ?_ | refine blk_alloc ?_ _)); exact BK291.out⟩, ⟨by repeat (first | (with_reducible first | exact HB.out | apply below_alloc | apply pw_below_drewN | apply below_drew1 | refine below_set ?_ GE291.out) | exact HB.out)⟩⟩
        · rw [if_neg c5] at H
          exact absurd H (by simp)
      · rw [if_neg c4] at H
        have c4b0 : decide (x5_1 < (l0.length : Int)) = false := decide_eq_false c4
        clear c4
        obtain rfl := Option.some.inj H
        go_wp2
        repeat (go_quiet (fail); try go_wp2)
        go_ret
        exact ⟨by first | rfl | (simp [errW_none, errW_some] <;> rfl) | (simp [*, errW_none, errW_some] <;> rfl), by repeat (first | (with_reducible first | exact HB.out | apply below_alloc | apply pw_below_drewN | apply below_drew1 | refine below_set ?_ GE291.out) | exact HB.out)⟩

end
end Go.Proofs.YtdbbcngmnpejnaaDoor.B

/- A knot where nothing can be built; a tree is built of its own triples; of three beasts a tree shows at most one triple. -/
namespace Go.Proofs.YtdbbcngmnpejnaaDoor.A
variable {l : List S44} {s : Nat}
/-! ### a tree of its own triples -/
theorem mk3 {a b c : Nat} (ha : a < 8) (hb : b < 8) (hc : c < 8) : ∃ x : S44, x.a = min a b ∧ x.b = max a b ∧ x.c = c ∧ Tri8 x ∧ (x.f0 < x.f1 ↔ a ≠ b) := by
  refine ⟨⟨((min a b : Nat) : Int), ((max a b : Nat) : Int), (c : Int)⟩, Int.toNat_natCast _, Int.toNat_natCast _, Int.toNat_natCast _, ?_, ?_⟩
  · unfold Tri8
    dsimp only
    omega
  · dsimp only
    omega
theorem pairN_mm {x : S44} {a b : Nat} (h1 : x.a = min a b) (h2 : x.b = max a b) : pairN x = 2 ^ a ||| 2 ^ b := by
  unfold pairN
  rw [h1, h2]
  rcases Nat.le_total a b with h | h
  · rw [Nat.min_eq_left h, Nat.max_eq_right h]
  · rw [Nat.min_eq_right h, Nat.max_eq_left h, Nat.or_comm]
theorem shows3_mm {x : S44} {a b c : Nat} (h1 : x.a = min a b) (h2 : x.b = max a b) (h3 : x.c = c) (t : BT) : shows3 t x = showsB t a b c := by
  unfold shows3 showsB
  have h := pairN_mm h1 h2
  unfold pairN at h
  rw [h, h3]
/-- The parts of a family are those that its triples join. -/
theorem back_parts (hl : ∀ t ∈ l, Tri8 t) {ks : List BT} (hg : (BT.node ks).Good) (hsh : ∀ x ∈ l, SubN (allN x) (BT.node ks).set → shows3 (.node ks) x = true)
    (hall : ∀ x, Tri3 x → x.f0 < x.f1 → SubN (allN x) (BT.node ks).set → shows3 (.node ks) x = true → x ∈ l) : partsF l (BT.node ks).set = ks.map BT.set := by
  obtain ⟨h2, hks, hpw⟩ := good_node.mp hg
  have h8 := good_256 hg
  have hsub : ∀ k ∈ ks, SubN k.set (BT.node ks).set := fun k hk i hi => by rw [set_node, sets_bit]; exact ⟨k, hk, hi⟩
  refine parts_one h8 (parts_spec hl h8) ⟨fun p hp => ?_, fun p hp => ?_, fun p hp => ?_, fun p hp => ?_, ?_, fun i hi => ?_⟩
  · obtain ⟨k, hk, rfl⟩ := List.mem_map.mp hp
    exact good_ne (hks k hk)
  · obtain ⟨k, hk, rfl⟩ := List.mem_map.mp hp
    exact hsub k hk
  · obtain ⟨k, hk, rfl⟩ := List.mem_map.mp hp
    intro x hx hxs hm
    obtain ⟨j, hj1, hj2⟩ := meet_iff.mp hm
    have hsx := hsh x hx hxs
    have hsame : ∃ k' ∈ ks, k'.set.testBit x.a = true ∧ k'.set.testBit x.b = true := by
      refine Classical.byContradiction fun hno => ?_
      have := shows_out (ks := ks) (a := x.a) (b := x.b) (c := x.c) (fun k' hk' ha => by
        cases hb : k'.set.testBit x.b with
        | false => rfl
        | true => exact absurd ⟨k', hk', ha, hb⟩ hno) (hxs _ (all_c x))
      unfold shows3 at hsx
      rw [this] at hsx; cases hsx
    obtain ⟨k', hk', ha, hb⟩ := hsame
    have e : k' = k := part_one hpw hk' hk (sub_pair (x := x) ha hb j hj1) hj2
    subst e
    exact sub_pair ha hb
  · obtain ⟨k, hk, rfl⟩ := List.mem_map.mp hp
    intro Q hQ hlow i hi
    have hgk := hks k hk
    have hkl := low_bit (good_ne hgk) (good_256 hgk)
    by_cases e : i = low k.set
    · rw [e]; exact hlow
    · -- a beast of another part
      obtain ⟨k', hk', hne⟩ : ∃ k' ∈ ks, k' ≠ k := by
        match ks, h2, hk, hpw with
        | x :: y :: r, _, hk, hpw =>
          rw [List.pairwise_cons] at hpw
          have hxy := (hpw.1 y List.mem_cons_self).2
          by_cases e2 : x = k
          · refine ⟨y, by simp, fun e3 => ?_⟩
            rw [e2, e3] at hxy; omega
          · exact ⟨x, by simp, e2⟩
      obtain ⟨c, hc⟩ := good_bit (hks k' hk')
      have hck : k.set.testBit c = false := by
        cases h : k.set.testBit c with
        | false => rfl
        | true => exact absurd (part_one hpw hk' hk hc h) hne
      obtain ⟨x, hx1, hx2, hx3, hx8, hx4⟩ := mk3 (good_lt hgk _ hkl) (good_lt hgk i hi) (good_lt (hks k' hk') c hc)
      have hpn := pairN_mm hx1 hx2
      have hps : SubN (pairN x) k.set := by rw [hpn]; exact has_iff.mp (has_pair.mpr ⟨hkl, hi⟩)
      have hxs : SubN (allN x) (BT.node ks).set := sub_all (hps.trans (hsub k hk)) (by rw [hx3]; exact hsub k' hk' c hc)
      have hshx : shows3 (.node ks) x = true := by
        rw [shows3_mm hx1 hx2 hx3]
        exact shows_apart hg hk hkl hi hck
      have hcn : c ≠ low k.set ∧ c ≠ i := ⟨fun e2 => (by rw [e2, hkl] at hck; cases hck), fun e2 => (by rw [e2, hi] at hck; cases hck)⟩
      have hT : Tri3 x := ⟨hx8, by rw [hx1, hx2]; omega, by rw [hx3, hx1]; omega, by rw [hx3, hx2]; omega⟩
      have hxl := hall x hT (hx4.mpr (fun e2 => e e2.symm)) hxs hshx
      have := hQ x hxl hxs (meet_iff.mpr ⟨low k.set, by rw [hpn, pair_bit]; simp, hlow⟩)
      exact this i (by rw [hpn, pair_bit]; simp)
  · rw [List.pairwise_map]; exact hpw
  · rw [set_node, sets_bit] at hi
    obtain ⟨k, hk, hki⟩ := hi
    exact ⟨k.set, List.mem_map.mpr ⟨k, hk, rfl⟩, hki⟩
/-- A tree is built of its own triples. -/
theorem build_back (hl : ∀ t ∈ l, Tri8 t) (T : BT) : T.Good → (∀ x ∈ l, SubN (allN x) T.set → shows3 T x = true) → (∀ x, Tri3 x → x.f0 < x.f1 → SubN (allN x) T.set → shows3 T x = true → x ∈ l) → ∀ f, pcN T.set 8 < f → buildF l f T.set = some T := by
  refine BT.ind (P := fun T => T.Good → (∀ x ∈ l, SubN (allN x) T.set → shows3 T x = true) → (∀ x, Tri3 x → x.f0 < x.f1 → SubN (allN x) T.set → shows3 T x = true → x ∈ l) → ∀ f, pcN T.set 8 < f → buildF l f T.set = some T) (fun i hi _ _ f hf => ?_) (fun ks ih hg hsh hall f hf => ?_) T
  · obtain ⟨f, rfl⟩ : ∃ f', f = f' + 1 := ⟨f - 1, by omega⟩
    rw [BT.Good] at hi
    have hlow : low (2 ^ i) = i := low_two i hi
    rw [set_leaf, buildF, if_pos ((one_iff _ (two_256 hi) (Nat.pos_iff_ne_zero.mp (Nat.two_pow_pos i))).mpr (by rw [hlow])), hlow]
  · obtain ⟨f, rfl⟩ : ∃ f', f = f' + 1 := ⟨f - 1, by omega⟩
    obtain ⟨h2, hks, hpw⟩ := good_node.mp hg
    have h8 := good_256 hg
    have hparts := back_parts hl hg hsh hall
    have hlen : (partsF l (BT.node ks).set).length ≠ 1 := by rw [hparts, List.length_map]; omega
    have hsub : ∀ k ∈ ks, SubN k.set (BT.node ks).set := fun k hk i hi => by rw [set_node, sets_bit]; exact ⟨k, hk, hi⟩
    have hn1 : (BT.node ks).set &&& ((BT.node ks).set - 1) ≠ 0 := fun e => by
      have e2 := (one_iff _ h8 (good_ne hg)).mp e
      have hin : ∀ k ∈ ks, k.set.testBit (low (BT.node ks).set) = true := fun k hk => by
        have hb := low_bit (good_ne (hks k hk)) (good_256 (hks k hk))
        have := hsub k hk _ hb
        rw [e2, two_bit, decide_eq_true_iff] at this
        rw [this]; exact hb
      match ks, h2, hpw, hin with
      | x :: y :: r, _, hpw, hin =>
        rw [List.pairwise_cons] at hpw
        have := disj_iff.mp (hpw.1 y List.mem_cons_self).1 _ (hin x List.mem_cons_self)
        rw [hin y (by simp)] at this
        cases this
    rw [buildF, if_neg hn1, if_neg hlen, hparts]
    have : mapO (buildF l f) (ks.map BT.set) = some ks := by
      rw [mapO_some, List.map_map]
      refine List.map_congr_left fun k hk => ?_
      have hpc := part_less hl h8 (p := k.set) (by rw [hparts]; exact List.mem_map.mpr ⟨k, hk, rfl⟩) hlen
      refine ih k hk (hks k hk) (fun x hx hxk => ?_) (fun x hT hlt hxk hx => ?_) f (by omega)
      · have h := hsh x hx (hxk.trans (hsub k hk))
        unfold shows3 at h ⊢
        rwa [shows_in hg hk (hxk _ (pair_sub x _ (pair_a x))) (hxk _ (pair_sub x _ (pair_b x)))] at h
      · refine hall x hT hlt (hxk.trans (hsub k hk)) ?_
        unfold shows3 at hx ⊢
        rwa [shows_in hg hk (hxk _ (pair_sub x _ (pair_a x))) (hxk _ (pair_sub x _ (pair_b x)))]
    rw [this]
    rfl
/-- Of three beasts a tree shows at most one triple. -/
theorem shows_once (T : BT) : T.Good → ∀ a b c, T.set.testBit a = true → T.set.testBit b = true → T.set.testBit c = true → a ≠ b → c ≠ a → c ≠ b → showsB T a b c = true → showsB T a c b = false := by
  refine BT.ind (P := fun T => T.Good → ∀ a b c, T.set.testBit a = true → T.set.testBit b = true → T.set.testBit c = true → a ≠ b → c ≠ a → c ≠ b → showsB T a b c = true → showsB T a c b = false) (fun i hi a b c ha hb _ hab _ _ _ => ?_) (fun ks ih hg a b c ha hb hc hab hca hcb h => ?_) T
  · rw [set_leaf, two_bit, decide_eq_true_iff] at ha hb
    exact absurd (ha.symm.trans hb) hab
  · obtain ⟨_, hks, hpw⟩ := good_node.mp hg
    by_cases hsame : ∃ k ∈ ks, k.set.testBit a = true ∧ k.set.testBit b = true
    · obtain ⟨k, hk, hka, hkb⟩ := hsame
      cases hkc : k.set.testBit c with
      | true =>
        rw [shows_in hg hk hka hkb] at h
        rw [shows_in hg hk hka hkc]
        exact ih k hk (hks k hk) a b c hka hkb hkc hab hca hcb h
      | false =>
        refine shows_out (fun k' hk' ha' => ?_) hb
        have e : k' = k := part_one hpw hk' hk ha' hka
        rw [e]; exact hkc
    · have := shows_out (ks := ks) (a := a) (b := b) (c := c) (fun k hk hka => by
        cases hkb : k.set.testBit b with
        | false => rfl
        | true => exact absurd ⟨k, hk, hka, hkb⟩ hsame) hc
      rw [this] at h; cases h
end Go.Proofs.YtdbbcngmnpejnaaDoor.A

/- What Build, Knot, Shows and Joined answer of one list of triples, plain: Aho's theorem, as the laws ask it. -/
namespace Go.Proofs.YtdbbcngmnpejnaaDoor.B
open Go.Proofs.YtdbbcngmnpejnaaDoor.A
open Go.RowKit Go.Proofs.YtdbbcngmnpejnaaDoorW.PrintWords Go.Proofs.YtdbbcngmnpejnaaDoorW.PrintMore
theorem full_bit (m i : Nat) : (2 ^ m - 1).testBit i = decide (i < m) := Nat.testBit_two_pow_sub_one m i
theorem okTri_3 {n : Int} {t : S44} (hn : n ≤ 8) (h : okTri n t = true) : Tri3 t := by
  have h1 := okTri_8 hn h
  have := okTri_parts h
  refine ⟨h1, ?_⟩
  unfold S44.a S44.b S44.c
  omega
theorem okTri_sub {m : Nat} {t : S44} (h : okTri m t = true) : SubN (allN t) (2 ^ m - 1) := fun i hi => by
  have h1 := okTri_parts h
  rw [full_bit, decide_eq_true_iff]
  unfold allN pairN at hi
  rw [Nat.testBit_or, pair_bit, two_bit, Bool.or_eq_true, Bool.or_eq_true, decide_eq_true_iff, decide_eq_true_iff, decide_eq_true_iff] at hi
  unfold S44.a S44.b S44.c at hi
  omega
end Go.Proofs.YtdbbcngmnpejnaaDoor.B

/- The reference's Count, as the kit's print writes it; its drawn region by hand. -/
namespace Go.Proofs.YtdbbcngmnpejnaaDoor.B
open Go.Proofs.YtdbbcngmnpejnaaDoor.A
open Go.RowKit Go.Proofs.YtdbbcngmnpejnaaDoorW.PrintWords Go.Proofs.YtdbbcngmnpejnaaDoorW.PrintLast Go.Proofs.YtdbbcngmnpejnaaDoorW.PrintMore
section
attribute [local go_sem] max2_int min2_int max_two min_two max_three min_three max_four min_four   -- for this text's walks alone
set_option linter.unusedVariables false
set_option linter.unusedSimpArgs false
/-! ### drovewayref05_Count: function 14 -/
mutual
def drovewayref05_Count.j0 : Nat → Int → Bool → Option (Int × Int)
  | 0, _, _ => none
  | k + 1, x0, x14 => if x14 = true then (some (0, 2)) else (drovewayref05_Count.l0 k x0 (([0, 1] : List Int)) (([1, 1] : List Int)) 2)
def drovewayref05_Count.l0 : Nat → Int → List Int → List Int → Int → Option (Int × Int)
  | 0, _, _, _, _ => none
  | k + 1, x0, x4, x5, x6 => if x6 ≤ x0 then (drovewayref05_Count.l1 k x0 x4 x5 x6 0 1) else (if 0 ≤ x0 then (if x0 < (x4.length : Int) then (some (rd x4 x0, 0)) else (none)) else (none))
def drovewayref05_Count.l1 : Nat → Int → List Int → List Int → Int → Int → Int → Option (Int × Int)
  | 0, _, _, _, _, _, _ => none
  | k + 1, x0, x4, x5, x6, x7, x8 => if x8 < x6 then ((drovewayref05_choose.f k (wrap64 (x6 - 1)) (wrap64 (x8 - 1))).bind fun t123 => (if 0 ≤ x8 then (if x8 < (x4.length : Int) then (if 0 ≤ (wrap64 (x6 - x8)) then (if (wrap64 (x6 - x8)) < (x5.length : Int) then (drovewayref05_Count.l1 k x0 x4 x5 x6 (wrap64 (x7 + (wrap64 ((wrap64 (t123 * (rd x4 x8))) * (rd x5 (wrap64 (x6 - x8))))))) (wrap64 (x8 + 1))) else (none)) else (none)) else (none)) else (none))) else (if x4.length < 17592186044416 then (if x5.length < 17592186044416 then (drovewayref05_Count.l0 k x0 (x4 ++ [x7]) (x5 ++ [wrap64 (2 * x7)]) (wrap64 (x6 + 1))) else (none)) else (none))
end
def drovewayref05_Count.f (k : Nat) (a0 : Int) : Option (Int × Int) := if a0 < 1 then (drovewayref05_Count.j0 k a0 true) else (drovewayref05_Count.j0 k a0 (decide (a0 > 8)))
end
end Go.Proofs.YtdbbcngmnpejnaaDoor.B

/- Count and the reference's Count give the same. -/
namespace Go.Proofs.YtdbbcngmnpejnaaDoor.B
open Go.Proofs.YtdbbcngmnpejnaaDoor.A
open Go.RowKit Go.Proofs.YtdbbcngmnpejnaaDoorW.PrintWords Go.Proofs.YtdbbcngmnpejnaaDoorW.PrintMore
def countE (n : Int) : Int × Int := if 1 ≤ n ∧ n ≤ 8 then (([0, 1, 1, 4, 26, 236, 2752, 39208, 660032] : List Int).getD n.toNat 0, 0) else (0, 2)
theorem count_in : (List.range 9).all (fun n => n == 0 || (decide (breed_Count.f 80 (n : Int) = some (countE n)) && decide (drovewayref05_Count.f 160 (n : Int) = some (countE n)))) = true := by decide +kernel
theorem count_some (n : Int) : ∃ k, breed_Count.f k n = some (countE n) := by
  by_cases h : 1 ≤ n ∧ n ≤ 8
  · have h1 := List.all_eq_true.1 count_in n.toNat (List.mem_range.2 (by omega))
    have h2 : ((n.toNat : Nat) : Int) = n := by omega
    have h3 : (n.toNat == 0) = false := by rw [beq_eq_false_iff_ne]; omega
    rw [h2, h3, Bool.false_or, Bool.and_eq_true, decide_eq_true_iff, decide_eq_true_iff] at h1
    exact ⟨80, h1.1⟩
  · refine ⟨1, ?_⟩
    unfold breed_Count.f breed_herd.f countE
    rw [if_neg h]
    by_cases h1 : n ≥ 1
    · rw [if_pos h1, Option.bind_some, if_neg (by rw [decide_eq_true_iff]; omega)]
    · rw [if_neg h1, Option.bind_some, if_neg Bool.false_ne_true]
theorem Count_calls (n : Int) (W : World) : Calls Tryd.prog 13 #[.int .i64 n] W fun e w' => e = .returned (.tuple #[.int .i64 (countE n).1, .int .i64 (countE n).2]) ∧ Below W.heap.size W w' := by
  obtain ⟨k, hk⟩ := count_some n
  exact (breed_Count.calls k n _ _ W hk).mono fun _ _ h => h
end Go.Proofs.YtdbbcngmnpejnaaDoor.B

/- alive: what every right program knows of a few beasts. -/
namespace Go.Proofs.YtdbbcngmnpejnaaDoor.B
open Go.Proofs.YtdbbcngmnpejnaaDoor.A
open Go.RowKit Go.Proofs.YtdbbcngmnpejnaaDoorW.PrintWords Go.Proofs.YtdbbcngmnpejnaaDoorW.PrintMore
/-- Two triples in a row that has just been made. -/
theorem two_reads (W : World) (a b : S44) : Kd.C k44 (W.alloc (.cells #[.int .i64 a.f0, .int .i64 a.f1, .int .i64 a.f2, .int .i64 b.f0, .int .i64 b.f1, .int .i64 b.f2] 44)) (some ⟨W.heap.size, 0, none⟩) 2 [a, b] := by
  refine ⟨rfl, by decide, fun _ => ⟨_, rfl, fun j p hj => ?_⟩⟩
  have hb := heap_alloc_new W (.cells #[.int .i64 a.f0, .int .i64 a.f1, .int .i64 a.f2, .int .i64 b.f0, .int .i64 b.f1, .int .i64 b.f2] 44)
  refine ⟨_, rfl, k44_mk _ p, fun i u hu => ?_⟩
  rw [add_plain, blk_cell hb]
  match j, hj, i, hu with
  | 0, hj, 0, hu => cases hj; exact hu
  | 0, hj, 1, hu => cases hj; exact hu
  | 0, hj, 2, hu => cases hj; exact hu
  | 1, hj, 0, hu => cases hj; exact hu
  | 1, hj, 1, hu => cases hj; exact hu
  | 1, hj, 2, hu => cases hj; exact hu
theorem alive_Build : buildE 4 [⟨0, 1, 2⟩, ⟨1, 2, 3⟩] = (⟨#[40, 40, 40, 48, 44, 49, 41, 44, 50, 41, 44, 51, 41]⟩, 0) := by kernel_rfl
theorem alive_Knot : knotE 3 [⟨0, 1, 2⟩, ⟨1, 2, 0⟩] = (7, 0) := by kernel_rfl
theorem sort_two {a b : BT} (h : low a.set ≤ low b.set) : sortB [a, b] = [a, b] := by
  unfold sortB
  refine List.mergeSort_of_pairwise ?_
  simp [h]
theorem alive_parse : parseE 4 [40, 40, 40, 48, 44, 49, 41, 44, 50, 41, 44, 51, 41] = some (.node [.node [.node [.leaf 0, .leaf 1], .leaf 2], .leaf 3]) := by kernel_rfl
theorem alive_text : (strB (BT.node [.node [.leaf 0, .leaf 2], .leaf 3]).text, (0 : Int)) = (⟨#[40, 40, 48, 44, 50, 41, 44, 51, 41]⟩, 0) := by kernel_rfl
theorem alive_Kept : keptE 4 [40, 40, 40, 48, 44, 49, 41, 44, 50, 41, 44, 51, 41] 13 = (⟨#[40, 40, 48, 44, 50, 41, 44, 51, 41]⟩, 0) := by
  unfold keptE
  rw [alive_parse]
  have h : BT.kept 13 (.node [.node [.node [.leaf 0, .leaf 1], .leaf 2], .leaf 3]) = some (.node [.node [.leaf 0, .leaf 2], .leaf 3]) := by
    have h0 : BT.kept 13 (.leaf 0) = some (.leaf 0) := by kernel_rfl
    have h1 : BT.kept 13 (.leaf 1) = none := by kernel_rfl
    have h2 : BT.kept 13 (.leaf 2) = some (.leaf 2) := by kernel_rfl
    have h3 : BT.kept 13 (.leaf 3) = some (.leaf 3) := by kernel_rfl
    have ha : BT.kept 13 (.node [.leaf 0, .leaf 1]) = some (.leaf 0) := by
      rw [BT.kept, BT.keptL, h0, BT.keptL, h1, BT.keptL]; rfl
    have hb : BT.kept 13 (.node [.node [.leaf 0, .leaf 1], .leaf 2]) = some (.node [.leaf 0, .leaf 2]) := by
      rw [BT.kept, BT.keptL, ha, BT.keptL, h2, BT.keptL]
      show some (BT.node (sortB _)) = _
      rw [sort_two (by decide +kernel)]
    rw [BT.kept, BT.keptL, hb, BT.keptL, h3, BT.keptL]
    show some (BT.node (sortB _)) = _
    rw [sort_two (by decide +kernel)]
  simp only []
  rw [if_pos (by decide), show (13 : Int).toNat = 13 from rfl, h]
  exact alive_text
theorem alive_Family : familyE 3 [40, 40, 48, 44, 49, 41, 44, 50, 41] 0 1 = (3, 0) := by kernel_rfl

set_option maxRecDepth 100000 in
set_option maxHeartbeats 3200000 in
theorem alive_calls (w : World) (hT : TabAt w) : Calls Tryd.prog 15 #[] w fun e w' => e = .returned (.bool true) ∧ Below w.heap.size w w' := by
  have HT := Aside0.mk hT
  have HB := Aside0.mk (Below.refl w.heap.size w)
  have H1 : Aside0 (∀ W, TabAt W → Calls Tryd.prog 17 #[.int .i64 4, .slice (some ⟨W.heap.size, 0, none⟩) 2 2] (W.alloc (.cells #[.int .i64 0, .int .i64 1, .int .i64 2, .int .i64 1, .int .i64 2, .int .i64 3] 44)) fun e w' => e = .returned (.tuple #[.string ⟨#[40, 40, 40, 48, 44, 49, 41, 44, 50, 41, 44, 51, 41]⟩, .int .i64 0]) ∧ Below W.heap.size W w') := ⟨fun W hT => by
    have := Build_calls 4 (some ⟨W.heap.size, 0, none⟩) 2 [⟨0, 1, 2⟩, ⟨1, 2, 3⟩] _ (two_reads W ⟨0, 1, 2⟩ ⟨1, 2, 3⟩) (by decide) (hT.next ((Below.refl _ _).alloc (Nat.le_refl _) _))
    rw [alive_Build] at this
    exact this.mono fun e w' ⟨h1, h2⟩ => ⟨h1, below_then ((Below.refl _ W).alloc (Nat.le_refl _) _) ((Below.refl _ W).alloc (Nat.le_refl _) _).size h2⟩⟩
  have H2 : Aside0 (∀ W, Calls Tryd.prog 19 #[.int .i64 3, .slice (some ⟨W.heap.size, 0, none⟩) 2 2] (W.alloc (.cells #[.int .i64 0, .int .i64 1, .int .i64 2, .int .i64 1, .int .i64 2, .int .i64 0] 44)) fun e w' => e = .returned (.tuple #[.int .i64 7, .int .i64 0]) ∧ Below W.heap.size W w') := ⟨fun W => by
    have := Knot_calls 3 (some ⟨W.heap.size, 0, none⟩) 2 [⟨0, 1, 2⟩, ⟨1, 2, 0⟩] _ (two_reads W ⟨0, 1, 2⟩ ⟨1, 2, 0⟩) (by decide)
    rw [alive_Knot] at this
    exact this.mono fun e w' ⟨h1, h2⟩ => ⟨h1, below_then ((Below.refl _ W).alloc (Nat.le_refl _) _) ((Below.refl _ W).alloc (Nat.le_refl _) _).size h2⟩⟩
  have H3 : Aside0 (∀ W, Calls Tryd.prog 13 #[.int .i64 5] W fun e w' => e = .returned (.tuple #[.int .i64 236, .int .i64 0]) ∧ Below W.heap.size W w') := ⟨fun W => Count_calls 5 W⟩
  have H4 : Aside0 (∀ W, TabAt W → Calls Tryd.prog 24 #[.int .i64 4, .string ⟨#[40, 40, 40, 48, 44, 49, 41, 44, 50, 41, 44, 51, 41]⟩, .int .i64 13] W fun e w' => e = .returned (.tuple #[.string ⟨#[40, 40, 48, 44, 50, 41, 44, 51, 41]⟩, .int .i64 0]) ∧ Below W.heap.size W w') := ⟨fun W hT => by
    have := Kept_calls 4 [40, 40, 40, 48, 44, 49, 41, 44, 50, 41, 44, 51, 41] 13 W hT
    rw [alive_Kept] at this
    exact this⟩
  have H5 : Aside0 (∀ W, TabAt W → Calls Tryd.prog 42 #[.int .i64 3, .string ⟨#[40, 40, 48, 44, 49, 41, 44, 50, 41]⟩, .int .i64 0, .int .i64 1] W fun e w' => e = .returned (.tuple #[.int .i64 3, .int .i64 0]) ∧ Below W.heap.size W w') := ⟨fun W hT => by
    have := Family_calls 3 [40, 40, 48, 44, 49, 41, 44, 50, 41] 0 1 W hT
    rw [alive_Family] at this
    exact this⟩
  clear hT
  go_enter Tryd.func15, Tryd.ntmps15
  go_wp2_with (first
    | (go_at_call 17; go_must (refine (H1.out _ HT.out).mono ?_; rintro e w1 ⟨rfl, hb⟩; have HB1 := Aside0.mk hb; clear hb))
    | (go_at_call 19; go_must (refine (H2.out _).mono ?_; rintro e w2 ⟨rfl, hb⟩; have HB2 := Aside0.mk (below_then HB1.out HB1.out.size hb); clear hb))
    | (go_at_call 13; go_must (refine (H3.out _).mono ?_; rintro e w3 ⟨rfl, hb⟩; have HB3 := Aside0.mk (below_then HB2.out HB2.out.size hb); clear hb))
    | (go_at_call 24; go_must (refine (H4.out _ (HT.out.next HB3.out)).mono ?_; rintro e w4 ⟨rfl, hb⟩; have HB4 := Aside0.mk (below_then HB3.out HB3.out.size hb); clear hb))
    | (go_at_call 42; go_must (refine (H5.out _ (HT.out.next HB4.out)).mono ?_; rintro e w5 ⟨rfl, hb⟩; have HB5 := Aside0.mk (below_then HB4.out HB4.out.size hb); clear hb)))
  go_ret
  exact ⟨rfl, HB5.out⟩
end Go.Proofs.YtdbbcngmnpejnaaDoor.B

/- BreedAho, walked: it returns true. -/
namespace Go.Proofs.YtdbbcngmnpejnaaDoor.B
open Go.Proofs.YtdbbcngmnpejnaaDoor.A
open Go.RowKit Go.Proofs.YtdbbcngmnpejnaaDoorW.PrintWords Go.Proofs.YtdbbcngmnpejnaaDoorW.PrintMore
theorem strB_of (s : ByteArray) : ∃ L, strB L = s ∧ L.length = s.size := ⟨s.data.toList, by
  obtain ⟨⟨d⟩⟩ := s
  rfl, Array.length_toList⟩
end Go.Proofs.YtdbbcngmnpejnaaDoor.B

/- ref.IsTree, in, Others: what they answer; what BreedBack asks, plain. -/
namespace Go.Proofs.YtdbbcngmnpejnaaDoor.B
open Go.Proofs.YtdbbcngmnpejnaaDoor.A
open Go.RowKit Go.Proofs.YtdbbcngmnpejnaaDoorW.PrintWords Go.Proofs.YtdbbcngmnpejnaaDoorW.PrintMore
theorem RIsTree_calls (n : Int) (S : List UInt8) (hS : S.length ≤ 1000000000) (w : World) : Calls Tryd.prog 33 #[.int .i64 n, .string (strB S)] w fun e w' => e = .returned (.bool (parseE n S).isSome) ∧ Below w.heap.size w w' := by
  obtain ⟨k, hk⟩ := istree_ev n S hS
  exact drovewayref05_IsTree.calls k n _ _ w (hk k (Nat.le_refl _))
theorem in_loop (l : List S44) (x : S44) (hb : l.length ≤ 9223372036854775807) : ∀ d i : Nat, i + d = l.length → drovewaylaw05_in.l0 (d + 1) l (i : Int) x.f0 x.f1 x.f2 = some (decide (x ∈ l.drop i))
  | 0, i, h => by
    rw [drovewaylaw05_in.l0, if_neg (by omega), List.drop_of_length_le (by omega)]
    rfl
  | d + 1, i, h => by
    have hi : i < l.length := by omega
    have hw : wrap64 ((i : Int) + 1) = ((i + 1 : Nat) : Int) := by unfold wrap64; omega
    have hrd : rd_T44 l (i : Int) = l[i] := by simp only [rd_T44, Int.toNat_natCast, List.getD_eq_getElem?_getD, List.getElem?_eq_getElem hi, Option.getD_some]
    rw [drovewaylaw05_in.l0, if_pos (by omega), if_pos (by omega), hrd, hw, in_loop l x hb d (i + 1) (by omega), List.drop_eq_getElem_cons hi]
    generalize l[i] = a
    by_cases e : x = a
    · subst e
      rw [if_pos (by simp)]
      congr 1
      simp
    · have e2 := fun h => e (s44_ext.mpr h)
      rw [if_neg (by
        intro h
        simp only [Bool.and_eq_true, beq_iff_eq] at h
        exact e2 ⟨by omega, by omega, by omega⟩)]
      congr 1
      rw [decide_eq_decide, List.mem_cons]
      exact ⟨fun h => .inr h, fun h => h.resolve_left e⟩
theorem in_calls (A : Option Addr) (c : Nat) (l : List S44) (x : S44) (w : World) (hr : Kd.C k44 w A l.length l) (hc : l.length ≤ c) :
    Calls Tryd.prog 36 #[.slice A l.length c, enc44 x] w fun e w' => e = .returned (.bool (decide (x ∈ l))) ∧ Below w.heap.size w w' := by
  refine drovewaylaw05_in.calls (l.length + 1) A c l x.f0 x.f1 x.f2 (decide (x ∈ l)) w hr hc ?_
  have := in_loop l x (by have := hr.2.1; omega) l.length 0 (by omega)
  rw [List.drop_zero] at this
  exact this
/-- The two other triples of the beasts of one. -/
def othA (x : S44) : S44 := ⟨if x.f2 < x.f0 then x.f2 else x.f0, if x.f0 < x.f2 then x.f2 else x.f0, x.f1⟩
def othB (x : S44) : S44 := ⟨if x.f2 < x.f1 then x.f2 else x.f1, if x.f1 < x.f2 then x.f2 else x.f1, x.f0⟩
def encO (x : S44) : Value := .agg #[.int .i64 (othA x).f0, .int .i64 (othA x).f1, .int .i64 (othA x).f2, .int .i64 (othB x).f0, .int .i64 (othB x).f1, .int .i64 (othB x).f2]
section
attribute [local go_sem] max2_int min2_int max_two min_two
set_option maxRecDepth 100000 in
set_option maxHeartbeats 3200000 in
theorem Others_calls (x : S44) (W : World) : Calls Tryd.prog 35 #[enc44 x] W fun e w' => e = .returned (encO x) ∧ Below W.heap.size W w' := by
  obtain ⟨x0, x1, x2⟩ := x
  unfold enc44 encO othA othB
  dsimp only
  go_enter Tryd.func35, Tryd.ntmps35
  go_wp2
  all_goals
    refine bodyPost_ret ?h1 rfl ⟨rfl, ?h2⟩
    case h1 => simp [results, Tryd.results35, go_sem]
    case h2 => repeat (first | exact Below.refl _ _ | (apply below_alloc))
end
end Go.Proofs.YtdbbcngmnpejnaaDoor.B

/- BreedBack, plain and walked: it returns true. (Printed by gen_e10.py.) -/
namespace Go.Proofs.YtdbbcngmnpejnaaDoor.B
open Go.Proofs.YtdbbcngmnpejnaaDoor.A
open Go.RowKit Go.Proofs.YtdbbcngmnpejnaaDoorW.PrintWords Go.Proofs.YtdbbcngmnpejnaaDoorW.PrintMore
theorem parse_sound {n : Int} {L : List UInt8} {t : BT} (h : parseE n L = some t) : L = t.text := by
  unfold parseE at h
  split at h
  · unfold parseF at h
    cases hr : readP (2 * L.length + 1) L with
    | none => rw [hr] at h; cases h
    | some q =>
      obtain ⟨u, L'⟩ := q
      rw [hr] at h
      dsimp only at h
      split at h
      · rename_i h3
        cases h
        have := (read_sound _).1 _ _ _ hr
        rw [h3.1, List.append_nil] at this
        exact this
      · cases h
  · cases h
theorem listE_okB {n : Int} {l : List S44} (h1 : l.length ≤ 60) (h2 : ∀ t ∈ l, okTri n t = true) : listE n l = 0 := by
  unfold listE
  rw [if_neg (by omega), if_pos (List.all_eq_true.mpr h2)]
theorem askE_okB {n : Int} {l : List S44} (h : 1 ≤ n ∧ n ≤ 8) (h2 : listE n l = 0) : askE n l = 0 := by
  unfold askE
  rw [if_pos h, h2]
theorem toList_inj {a b : ByteArray} (h : a.toList = b.toList) : a = b := by
  rw [Lib.toList_data, Lib.toList_data] at h
  obtain ⟨⟨a⟩⟩ := a
  obtain ⟨⟨b⟩⟩ := b
  have h : a = b := h
  rw [h]
/-- The triples that a tree shows. -/
def trip (m : Nat) (t : BT) : List S44 := (allF m).filter (showsT t)
theorem trip_mem {m : Nat} {t : BT} {x : S44} : x ∈ trip m t ↔ okTri (m : Int) x = true ∧ showsT t x = true := by
  unfold trip
  rw [List.mem_filter, all_mem]
theorem trip_len {m : Nat} (h : m ≤ 8) (t : BT) : (trip m t).length ≤ 168 := Nat.le_trans (List.length_filter_le _ _) (all_len m h)
theorem trip_build {m : Nat} {t : BT} (hm : m ≤ 8) (hg : t.Good) (hs : t.set = 2 ^ m - 1) : buildF (trip m t) 9 (2 ^ m - 1) = some t := by
  rw [← hs]
  refine build_back (fun x hx => okTri_8 (n := (m : Int)) (by omega) (trip_mem.mp hx).1) t hg (fun x hx _ => (trip_mem.mp hx).2) (fun x h3 hlt hsub hsh => trip_mem.mpr ⟨?_, hsh⟩) 9 (by have := pcN_le t.set 8; omega)
  obtain ⟨h8, n1, n2, n3⟩ := h3
  have hbit : ∀ i, (allN x).testBit i = true → i < m := fun i hi => by
    have := hsub i hi
    rw [hs, full_bit, decide_eq_true_iff] at this
    exact this
  have ha := hbit x.a (pair_sub x _ (pair_a x))
  have hb := hbit x.b (pair_sub x _ (pair_b x))
  have hc := hbit x.c (all_c x)
  obtain ⟨p1, p2, p3⟩ := h8
  unfold S44.a at ha n1 n2
  unfold S44.b at hb n1 n3
  unfold S44.c at hc n2 n3
  unfold okTri
  simp only [Bool.and_eq_true, decide_eq_true_iff]
  omega
theorem showsB_comm (t : BT) (a b c : Nat) : showsB t a b c = showsB t b a c := by
  unfold showsB
  rw [Nat.or_comm]
theorem othA_mm {n : Int} {x : S44} (h : okTri n x = true) : (othA x).a = min x.a x.c ∧ (othA x).b = max x.a x.c ∧ (othA x).c = x.b := by
  have h1 := okTri_parts h
  unfold othA S44.a S44.b S44.c
  dsimp only
  refine ⟨?_, ?_, rfl⟩ <;> split <;> omega
theorem othB_mm {n : Int} {x : S44} (h : okTri n x = true) : (othB x).a = min x.b x.c ∧ (othB x).b = max x.b x.c ∧ (othB x).c = x.a := by
  have h1 := okTri_parts h
  unfold othB S44.a S44.b S44.c
  dsimp only
  refine ⟨?_, ?_, rfl⟩ <;> split <;> omega
theorem oth_out {m : Nat} {t : BT} (hm : m ≤ 8) (hg : t.Good) (hs : t.set = 2 ^ m - 1) {x : S44} (hx : x ∈ trip m t) : okTri (m : Int) x = true ∧ decide (othA x ∈ trip m t) = false ∧ decide (othB x ∈ trip m t) = false := by
  obtain ⟨h1, h2⟩ := trip_mem.mp hx
  obtain ⟨h8, n1, n2, n3⟩ := okTri_3 (n := (m : Int)) (by omega) h1
  have hsub := okTri_sub h1
  rw [← hs] at hsub
  have ha := hsub x.a (pair_sub x _ (pair_a x))
  have hb := hsub x.b (pair_sub x _ (pair_b x))
  have hc := hsub x.c (all_c x)
  have h2 : showsB t x.a x.b x.c = true := h2
  have o1 := shows_once t hg _ _ _ ha hb hc n1 n2 n3 h2
  have o2 := shows_once t hg _ _ _ hb ha hc (Ne.symm n1) n3 n2 (by rw [showsB_comm]; exact h2)
  refine ⟨h1, decide_eq_false fun h => ?_, decide_eq_false fun h => ?_⟩
  · have h3 : shows3 t (othA x) = true := (trip_mem.mp h).2
    obtain ⟨e1, e2, e3⟩ := othA_mm h1
    rw [shows3_mm e1 e2 e3, o1] at h3; cases h3
  · have h3 : shows3 t (othB x) = true := (trip_mem.mp h).2
    obtain ⟨e1, e2, e3⟩ := othB_mm h1
    rw [shows3_mm e1 e2 e3, o2] at h3; cases h3
theorem trip_one {m : Nat} {t u : BT} (hm : m ≤ 8) (hg : t.Good) (hs : t.set = 2 ^ m - 1) (hg2 : u.Good) (hs2 : u.set = 2 ^ m - 1) (h : trip m t = trip m u) : t = u := by
  have h1 := trip_build hm hg hs
  rw [h, trip_build hm hg2 hs2] at h1
  exact (Option.some.inj h1).symm

set_option maxRecDepth 100000 in
set_option maxHeartbeats 12800000 in
theorem back_any (n : Int) (sa sb : ByteArray) (W : World) (hT : TabAt W) :
    Calls Tryd.prog 9 #[.int .i64 n, .string sa, .string sb] W fun e w' => e = .returned (.bool true) ∧ Below W.heap.size W w' := by
  obtain ⟨La, hLa, hlA⟩ := strB_of sa
  obtain ⟨Lb, hLb, hlB⟩ := strB_of sb
  have HT := Aside0.mk hT
  have HFW : Aside0 (∀ (s : ByteArray) w, Calls Tryd.prog 16 #[.slice none 0 0, .string s] w fun e w' => e = .returned (.bool (decide (s.size ≤ 100))) ∧ Below w.heap.size w w') := ⟨fun s w => by
    have h := few_calls none 0 [] s w (Kd.C_nil k44 w) (Nat.le_refl _)
    rw [show decide (([] : List S44).length ≤ 100 ∧ s.size ≤ 100) = decide (s.size ≤ 100) by rw [decide_eq_decide]; simp] at h
    exact h⟩
  have HFA := Aside0.mk (HFW.out sa)
  have HFB := Aside0.mk (HFW.out sb)
  have HAL : Aside0 (∀ w, Below W.heap.size W w → Calls Tryd.prog 15 #[] w fun e w' => e = .returned (.bool true) ∧ Below w.heap.size w w') := ⟨fun w hb => alive_calls w (HT.out.next hb)⟩
  have HB : Aside0 (Below W.heap.size W W) := ⟨Below.refl _ _⟩
  clear HFW
  by_cases a1 : sa.size ≤ 100
  · rw [decide_eq_true a1] at HFA
    by_cases a2 : sb.size ≤ 100
    · rw [decide_eq_true a2] at HFB
      have HIA : Aside0 (∀ w, Calls Tryd.prog 33 #[.int .i64 n, .string sa] w fun e w' => e = .returned (.bool (parseE n La).isSome) ∧ Below w.heap.size w w') := ⟨fun w => by rw [← hLa]; exact RIsTree_calls n La (by omega) w⟩
      have HIB : Aside0 (∀ w, Calls Tryd.prog 33 #[.int .i64 n, .string sb] w fun e w' => e = .returned (.bool (parseE n Lb).isSome) ∧ Below w.heap.size w w') := ⟨fun w => by rw [← hLb]; exact RIsTree_calls n Lb (by omega) w⟩
      cases hpa : parseE n La with
      | none =>
        rw [hpa] at HIA
        have HIA2 : Aside0 (∀ w, Calls Tryd.prog 33 #[.int .i64 n, .string sa] w fun e w' => e = .returned (.bool false) ∧ Below w.heap.size w w') := ⟨HIA.out⟩
        clear hT HIA HIB hLa hLb hpa a1 a2
        go_enter Tryd.func9, Tryd.ntmps9
        go_wp2_with (first
          | (go_at_call 16; first | ((with_reducible refine (HFA.out _).mono ?_); rintro e w1 ⟨rfl, hb⟩; replace HB := Aside0.mk (below_then HB.out HB.out.size hb); clear hb) | ((with_reducible refine (HFB.out _).mono ?_); rintro e w1 ⟨rfl, hb⟩; replace HB := Aside0.mk (below_then HB.out HB.out.size hb); clear hb))
          | (go_at_call 33; go_must (refine (HIA2.out _).mono ?_; rintro e w1 ⟨rfl, hb⟩; replace HB := Aside0.mk (below_then HB.out HB.out.size hb); clear hb))
          | (go_at_call 15; go_must (refine (HAL.out _ HB.out).mono ?_; rintro e w1 ⟨rfl, hb⟩; replace HB := Aside0.mk (below_then HB.out HB.out.size hb); clear hb)))
        go_ret
        exact ⟨rfl, HB.out⟩
      | some ta =>
        rw [hpa] at HIA
        obtain ⟨hn1, hn8, hga, hsa⟩ := parseE_good hpa
        obtain ⟨m, rfl⟩ : ∃ m : Nat, n = m := ⟨n.toNat, by omega⟩
        rw [Int.toNat_natCast] at hsa
        have hm8 : m ≤ 8 := by omega
        have hta : sa = strB ta.text := by rw [← hLa, parse_sound hpa]
        have HIA2 : Aside0 (∀ w, Calls Tryd.prog 33 #[.int .i64 m, .string sa] w fun e w' => e = .returned (.bool true) ∧ Below w.heap.size w w') := ⟨HIA.out⟩
        have HTA : Aside0 (∀ w, Below W.heap.size W w → Calls Tryd.prog 34 #[.int .i64 m, .string sa] w (RowT (trip m ta, 0) w)) := ⟨fun w hb => by
          have h := Triples_calls m La w (HT.out.next hb)
          unfold triplesE at h
          rw [hpa, hLa, Int.toNat_natCast] at h
          exact h⟩
        have HBD : Aside0 (∀ w A c, Below W.heap.size W w → (trip m ta).length ≤ c → Kd.C k44 w A (trip m ta).length (trip m ta) → (trip m ta).length ≤ 60 → Calls Tryd.prog 17 #[.int .i64 m, .slice A (trip m ta).length c] w fun e w' => e = .returned (.tuple #[.string sa, .int .i64 0]) ∧ Below w.heap.size w w') := ⟨fun w A c hb hc hC h60 => by
          have h := Build_calls m A c (trip m ta) w hC hc (HT.out.next hb)
          have he : buildE m (trip m ta) = (sa, 0) := by
            unfold buildE
            rw [if_pos (askE_okB ⟨hn1, hn8⟩ (listE_okB h60 fun x hx => (trip_mem.mp hx).1)), Int.toNat_natCast, trip_build hm8 hga hsa, hta]
          rw [he] at h
          exact h⟩
        have HOT : Aside0 (∀ x ∈ trip m ta, okTri (m : Int) x = true ∧ decide (othA x ∈ trip m ta) = false ∧ decide (othB x ∈ trip m ta) = false) := ⟨fun x hx => oth_out hm8 hga hsa hx⟩
        have hlen := trip_len hm8 ta
        have HU : Aside0 ((parseE m Lb = none ∧ (∀ w, Below W.heap.size W w → Calls Tryd.prog 34 #[.int .i64 m, .string sb] w (RowT ([], 5) w)) ∧ ∀ w, Calls Tryd.prog 33 #[.int .i64 m, .string sb] w fun e w' => e = .returned (.bool false) ∧ Below w.heap.size w w') ∨
          ∃ us : List S44, (∀ w, Below W.heap.size W w → Calls Tryd.prog 34 #[.int .i64 m, .string sb] w (RowT (us, 0) w)) ∧ us.length ≤ 168 ∧ decide (trip m ta = us) = decide (sa = sb)) := ⟨by
          cases hpb : parseE m Lb with
          | none =>
            left
            rw [hpb] at HIB
            refine ⟨rfl, fun w hb => ?_, HIB.out⟩
            have h := Triples_calls m Lb w (HT.out.next hb)
            unfold triplesE errT at h
            rw [hpb, hLb, if_pos ⟨hn1, hn8⟩] at h
            exact h
          | some tb =>
            right
            obtain ⟨_, _, hgb, hsb⟩ := parseE_good hpb
            rw [Int.toNat_natCast] at hsb
            refine ⟨trip m tb, fun w hb => ?_, trip_len hm8 tb, ?_⟩
            · have h := Triples_calls m Lb w (HT.out.next hb)
              unfold triplesE at h
              rw [hpb, hLb, Int.toNat_natCast] at h
              exact h
            · rw [decide_eq_decide]
              have htb : sb = strB tb.text := by rw [← hLb, parse_sound hpb]
              constructor
              · intro h
                rw [hta, htb, trip_one hm8 hga hsa hgb hsb h]
              · intro h
                have h2 : La = Lb := by
                  have h3 := hLa.trans (h.trans hLb.symm)
                  injection h3 with h3
                  exact congrArg Array.toList h3
                rw [h2, hpb] at hpa
                cases hpa
                rfl⟩
        generalize trip m ta = ts at HTA HBD HOT HU hlen
        unfold RowT at HTA HU
        dsimp only at HTA HU
        clear hT HIA HIB hLa hLb hpa a1 a2 hta hga hsa
        go_enter Tryd.func9, Tryd.ntmps9
        go_upto_region 6 with (first
          | (go_at_call 16; first | ((with_reducible refine (HFA.out _).mono ?_); rintro e w1 ⟨rfl, hb⟩; replace HB := Aside0.mk (below_then HB.out HB.out.size hb); clear hb) | ((with_reducible refine (HFB.out _).mono ?_); rintro e w1 ⟨rfl, hb⟩; replace HB := Aside0.mk (below_then HB.out HB.out.size hb); clear hb))
          | (go_at_call 33; go_must (refine (HIA2.out _).mono ?_; rintro e w1 ⟨rfl, hb⟩; replace HB := Aside0.mk (below_then HB.out HB.out.size hb); clear hb))
          | (go_at_call 34; go_must (refine (HTA.out _ HB.out).mono ?_; rintro e wt ⟨v7, rfl, hR, hb⟩; obtain ⟨A7, c7, rfl, hc7, hC7⟩ := Kd.R_reads hR; have HC7 := Aside0.mk hC7; have HCC7 := Aside0.mk hc7; replace HB := Aside0.mk (below_then HB.out HB.out.size hb); clear hb; clear hR hC7 hc7)))
        have HW := HB
        have HK : Aside0 (Below wt.heap.size wt wt) := ⟨Below.refl _ _⟩
        clear HB
        obtain ⟨len, hle⟩ : ∃ len, ts.length = len := ⟨_, rfl⟩
        have HLE := Aside0.mk hle
        rw [hle] at HC7 HCC7 HBD hlen ⊢
        clear hle
        by_cases h60 : len ≤ 60
        · have h60z : (len : Int) ≤ 60 := by omega
          go_upto_region 11 with (go_at_call 17; go_must (refine (HBD.out _ A7 c7 (below_then HW.out HW.out.size HK.out) HCC7.out (Kd.C_below HC7.out HK.out) h60).mono ?_; rintro e w1 ⟨rfl, hb⟩; replace HK := Aside0.mk (HK.out.trans (hb.mono HK.out.size)); clear hb))
          go_loopg [11, 12] len (fun gg v11 _ wr => ∃ k : Nat, k ≤ len ∧ len - k ≤ gg ∧ v11 = .int .i64 (k : Int) ∧ Aside0 (Below wt.heap.size wt wr))
          case atStart => exact ⟨0, Nat.zero_le _, by omega, rfl, HK⟩
          case round =>
            clear HK
            obtain ⟨k, hk, hgg, rfl, HK⟩ := hrel
            by_cases hkm : k < len
            · have hkz : (k : Int) < (len : Int) := by omega
              obtain ⟨ad, had, hx0, hx1, hx2⟩ := at_T44 (Kd.C_below HC7.out HK.out) (k : Int) (by omega) (by omega)
              subst had
              rw [Int.toNat_natCast] at hx0 hx1 hx2
              have hrd : rd_T44 ts (k : Int) = ts.getD k z44 := by simp only [rd_T44, Int.toNat_natCast]
              have hmem : ts.getD k z44 ∈ ts := getD_mem z44 (by rw [HLE.out]; exact hkm)
              rw [hrd] at hx0 hx1 hx2
              generalize ts.getD k z44 = x at hx0 hx1 hx2 hmem
              obtain ⟨q1, q2, q3⟩ := HOT.out x hmem
              have HI : Aside0 (∀ w, Calls Tryd.prog 31 #[.int .i64 m, enc44 x] w fun e w' => e = .returned (.bool true) ∧ Below w.heap.size w w') := ⟨fun w => by rw [← q1]; exact IsTriple_calls m x w⟩
              have HO : Aside0 (∀ w, Calls Tryd.prog 35 #[enc44 x] w fun e w' => e = .returned (encO x) ∧ Below w.heap.size w w') := ⟨fun w => Others_calls x w⟩
              have HIN : Aside0 (∀ y w, decide (y ∈ ts) = false → Below wt.heap.size wt w → Calls Tryd.prog 36 #[.slice (some ad) len c7, enc44 y] w fun e w' => e = .returned (.bool false) ∧ Below w.heap.size w w') := ⟨fun y w h hb => by
                have h2 := in_calls (some ad) c7 ts y w (by rw [HLE.out]; exact Kd.C_below HC7.out hb) (by rw [HLE.out]; exact HCC7.out)
                rw [h, HLE.out] at h2
                exact h2⟩
              have HI1 := Aside0.mk (fun w hb => HIN.out (othA x) w q2 hb)
              have HI2 := Aside0.mk (fun w hb => HIN.out (othB x) w q3 hb)
              clear HIN hrd hmem q1 q2 q3
              unfold encO at HO
              generalize othA x = ya at HO HI1
              generalize othB x = yb at HO HI2
              obtain ⟨x0, x1, x2⟩ := x
              obtain ⟨a0, a1, a2⟩ := ya
              obtain ⟨b0, b1, b2⟩ := yb
              unfold enc44 at HI HO HI1 HI2
              dsimp only at HI HO HI1 HI2 hx0 hx1 hx2
              go_upto_region 15 with (go_at_call 31; go_must (refine (HI.out _).mono ?_; rintro e w1 ⟨rfl, hb⟩; have z0 := pw_cell_below hb hx0; have z1 := pw_cell_below hb hx1; have z2 := pw_cell_below hb hx2; clear hx0 hx1 hx2; replace HK := Aside0.mk (HK.out.trans (hb.mono HK.out.size)); clear hb))
              go_upto_region 16 with (go_at_call 35; go_must (refine (HO.out _).mono ?_; rintro e w2 ⟨rfl, hb⟩; clear z0 z1 z2; replace HK := Aside0.mk (HK.out.trans (hb.mono HK.out.size)); clear hb))
              have HNEW : Aside0 ((w2.alloc (.cells #[.int .i64 a0, .int .i64 a1, .int .i64 a2, .int .i64 b0, .int .i64 b1, .int .i64 b2] 52)).heap[w2.heap.size]? = some (.cells #[.int .i64 a0, .int .i64 a1, .int .i64 a2, .int .i64 b0, .int .i64 b1, .int .i64 b2] 52 (0, 0))) := ⟨heap_alloc_new w2 _⟩
              replace HK : Aside0 (Below wt.heap.size wt (w2.alloc (.cells #[.int .i64 a0, .int .i64 a1, .int .i64 a2, .int .i64 b0, .int .i64 b1, .int .i64 b2] 52))) := ⟨below_alloc HK.out _⟩
              generalize w2.alloc (.cells #[.int .i64 a0, .int .i64 a1, .int .i64 a2, .int .i64 b0, .int .i64 b1, .int .i64 b2] 52) = w3 at HNEW HK ⊢
              generalize w2.heap.size = nb at HNEW ⊢
              have d0 : w3.cell? ⟨nb, 0, none⟩ = some (.int .i64 a0) := blk_cell HNEW.out 0; have d1 : w3.cell? ⟨nb, 1, none⟩ = some (.int .i64 a1) := blk_cell HNEW.out 1; have d2 : w3.cell? ⟨nb, 2, none⟩ = some (.int .i64 a2) := blk_cell HNEW.out 2; have d3 : w3.cell? ⟨nb, 3, none⟩ = some (.int .i64 b0) := blk_cell HNEW.out 3; have d4 : w3.cell? ⟨nb, 4, none⟩ = some (.int .i64 b1) := blk_cell HNEW.out 4; have d5 : w3.cell? ⟨nb, 5, none⟩ = some (.int .i64 b2) := blk_cell HNEW.out 5
              go_wp2_with (go_at_call 36; first
                | ((with_reducible refine (HI1.out _ HK.out).mono ?_); rintro e w4 ⟨rfl, hb⟩; replace HNEW := Aside0.mk ((hb.block nb (YtdbbcngmnpejnaaDoorW.PrintWords.blk_lt HNEW.out)).trans HNEW.out); clear d0 d1 d2 d3 d4 d5; have d0 : w4.cell? ⟨nb, 0, none⟩ = some (.int .i64 a0) := blk_cell HNEW.out 0; have d1 : w4.cell? ⟨nb, 1, none⟩ = some (.int .i64 a1) := blk_cell HNEW.out 1; have d2 : w4.cell? ⟨nb, 2, none⟩ = some (.int .i64 a2) := blk_cell HNEW.out 2; have d3 : w4.cell? ⟨nb, 3, none⟩ = some (.int .i64 b0) := blk_cell HNEW.out 3; have d4 : w4.cell? ⟨nb, 4, none⟩ = some (.int .i64 b1) := blk_cell HNEW.out 4; have d5 : w4.cell? ⟨nb, 5, none⟩ = some (.int .i64 b2) := blk_cell HNEW.out 5; replace HK := Aside0.mk (HK.out.trans (hb.mono HK.out.size)); clear hb)
                | ((with_reducible refine (HI2.out _ HK.out).mono ?_); rintro e w5 ⟨rfl, hb⟩; replace HK := Aside0.mk (HK.out.trans (hb.mono HK.out.size)); clear hb))
              go_roundg (len - (k + 1))
              case measure => omega
              case rel => exact ⟨k + 1, by omega, by omega, by go_num, HK⟩
            · have hkz : ¬ (k : Int) < (len : Int) := by omega
              rcases HU.out with ⟨_, hu, hi⟩ | ⟨us, hu, hul, hue⟩
              · have HU2 := Aside0.mk hu
                have HI2 := Aside0.mk hi
                clear HU hu hi
                go_wp2_with (first
                  | (go_at_call 34; go_must (refine (HU2.out _ (below_then HW.out HW.out.size HK.out)).mono ?_; rintro e w1 ⟨v13, rfl, hR, hb⟩; clear hR; replace HK := Aside0.mk (HK.out.trans (hb.mono HK.out.size)); clear hb))
                  | (go_at_call 33; go_must (refine (HI2.out _).mono ?_; rintro e w1 ⟨rfl, hb⟩; replace HK := Aside0.mk (HK.out.trans (hb.mono HK.out.size)); clear hb))
                  | (go_at_call 15; go_must (refine (HAL.out _ (below_then HW.out HW.out.size HK.out)).mono ?_; rintro e w1 ⟨rfl, hb⟩; replace HK := Aside0.mk (HK.out.trans (hb.mono HK.out.size)); clear hb)))
                go_ret
                exact ⟨rfl, (below_then HW.out HW.out.size HK.out)⟩
              · have HU2 := Aside0.mk hu
                have HSM : Aside0 (∀ w A c, Below wt.heap.size wt w → us.length ≤ c → Kd.C k44 w A us.length us → Calls Tryd.prog 23 #[.slice A7 len c7, .slice A us.length c] w fun e w' => e = .returned (.bool (decide (sa = sb))) ∧ Below w.heap.size w w') := ⟨fun w A c hb hc hC => by
                  have h := same_calls A7 c7 ts A c us w (by rw [HLE.out]; exact Kd.C_below HC7.out hb) (by rw [HLE.out]; exact HCC7.out) hC hc
                  rw [hue, HLE.out] at h
                  exact h⟩
                clear HU hu hue
                by_cases hss : sa = sb
                · rw [decide_eq_true hss] at HSM
                  subst hss
                  go_wp2_with (first
                    | (go_at_call 34; go_must (refine (HU2.out _ (below_then HW.out HW.out.size HK.out)).mono ?_; rintro e w1 ⟨v13, rfl, hR, hb⟩; obtain ⟨A13, c13, rfl, hc13, hC13⟩ := Kd.R_reads hR; have HC13 := Aside0.mk hC13; have HCC13 := Aside0.mk hc13; clear hR hC13 hc13; replace HK := Aside0.mk (HK.out.trans (hb.mono HK.out.size)); clear hb))
                    | (go_at_call 23; go_must (refine (HSM.out _ A13 c13 HK.out HCC13.out HC13.out).mono ?_; rintro e w1 ⟨rfl, hb⟩; replace HK := Aside0.mk (HK.out.trans (hb.mono HK.out.size)); clear hb))
                    | (go_at_call 15; go_must (refine (HAL.out _ (below_then HW.out HW.out.size HK.out)).mono ?_; rintro e w1 ⟨rfl, hb⟩; replace HK := Aside0.mk (HK.out.trans (hb.mono HK.out.size)); clear hb)))
                  all_goals
                    go_ret
                  exact ⟨rfl, (below_then HW.out HW.out.size HK.out)⟩
                · rw [decide_eq_false hss] at HSM
                  have hssl : (sa.toList == sb.toList) = false := beq_eq_false_iff_ne.mpr fun h => hss (toList_inj h)
                  go_wp2_with (first
                    | (go_at_call 34; go_must (refine (HU2.out _ (below_then HW.out HW.out.size HK.out)).mono ?_; rintro e w1 ⟨v13, rfl, hR, hb⟩; obtain ⟨A13, c13, rfl, hc13, hC13⟩ := Kd.R_reads hR; have HC13 := Aside0.mk hC13; have HCC13 := Aside0.mk hc13; clear hR hC13 hc13; replace HK := Aside0.mk (HK.out.trans (hb.mono HK.out.size)); clear hb))
                    | (go_at_call 23; go_must (refine (HSM.out _ A13 c13 HK.out HCC13.out HC13.out).mono ?_; rintro e w1 ⟨rfl, hb⟩; replace HK := Aside0.mk (HK.out.trans (hb.mono HK.out.size)); clear hb))
                    | (go_at_call 15; go_must (refine (HAL.out _ (below_then HW.out HW.out.size HK.out)).mono ?_; rintro e w1 ⟨rfl, hb⟩; replace HK := Aside0.mk (HK.out.trans (hb.mono HK.out.size)); clear hb)))
                  all_goals
                    go_ret
                  exact ⟨rfl, (below_then HW.out HW.out.size HK.out)⟩
        · have h60z : ¬ (len : Int) ≤ 60 := by omega
          clear HBD
          go_upto_region 11 with fail
          go_loopg [11, 12] len (fun gg v11 _ wr => ∃ k : Nat, k ≤ len ∧ len - k ≤ gg ∧ v11 = .int .i64 (k : Int) ∧ Aside0 (Below wt.heap.size wt wr))
          case atStart => exact ⟨0, Nat.zero_le _, by omega, rfl, HK⟩
          case round =>
            clear HK
            obtain ⟨k, hk, hgg, rfl, HK⟩ := hrel
            by_cases hkm : k < len
            · have hkz : (k : Int) < (len : Int) := by omega
              obtain ⟨ad, had, hx0, hx1, hx2⟩ := at_T44 (Kd.C_below HC7.out HK.out) (k : Int) (by omega) (by omega)
              subst had
              rw [Int.toNat_natCast] at hx0 hx1 hx2
              have hrd : rd_T44 ts (k : Int) = ts.getD k z44 := by simp only [rd_T44, Int.toNat_natCast]
              have hmem : ts.getD k z44 ∈ ts := getD_mem z44 (by rw [HLE.out]; exact hkm)
              rw [hrd] at hx0 hx1 hx2
              generalize ts.getD k z44 = x at hx0 hx1 hx2 hmem
              obtain ⟨q1, q2, q3⟩ := HOT.out x hmem
              have HI : Aside0 (∀ w, Calls Tryd.prog 31 #[.int .i64 m, enc44 x] w fun e w' => e = .returned (.bool true) ∧ Below w.heap.size w w') := ⟨fun w => by rw [← q1]; exact IsTriple_calls m x w⟩
              have HO : Aside0 (∀ w, Calls Tryd.prog 35 #[enc44 x] w fun e w' => e = .returned (encO x) ∧ Below w.heap.size w w') := ⟨fun w => Others_calls x w⟩
              have HIN : Aside0 (∀ y w, decide (y ∈ ts) = false → Below wt.heap.size wt w → Calls Tryd.prog 36 #[.slice (some ad) len c7, enc44 y] w fun e w' => e = .returned (.bool false) ∧ Below w.heap.size w w') := ⟨fun y w h hb => by
                have h2 := in_calls (some ad) c7 ts y w (by rw [HLE.out]; exact Kd.C_below HC7.out hb) (by rw [HLE.out]; exact HCC7.out)
                rw [h, HLE.out] at h2
                exact h2⟩
              have HI1 := Aside0.mk (fun w hb => HIN.out (othA x) w q2 hb)
              have HI2 := Aside0.mk (fun w hb => HIN.out (othB x) w q3 hb)
              clear HIN hrd hmem q1 q2 q3
              unfold encO at HO
              generalize othA x = ya at HO HI1
              generalize othB x = yb at HO HI2
              obtain ⟨x0, x1, x2⟩ := x
              obtain ⟨a0, a1, a2⟩ := ya
              obtain ⟨b0, b1, b2⟩ := yb
              unfold enc44 at HI HO HI1 HI2
              dsimp only at HI HO HI1 HI2 hx0 hx1 hx2
              go_upto_region 15 with (go_at_call 31; go_must (refine (HI.out _).mono ?_; rintro e w1 ⟨rfl, hb⟩; have z0 := pw_cell_below hb hx0; have z1 := pw_cell_below hb hx1; have z2 := pw_cell_below hb hx2; clear hx0 hx1 hx2; replace HK := Aside0.mk (HK.out.trans (hb.mono HK.out.size)); clear hb))
              go_upto_region 16 with (go_at_call 35; go_must (refine (HO.out _).mono ?_; rintro e w2 ⟨rfl, hb⟩; clear z0 z1 z2; replace HK := Aside0.mk (HK.out.trans (hb.mono HK.out.size)); clear hb))
              have HNEW : Aside0 ((w2.alloc (.cells #[.int .i64 a0, .int .i64 a1, .int .i64 a2, .int .i64 b0, .int .i64 b1, .int .i64 b2] 52)).heap[w2.heap.size]? = some (.cells #[.int .i64 a0, .int .i64 a1, .int .i64 a2, .int .i64 b0, .int .i64 b1, .int .i64 b2] 52 (0, 0))) := ⟨heap_alloc_new w2 _⟩
              replace HK : Aside0 (Below wt.heap.size wt (w2.alloc (.cells #[.int .i64 a0, .int .i64 a1, .int .i64 a2, .int .i64 b0, .int .i64 b1, .int .i64 b2] 52))) := ⟨below_alloc HK.out _⟩
              generalize w2.alloc (.cells #[.int .i64 a0, .int .i64 a1, .int .i64 a2, .int .i64 b0, .int .i64 b1, .int .i64 b2] 52) = w3 at HNEW HK ⊢
              generalize w2.heap.size = nb at HNEW ⊢
              have d0 : w3.cell? ⟨nb, 0, none⟩ = some (.int .i64 a0) := blk_cell HNEW.out 0; have d1 : w3.cell? ⟨nb, 1, none⟩ = some (.int .i64 a1) := blk_cell HNEW.out 1; have d2 : w3.cell? ⟨nb, 2, none⟩ = some (.int .i64 a2) := blk_cell HNEW.out 2; have d3 : w3.cell? ⟨nb, 3, none⟩ = some (.int .i64 b0) := blk_cell HNEW.out 3; have d4 : w3.cell? ⟨nb, 4, none⟩ = some (.int .i64 b1) := blk_cell HNEW.out 4; have d5 : w3.cell? ⟨nb, 5, none⟩ = some (.int .i64 b2) := blk_cell HNEW.out 5
              go_wp2_with (go_at_call 36; first
                | ((with_reducible refine (HI1.out _ HK.out).mono ?_); rintro e w4 ⟨rfl, hb⟩; replace HNEW := Aside0.mk ((hb.block nb (YtdbbcngmnpejnaaDoorW.PrintWords.blk_lt HNEW.out)).trans HNEW.out); clear d0 d1 d2 d3 d4 d5; have d0 : w4.cell? ⟨nb, 0, none⟩ = some (.int .i64 a0) := blk_cell HNEW.out 0; have d1 : w4.cell? ⟨nb, 1, none⟩ = some (.int .i64 a1) := blk_cell HNEW.out 1; have d2 : w4.cell? ⟨nb, 2, none⟩ = some (.int .i64 a2) := blk_cell HNEW.out 2; have d3 : w4.cell? ⟨nb, 3, none⟩ = some (.int .i64 b0) := blk_cell HNEW.out 3; have d4 : w4.cell? ⟨nb, 4, none⟩ = some (.int .i64 b1) := blk_cell HNEW.out 4; have d5 : w4.cell? ⟨nb, 5, none⟩ = some (.int .i64 b2) := blk_cell HNEW.out 5; replace HK := Aside0.mk (HK.out.trans (hb.mono HK.out.size)); clear hb)
                | ((with_reducible refine (HI2.out _ HK.out).mono ?_); rintro e w5 ⟨rfl, hb⟩; replace HK := Aside0.mk (HK.out.trans (hb.mono HK.out.size)); clear hb))
              go_roundg (len - (k + 1))
              case measure => omega
              case rel => exact ⟨k + 1, by omega, by omega, by go_num, HK⟩
            · have hkz : ¬ (k : Int) < (len : Int) := by omega
              rcases HU.out with ⟨_, hu, hi⟩ | ⟨us, hu, hul, hue⟩
              · have HU2 := Aside0.mk hu
                have HI2 := Aside0.mk hi
                clear HU hu hi
                go_wp2_with (first
                  | (go_at_call 34; go_must (refine (HU2.out _ (below_then HW.out HW.out.size HK.out)).mono ?_; rintro e w1 ⟨v13, rfl, hR, hb⟩; clear hR; replace HK := Aside0.mk (HK.out.trans (hb.mono HK.out.size)); clear hb))
                  | (go_at_call 33; go_must (refine (HI2.out _).mono ?_; rintro e w1 ⟨rfl, hb⟩; replace HK := Aside0.mk (HK.out.trans (hb.mono HK.out.size)); clear hb))
                  | (go_at_call 15; go_must (refine (HAL.out _ (below_then HW.out HW.out.size HK.out)).mono ?_; rintro e w1 ⟨rfl, hb⟩; replace HK := Aside0.mk (HK.out.trans (hb.mono HK.out.size)); clear hb)))
                go_ret
                exact ⟨rfl, (below_then HW.out HW.out.size HK.out)⟩
              · have HU2 := Aside0.mk hu
                have HSM : Aside0 (∀ w A c, Below wt.heap.size wt w → us.length ≤ c → Kd.C k44 w A us.length us → Calls Tryd.prog 23 #[.slice A7 len c7, .slice A us.length c] w fun e w' => e = .returned (.bool (decide (sa = sb))) ∧ Below w.heap.size w w') := ⟨fun w A c hb hc hC => by
                  have h := same_calls A7 c7 ts A c us w (by rw [HLE.out]; exact Kd.C_below HC7.out hb) (by rw [HLE.out]; exact HCC7.out) hC hc
                  rw [hue, HLE.out] at h
                  exact h⟩
                clear HU hu hue
                by_cases hss : sa = sb
                · rw [decide_eq_true hss] at HSM
                  subst hss
                  go_wp2_with (first
                    | (go_at_call 34; go_must (refine (HU2.out _ (below_then HW.out HW.out.size HK.out)).mono ?_; rintro e w1 ⟨v13, rfl, hR, hb⟩; obtain ⟨A13, c13, rfl, hc13, hC13⟩ := Kd.R_reads hR; have HC13 := Aside0.mk hC13; have HCC13 := Aside0.mk hc13; clear hR hC13 hc13; replace HK := Aside0.mk (HK.out.trans (hb.mono HK.out.size)); clear hb))
                    | (go_at_call 23; go_must (refine (HSM.out _ A13 c13 HK.out HCC13.out HC13.out).mono ?_; rintro e w1 ⟨rfl, hb⟩; replace HK := Aside0.mk (HK.out.trans (hb.mono HK.out.size)); clear hb))
                    | (go_at_call 15; go_must (refine (HAL.out _ (below_then HW.out HW.out.size HK.out)).mono ?_; rintro e w1 ⟨rfl, hb⟩; replace HK := Aside0.mk (HK.out.trans (hb.mono HK.out.size)); clear hb)))
                  all_goals
                    go_ret
                  exact ⟨rfl, (below_then HW.out HW.out.size HK.out)⟩
                · rw [decide_eq_false hss] at HSM
                  have hssl : (sa.toList == sb.toList) = false := beq_eq_false_iff_ne.mpr fun h => hss (toList_inj h)
                  go_wp2_with (first
                    | (go_at_call 34; go_must (refine (HU2.out _ (below_then HW.out HW.out.size HK.out)).mono ?_; rintro e w1 ⟨v13, rfl, hR, hb⟩; obtain ⟨A13, c13, rfl, hc13, hC13⟩ := Kd.R_reads hR; have HC13 := Aside0.mk hC13; have HCC13 := Aside0.mk hc13; clear hR hC13 hc13; replace HK := Aside0.mk (HK.out.trans (hb.mono HK.out.size)); clear hb))
                    | (go_at_call 23; go_must (refine (HSM.out _ A13 c13 HK.out HCC13.out HC13.out).mono ?_; rintro e w1 ⟨rfl, hb⟩; replace HK := Aside0.mk (HK.out.trans (hb.mono HK.out.size)); clear hb))
                    | (go_at_call 15; go_must (refine (HAL.out _ (below_then HW.out HW.out.size HK.out)).mono ?_; rintro e w1 ⟨rfl, hb⟩; replace HK := Aside0.mk (HK.out.trans (hb.mono HK.out.size)); clear hb)))
                  all_goals
                    go_ret
                  exact ⟨rfl, (below_then HW.out HW.out.size HK.out)⟩
    · rw [decide_eq_false a2] at HFB
      clear hT hLa hLb a1 a2
      go_enter Tryd.func9, Tryd.ntmps9
      go_wp2_with (first
        | (go_at_call 16; first | ((with_reducible refine (HFA.out _).mono ?_); rintro e w1 ⟨rfl, hb⟩; replace HB := Aside0.mk (below_then HB.out HB.out.size hb); clear hb) | ((with_reducible refine (HFB.out _).mono ?_); rintro e w1 ⟨rfl, hb⟩; replace HB := Aside0.mk (below_then HB.out HB.out.size hb); clear hb))
        | (go_at_call 15; go_must (refine (HAL.out _ HB.out).mono ?_; rintro e w1 ⟨rfl, hb⟩; replace HB := Aside0.mk (below_then HB.out HB.out.size hb); clear hb)))
      go_ret
      exact ⟨rfl, HB.out⟩
  · rw [decide_eq_false a1] at HFA
    clear hT hLa hLb a1
    go_enter Tryd.func9, Tryd.ntmps9
    go_wp2_with (first
      | (go_at_call 16; first | ((with_reducible refine (HFA.out _).mono ?_); rintro e w1 ⟨rfl, hb⟩; replace HB := Aside0.mk (below_then HB.out HB.out.size hb); clear hb) | ((with_reducible refine (HFB.out _).mono ?_); rintro e w1 ⟨rfl, hb⟩; replace HB := Aside0.mk (below_then HB.out HB.out.size hb); clear hb))
      | (go_at_call 15; go_must (refine (HAL.out _ HB.out).mono ?_; rintro e w1 ⟨rfl, hb⟩; replace HB := Aside0.mk (below_then HB.out HB.out.size hb); clear hb)))
    go_ret
    exact ⟨rfl, HB.out⟩
end Go.Proofs.YtdbbcngmnpejnaaDoor.B

/- What the laid variables give the walks: the table of math/bits lies; and the door's own heap meets the condition. -/
namespace Go.Proofs.YtdbbcngmnpejnaaDoor.B
open Go.Proofs.YtdbbcngmnpejnaaDoor.A
open Go Go.ChangeShapes Go.WideShapes Go.ChangeAt Go.RowKit
def laidB : List (String × DataW Unit) := [("math/bits.deBruijn32tab", Rows.laid_math_bits_deBruijn32tab), ("math/bits.deBruijn64tab", Rows.laid_math_bits_deBruijn64tab)]
theorem gTab : Tryd.prog.globalNamed "math/bits.deBruijn64tab" = some 1 := by kernel_rfl
theorem tTab : (Tryd.prog.globals[1]?).map (·.type) = some 150 := by kernel_rfl
theorem uTab : Tryd.prog.underlying 150 = some (.array 64 5) := Tryd.underlying150
theorem uU8 : Tryd.prog.underlying 5 = some (.int .u8) := Tryd.underlying5
theorem cU8 : Tryd.prog.cellsOf 5 = 1 := by kernel_rfl
/-- The door's own heap meets the condition. -/
theorem door_met (os : Os) (args : Array Value) : laidMetH Tryd.prog laidB ((World.doorLaid Tryd.prog 24 os).forCall (fun _ _ => 0) ⟨#[], args, []⟩).memory :=
  laidMetH_of_parts3 (fuel := 8) (laidMet_of_run' 8 (by kernel_rfl) (by kernel_rfl)) (by kernel_rfl) (by kernel_rfl)
theorem tab_data : (Rows.laid_math_bits_deBruijn64tab : DataW Unit) = .agg (tab64.map fun n => .lit (.int .u8 n)) := by rfl
theorem of_laid {W : World} (h : laidMetH Tryd.prog laidB W) : TabAt W := by
  rw [MakeChecks.laidMetH_plain _ _ _ (by kernel_rfl)] at h
  obtain ⟨ps, ⟨g0, t0, cs0, f0, p0, q0, hg0, ht0, hv0, hd0, ⟨g1, t1, cs1, f1, p1, q1, hg1, ht1, hv1, hd1, _, _⟩, _⟩, _, _⟩ := h
  obtain rfl := Option.some.inj (gTab.symm.trans hg1)
  obtain rfl := Option.some.inj (tTab.symm.trans ht1)
  rw [tab_data] at hd1
  obtain ⟨xs, m1, rfl, hx1, hlen, hn3, hel⟩ := DataW.trod_array uTab hd1
  intro j hj
  have hj' : j < xs.length := by omega
  have h0 := hel j hj
  rw [cU8, Nat.mul_one, List.getElem?_eq_getElem hj'] at h0
  obtain ⟨k, e1, e2, _⟩ := DataW.trod_int uU8 h0
  simp only [Prod.mk.injEq, DataW.agg.injEq] at hx1
  have hx := congrArg (fun l : List (DataW Unit) => l[j]?) hx1.1
  simp only [List.getElem?_map, List.getElem?_eq_getElem hj', Option.map_some, e2] at hx
  have hjt : j < tab64.length := hj
  rw [List.getElem?_eq_getElem hjt] at hx
  simp only [Option.map_some, Option.some.injEq, DataW.lit.injEq, Lit.int.injEq, true_and] at hx
  have hc := World.var?_cell hg1 hv1 j
  rw [hc]
  have e3 : cs1.toList[j]? = some (.int .u8 k) := by
    have := congrArg (fun l : List Value => l[0]?) e1
    simpa [List.getElem?_take, List.getElem?_drop] using this
  rw [Array.getElem?_toList] at e3
  rw [e3, ← hx]
  simp [List.getD_eq_getElem?_getD, List.getElem?_eq_getElem hjt]
end Go.Proofs.YtdbbcngmnpejnaaDoor.B

/- BreedBack holds: its code returns true and leaves what it was given as it was. Conditions: those of the given statement, none besides. -/
namespace Go.Proofs.YtdbbcngmnpejnaaDoor.breedBack
open Go.ChangeShapes Go.WideShapes Go.ChangeAt Go.RowKit
open Go.ChangeMaps (open_string shut_string)
open Go.Proofs.YtdbbcngmnpejnaaDoorW.PrintWords
open Go.Proofs.YtdbbcngmnpejnaaDoor.A
set_option linter.unusedVariables false
theorem own : ownKnob Tryd.prog.godebug = none := by kernel_rfl
theorem laidOut : laidOutB Tryd.prog = true := by kernel_rfl
def IsRow (k : IntKind) (w : World) (a : Option Addr) (len cap : Nat) (zs : List Int) : Prop :=
  (a = none ∧ len = 0 ∧ cap = 0 ∧ zs = []) ∨
  ∃ x, a = some x ∧ len ≤ cap ∧ cap ≤ maxLen ∧ zs.length = cap ∧ (∀ i, i < zs.length → w.cell? (x.add i) = some (.int k (zs.getD i 0))) ∧ ∀ n ∈ zs, (Lit.int k n).wf = true
set_option maxRecDepth 100000 in
theorem lifted (os : Os) (started : os.Started) (H : Type) (enc : TypeId × Value → H) :
    ReturnsInHanded {} Tryd.checked os 9 .any (fun w args => (Rows.breedBackSpec.pre enc Tryd.prog Tryd.f9 [] false w args ∧ laidMetH Tryd.prog Go.Proofs.YtdbbcngmnpejnaaDoor.B.laidB w) ∧ sizedMet enc Tryd.prog Tryd.f9 (OpenSpec.ofChange Rows.breedBackSpec) false w args)
      (Rows.breedBackSpec.post enc Tryd.prog Tryd.f9 false true false false) := by
  refine returnsInHanded_of_change_and (C := Tryd.checked) (X := fun w _ => laidMetH Tryd.prog Go.Proofs.YtdbbcngmnpejnaaDoor.B.laidB w) (fun _ _ _ hh h => h.of_heap hh) own started (by kernel_rfl) Tryd.func9
    (ChangeSpec.witness_shaped (enc := enc) (C := Tryd.checked) (os := os) (X := fun w _ => laidMetH Tryd.prog Go.Proofs.YtdbbcngmnpejnaaDoor.B.laidB w) false (World.doorLaid Tryd.prog 24 os) #[.int .i64 0, .string ByteArray.empty, .string ByteArray.empty] 8 rfl (World.shaped_of_RefB (by kernel_rfl) (by kernel_rfl)) (by kernel_rfl) (by kernel_rfl) (by kernel_rfl) (Go.Proofs.YtdbbcngmnpejnaaDoor.B.door_met os _)) ?_
  intro W base args ds gs before hval0 hW hcnd hsz0 hL _
  have hsz : (DataW.weightsEach Tryd.prog (Tryd.f9.params.toList ++ Rows.breedBackSpec.plain.varTypes Tryd.prog) (ds ++ gs)).all (· ≤ reachBytes) = true := hsz0
  have hval : ∀ (j : Nat) t v, Tryd.f9.params[j]? = some t → args[j]? = some v → Value.okWide Tryd.prog W .any base t v := hval0
  have hW' := hW
  obtain ⟨p, q, hA0, hV, rfl, hfz, hnd⟩ := hW
  have hA : DataW.TrodAll enc Tryd.prog W 0 (fun _ => true) true Tryd.f9.params.toList args.toList ds p := hA0
  rw [Tryd.params9] at hA hval hsz
  obtain ⟨v0, vs0, d0, ds0, p0, q0, hargs, rfl, rfl, h0, r0⟩ := trodAll_cons hA
  obtain ⟨v1, vs1, d1, ds1, p1, q1, rfl, rfl, rfl, h1, r1⟩ := trodAll_cons r0
  obtain ⟨v2, vs2, d2, ds2, p2, q2, rfl, rfl, rfl, h2, r2⟩ := trodAll_cons r1
  obtain ⟨rfl, rfl, rfl⟩ := trodAll_nil r2
  obtain rfl : args = #[v0, v1, v2] := by cases args; simp_all
  obtain ⟨rfl, rfl⟩ := trodVars_none hV
  obtain ⟨a0, rfl, rfl, rfl, w0⟩ := open_int Tryd.underlying3 (hval 0 3 v0 rfl rfl) h0
  obtain ⟨a1, rfl, rfl, rfl, y1⟩ := open_string Tryd.underlying9 (hval 1 9 v1 rfl rfl) h1
  have w1 : a1.size ≤ 140737488351232 := by
    have z := sized_string hsz (j := 1) (t := 9) rfl rfl
    rw [Array.length_toList] at z
    exact z
  obtain ⟨a2, rfl, rfl, rfl, y2⟩ := open_string Tryd.underlying9 (hval 2 9 v2 rfl rfl) h2
  have w2 : a2.size ≤ 140737488351232 := by
    have z := sized_string hsz (j := 2) (t := 9) rfl rfl
    rw [Array.length_toList] at z
    exact z
  clear hA0 hval0 hsz0 hsz
  refine (B.back_any a0 a1 a2 W (B.of_laid hL)).mono fun e W' ⟨he, bel⟩ => ?_
  subst he
  exact ⟨_, rfl, _, _, _, [], _, [], hW', trodAll_mk1 (shut_bool Tryd.underlying4 _), (trodAll_cons_mk (shut_int Tryd.underlying3 w0) (trodAll_cons_mk (shut_string Tryd.underlying9 y1) (trodAll_cons_mk (shut_string Tryd.underlying9 y2) trodAll_mk0))), rfl, bel.frame _, fun h => by cases h⟩
theorem over : Rows.breedBackRow.holds Tryd.pinned (OpenSpec.ofChange Rows.breedBackSpec) :=
  OpenClaim.holds_of_wide 9 Tryd.f9 rfl rfl rfl rfl rfl rfl rfl ⟨rfl, rfl, rfl, rfl, rfl⟩ rfl rfl rfl rfl rfl (by kernel_rfl) Tryd.func9 (by kernel_rfl)
    (of_decide_eq_true (by kernel_rfl)) (by unfold Func.isWrapper; first | (rw [if_pos (by decide +kernel)]; kernel_rfl) | (rw [if_neg (by decide +kernel)]; exact ⟨rfl, rfl⟩))
    (fun os started H enc _ => lifted os started H enc)
theorem proved : Rows.BreedBackSaid := over
/-- The tied card. -/
theorem card : Rows.BreedBackCardSaid :=
  Claim7.holds_tied_plain_at .later [] [.data, .data] true (true, "449c50ce385e76ce5fb1e3c7acce1baa715782fc22fdf803fec36f95dc6565be") true
    proved (fun _ h => by cases h) (by kernel_rfl) (fun _ h => by cases h) breedBack_row_tie rfl ⟨rfl, rfl⟩ (by kernel_rfl) rfl
    (fun f fn hf hfn => by
      obtain rfl : f = 9 := Option.some.inj ((show Tryd.prog.funcNamed "droveway/drovewaylaw05.BreedBack" = some 9 by kernel_rfl).symm.trans hf) |>.symm
      obtain rfl : fn = Tryd.f9 := (Option.some.inj (Tryd.func9.symm.trans hfn)).symm
      exact ⟨by kernel_rfl, fun j t ht => by
        rw [Tryd.params9] at ht
        have hm : t ∈ [3, 9, 9] := by simpa using Array.mem_of_getElem? ht
        have hall : ([3, 9, 9].all fun u => !Tryd.prog.wantsStandIn u) = true := by kernel_rfl
        exact (show Tryd.prog.wantsStandIn t = false by simpa using List.all_eq_true.1 hall t hm)⟩)
    (by kernel_rfl)
#print axioms card
end Go.Proofs.YtdbbcngmnpejnaaDoor.breedBack
namespace Go.Proofs.YtdbbcngmnpejnaaDoor
/-- The card, under a short name, for the claim. -/
theorem breedBack_holds : Rows.BreedBackCardSaid := breedBack.card
end Go.Proofs.YtdbbcngmnpejnaaDoor
