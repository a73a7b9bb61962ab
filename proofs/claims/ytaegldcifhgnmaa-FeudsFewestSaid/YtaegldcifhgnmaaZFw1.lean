/- Ties as they are read; slices.IndexFunc and slices.ContainsFunc over whole numbers, whatever predicate is handed over, if it only makes memory of its own. -/
import Derived.Test.YtaegldcifhgnmaaZFw0
import Derived.Test.YtaegldcifhgnmaaProg
import Derived.Below
import Derived.Deep.Draws
import Derived.OwnWalk
import Derived.WalkKit
import Derived.KernelRfl
import Derived.RowKit3
import Derived.Deep.LoopGhost
import Derived.Deep.QuietTactic
import Derived.BigQuiet
import Derived.Deep.DeepCutAuto
import Derived.Deep.CutBlock
import Derived.RowKit
import Derived.Outline
import Derived.Laws.BitsLemmas
import Derived.Shelf.Abstract
import Derived.Deep.RegionHeld3
import Derived.Test.YtaegldcifhgnmaaWWords
import Derived.Deep.AppendLies
import Derived.Maps.AppendAt
import Derived.Laws.BytesArg
import Derived.Laws.MakeOwn
import Derived.Laws.OwnMore
import Derived.Deep.OwnRows
import Derived.Tactics
import Derived.Lib.ConvBytes
import Derived.Laws.Slices
import Derived.WideLaws
import Derived.Laws.Rows
import Derived.Lib.AppendStr
import Derived.ArgAppend
import Derived.Laws.IdiomCopy
import Derived.OrdersHeld
import Derived.Test.YtaegldcifhgnmaaWLast
import Derived.Test.YtaegldcifhgnmaaWTab
import Derived.Test.YtaegldcifhgnmaaWRepsOne
import Derived.Test.YtaegldcifhgnmaaWGuard
/- Ties as they are read; slices.IndexFunc and slices.ContainsFunc over whole numbers, whatever predicate is handed over, if it only makes memory of its own. -/
namespace Go.Proofs.Ytaegldcifhgnmaa.A
open Go.RowKit Go.Proofs.YtaegldcifhgnmaaW.PrintWords
theorem info3 : (Try.prog.info? 3).map (fun i => (i.zero, i.size, i.bytes)) = some (some (.int .i64 0), 1, 8) := by kernel_rfl
theorem info39 : (Try.prog.info? 39).map (fun i => (i.zero, i.size, i.bytes)) = some (some (.agg #[(.int .i64 0), (.int .i64 0), (.bool false)]), 3, 24) := by kernel_rfl
/-! #### struct type 39 -/
structure S39 where
  f0 : Int
  f1 : Int
  f2 : Bool
def z39 : S39 := ⟨(0 : Int), (0 : Int), false⟩
def k39 : Kd S39 := Kd.iso (Kd.pair (Kd.int .i64) (Kd.pair (Kd.int .i64) Kd.bool)) (fun x : S39 => (x.f0, x.f1, x.f2))
theorem k39_open {w : World} {x : S39} {cs : List Value} (h : k39.K w x cs) : cs = [.int .i64 x.f0, .int .i64 x.f1, .bool x.f2] := by
  obtain ⟨_, _, rfl, rfl, ⟨_, _, rfl, rfl, rfl⟩⟩ := h
  exact rfl
theorem k39_mk (w : World) (x : S39)  : k39.K w x [.int .i64 x.f0, .int .i64 x.f1, .bool x.f2] := ⟨[.int .i64 x.f0], [.int .i64 x.f1, .bool x.f2], rfl, rfl, ⟨[.int .i64 x.f1], [.bool x.f2], rfl, rfl, rfl⟩⟩
theorem k39_mkM (w : World) (base : Nat) (ok : Nat → Prop) (x : S39)  : k39.M w base ok x [.int .i64 x.f0, .int .i64 x.f1, .bool x.f2] := ⟨[.int .i64 x.f0], [.int .i64 x.f1, .bool x.f2], rfl, rfl, ⟨[.int .i64 x.f1], [.bool x.f2], rfl, rfl, rfl⟩⟩
def rd_T39 (xs : List S39) (i : Int) : S39 := xs.getD i.toNat z39
theorem at_T39 {w : World} {A : Option Addr} {n : Nat} {xs : List S39} (h : Kd.C k39 w A n xs) (i : Int) (h0 : 0 ≤ i) (h1 : i < n) : ∃ ad , A = some ad ∧ w.cell? (ad.add (i.toNat * 3)) = some (.int .i64 (rd_T39 xs i).f0) ∧ w.cell? ⟨(ad.add (i.toNat * 3)).block, (ad.add (i.toNat * 3)).off + 1, none⟩ = some (.int .i64 (rd_T39 xs i).f1) ∧ w.cell? ⟨(ad.add (i.toNat * 3)).block, (ad.add (i.toNat * 3)).off + 2, none⟩ = some (.bool (rd_T39 xs i).f2) := by
  obtain ⟨ad, c, e, _, hK, hc0⟩ := Kd.C_get h z39 i h0 h1
  have hc : ∀ j u, c[j]? = some u → w.cell? (ad.add (i.toNat * 3 + j)) = some u := hc0
  obtain rfl := k39_open hK
  exact ⟨ad, e, hc 0 _ rfl, by rw [← add_field _ _ 1 (by omega)]; exact hc 1 _ rfl, by rw [← add_field _ _ 2 (by omega)]; exact hc 2 _ rfl⟩

/-- A function value that answers p at each element of a list, in every world in which all that lay in w lies unturned. -/
def PredB {α : Type} (g : Nat) (lb : Array Value) (enc : α → Value) (p : α → Bool) (l : List α) (w : World) : Prop :=
  ∀ (W : World) (x : α), x ∈ l → Below w.heap.size w W → Calls Try.prog g (#[enc x] ++ lb) W fun e w' => e = .returned (.bool (p x)) ∧ Below w.heap.size w w'

theorem getD_mem {α : Type} {l : List α} {k : Nat} (d : α) (h : k < l.length) : l.getD k d ∈ l := by
  rw [List.getD_eq_getElem?_getD, List.getElem?_eq_getElem h]; exact List.getElem_mem h

theorem any_hit {α : Type} {l : List α} {p : α → Bool} {k : Nat} (d : α) (h : k < l.length) (hp : p (l.getD k d) = true) : l.any p = true := by
  rw [List.any_eq_true]
  exact ⟨_, getD_mem d h, hp⟩

theorem any_miss {α : Type} {l : List α} {p : α → Bool} (d : α) (h : ∀ j, j < l.length → p (l.getD j d) = false) : l.any p = false := by
  rw [List.any_eq_false]
  intro x hx
  obtain ⟨j, hj, rfl⟩ := List.mem_iff_getElem.1 hx
  have := h j hj
  rw [List.getD_eq_getElem?_getD, List.getElem?_eq_getElem hj] at this
  simpa using this

set_option maxHeartbeats 2000000 in
theorem IndexFunc_int (g : Nat) (lb : Array Value) (p : Int → Bool) (eg : ∀ args w, (callFunc g args).run Try.prog w = .ok (.enter g args) w)
    (A : Option Addr) (n c : Nat) (l : List Int) (w : World) (hr : Kd.C (Kd.int .i64) w A n l) (hp : PredB g lb (fun x => .int .i64 x) p l w) :
    Calls Try.prog 79 #[.slice A n c, .func (.func g) #[] lb] w fun e w' => (∃ i : Int, e = .returned (.int .i64 i) ∧ Aside0 (decide (0 ≤ i) = l.any p)) ∧ Below w.heap.size w w' := by
  have hlen : l.length = n := hr.1
  have hmax : n ≤ 9223372036854775807 := hr.2.1
  have HR := Aside0.mk hr
  have HP := Aside0.mk hp
  have HL := Aside0.mk hlen
  clear hr hp hlen
  go_enter Try.func79, Try.ntmps79
  go_wp2
  go_loopg [5, 8] n (fun gg _ s8 wr => ∃ kk : Nat, kk ≤ n ∧ n - kk ≤ gg ∧ s8 = .int .i64 kk ∧ Aside0 (Below w.heap.size w wr) ∧ Aside0 (∀ j, j < kk → p (l.getD j 0) = false))
  case atStart => exact ⟨0, Nat.zero_le _, by omega, rfl, ⟨Below.refl _ w⟩, ⟨fun j hj => absurd hj (Nat.not_lt_zero _)⟩⟩
  case round =>
    obtain ⟨kk, hkk, hg, rfl, BW, AF⟩ := hrel
    by_cases hlt : kk < n
    · have hltz : (kk : Int) < (n : Int) := by omega
      obtain ⟨ad, rfl, hcell⟩ := Kd.at_int (Kd.C_below HR.out BW.out) (kk : Int) (by omega) (by omega)
      rw [Int.toNat_natCast] at hcell
      have hcall := HP.out wr (l.getD kk 0) (getD_mem 0 (by rw [HL.out]; exact hlt)) BW.out
      have hrd : rd l (kk : Int) = l.getD kk 0 := by simp [rd]
      rw [hrd] at hcell
      clear hrd
      generalize hy : l.getD kk 0 = y at hcell hcall
      have B := Aside0.mk hy
      clear hy
      cases hq : p y with
      | true =>
        rw [hq] at hcall
        go_wp2_with (go_at_fn g; refine hcall.mono ?_; rintro e w' ⟨rfl, hb'⟩)
        go_ret
        refine ⟨⟨kk, rfl, ⟨?_⟩⟩, hb'⟩
        rw [any_hit 0 (by rw [HL.out]; exact hlt) (by rw [B.out]; exact hq)]
        exact decide_eq_true (by omega)
      | false =>
        rw [hq] at hcall
        go_wp2_with (go_at_fn g; refine hcall.mono ?_; rintro e w' ⟨rfl, hb'⟩)
        go_roundg (n - (kk + 1))
        case measure => omega
        case rel =>
          refine ⟨kk + 1, by omega, by omega, by go_num, ⟨hb'⟩, ⟨fun j hj => ?_⟩⟩
          by_cases e : j = kk
          · subst e
            rw [B.out]; exact hq
          · exact AF.out j (by omega)
    · have hltz : ¬ (kk : Int) < (n : Int) := by omega
      have : kk = n := by omega
      subst this
      go_wp2
      go_ret
      refine ⟨⟨-1, rfl, ⟨?_⟩⟩, BW.out⟩
      rw [any_miss 0 (fun j hj => AF.out j (by rw [← HL.out]; exact hj))]
      exact decide_eq_false (by omega)

set_option maxHeartbeats 2000000 in
theorem ContainsFunc_int (g : Nat) (lb : Array Value) (p : Int → Bool) (eg : ∀ args w, (callFunc g args).run Try.prog w = .ok (.enter g args) w)
    (A : Option Addr) (n c : Nat) (l : List Int) (w : World) (hr : Kd.C (Kd.int .i64) w A n l) (hp : PredB g lb (fun x => .int .i64 x) p l w) :
    Calls Try.prog 54 #[.slice A n c, .func (.func g) #[] lb] w fun e w' => e = .returned (.bool (l.any p)) ∧ Below w.heap.size w w' := by
  have H := Aside0.mk (IndexFunc_int g lb p eg A n c l w hr hp)
  clear hr hp eg
  go_enter Try.func54, Try.ntmps54
  go_wp2_with (go_at_call 79; refine H.out.mono ?_; rintro e w' ⟨⟨i, rfl, hi⟩, hb'⟩)
  go_ret
  refine ⟨?_, hb'⟩
  rw [← hi.out]; rfl

theorem wrap64_id {n : Int} (h0 : -9223372036854775808 ≤ n) (h1 : n ≤ 9223372036854775807) : wrap64 n = n := by unfold wrap64; omega
theorem two_pow_le {m : Nat} (h : m ≤ 61) : (2 : Int) ^ m ≤ 2305843009213693952 := by
  have := Nat.pow_le_pow_right (show 1 ≤ 2 by decide) h
  have e : ((2 ^ m : Nat) : Int) = (2 : Int) ^ m := by simp
  have e2 : (2 : Nat) ^ 61 = 2305843009213693952 := by decide
  omega
theorem two_pow_pos' (m : Nat) : (1 : Int) ≤ 2 ^ m := by
  have := Nat.two_pow_pos m
  have e : ((2 ^ m : Nat) : Int) = (2 : Int) ^ m := by simp
  omega
theorem wrap64_two {m : Nat} (h : m ≤ 61) : wrap64 (2 ^ m) = 2 ^ m := wrap64_id (by have := two_pow_pos' m; omega) (by have := two_pow_le h; omega)

theorem cells1 {w : World} {g : Nat} {a : Value} {t : TypeId} (h : w.heap[g]? = some (.cells #[a] t (0, 0))) : w.cell? ⟨g, 0, none⟩ = some a ∧ w.frozen? ⟨g, 0, none⟩ = false := ⟨blk_cell h 0, blk_frozen h 0⟩
theorem cells2 {w : World} {g : Nat} {a b : Value} {t : TypeId} (h : w.heap[g]? = some (.cells #[a, b] t (0, 0))) :
    w.cell? ⟨g, 0, none⟩ = some a ∧ w.cell? ⟨g, 1, none⟩ = some b ∧ w.frozen? ⟨g, 0, none⟩ = false ∧ w.frozen? ⟨g, 1, none⟩ = false :=
  ⟨blk_cell h 0, blk_cell h 1, blk_frozen h 0, blk_frozen h 1⟩
theorem cells3 {w : World} {g : Nat} {a b d : Value} {t : TypeId} (h : w.heap[g]? = some (.cells #[a, b, d] t (0, 0))) :
    w.cell? ⟨g, 0, none⟩ = some a ∧ w.cell? ⟨g, 1, none⟩ = some b ∧ w.cell? ⟨g, 2, none⟩ = some d ∧ w.frozen? ⟨g, 0, none⟩ = false ∧ w.frozen? ⟨g, 1, none⟩ = false ∧ w.frozen? ⟨g, 2, none⟩ = false :=
  ⟨blk_cell h 0, blk_cell h 1, blk_cell h 2, blk_frozen h 0, blk_frozen h 1, blk_frozen h 2⟩
end Go.Proofs.Ytaegldcifhgnmaa.A

/- feuds' ring, as the kit's print writes it: what it computes. -/
namespace Go.Proofs.Ytaegldcifhgnmaa.B
open Go.Proofs.Ytaegldcifhgnmaa.A
open Go.RowKit Go.Proofs.YtaegldcifhgnmaaW.PrintWords Go.Proofs.YtaegldcifhgnmaaW.PrintLast Go.Proofs.YtaegldcifhgnmaaW.PrintMore
section
attribute [local go_sem] max2_int min2_int max_two min_two max_three min_three max_four min_four   -- for this text's walks alone
set_option linter.unusedVariables false
set_option linter.unusedSimpArgs false
/-! ### feuds_has: function 80 -/
def feuds_has.f (a0_0 : Int) (a0_1 : Int) (a0_2 : Bool) (a1 : Int) : Option (Bool) := if a0_0 = a1 then (some true) else (some (a0_1 == a1))
set_option maxHeartbeats 8000000 in
set_option maxRecDepth 100000 in
theorem feuds_has.calls (a0_0 : Int) (a0_1 : Int) (a0_2 : Bool) (a1 : Int) (r : Bool) (w : World) (h : feuds_has.f a0_0 a0_1 a0_2 a1 = some r) :
    Calls Try.prog 80 #[.agg #[.int .i64 a0_0, .int .i64 a0_1, .bool a0_2], .int .i64 a1] w fun e w' => e = .returned (.bool r) ∧ Below w.heap.size w w' := by
  have hu39 := Try.underlying39
  have HB := Aside0.mk (Below.refl w.heap.size w)
  have H : (if a0_0 = a1 then (some true) else (some (a0_1 == a1))) = some r := h
  clear h
  by_cases c3 : a0_0 = a1
  · rw [if_pos c3] at H
    have c3b0 : (a0_0 == a1) = true := beq_iff_eq.mpr c3
    have c3b1 : (a0_0 != a1) = false := bne_eq_false_iff_eq.mpr c3
    clear c3
    obtain rfl := Option.some.inj H
    go_enter Try.func80, Try.ntmps80
    go_wp2_with (first | ((with_reducible refine gate_dst (N := 2) rfl ?_); refine box_event ?hg (N := 2) ?hd (cs := #[.int .i64 a0_0, .int .i64 a0_1, .bool a0_2]) (t := 39) ?hr ?_; (case hd => rfl); (case hg => rfl); (case hr => first | (go_simp; done) | (go_simp; rfl)); intro gb151 hg w4 hbox hb; have n0_ := Aside0.mk (below_step (by repeat (first | (with_reducible first | exact HB.out | apply below_alloc | apply pw_below_drewN | apply below_drew1) | exact HB.out)) hb); have n1_ := Aside0.mk (hbox); have n2_ := Aside0.mk ((by rw [hg]; exact (below_size (by repeat (first | (with_reducible first | exact HB.out | apply below_alloc | apply pw_below_drewN | apply below_drew1) | exact HB.out))) : w.heap.size ≤ gb151)); have n3_ := Aside0.mk ((by rw [hg]; exact (below_size (by repeat (first | (with_reducible first | exact HB.out | apply below_alloc | apply pw_below_drewN | apply below_drew1) | exact HB.out))) : w.heap.size ≤ gb151)); clear HB; have HB := n0_; have BK151 := n1_; have GW151 := n2_; have GE151 := n3_; clear n0_ n1_ n2_ n3_; clear hb hbox hg; have hcz5_0 : w4.cell? ⟨gb151, 0, none⟩ = some (.int .i64 a0_0) := (blk_cell BK151.out 0).trans rfl; have hcz5_1 : w4.cell? ⟨gb151, 1, none⟩ = some (.int .i64 a0_1) := (blk_cell BK151.out 1).trans rfl; have hcz5_2 : w4.cell? ⟨gb151, 2, none⟩ = some (.bool a0_2) := (blk_cell BK151.out 2).trans rfl; have hfz5_0 := blk_frozen BK151.out 0; have hfz5_1 := blk_frozen BK151.out 1; have hfz5_2 := blk_frozen BK151.out 2))
    go_ret
    exact ⟨by first | rfl | (simp [errW_none, errW_some] <;> rfl) | (simp [*, errW_none, errW_some] <;> rfl), by repeat (first | (with_reducible first | exact HB.out | apply below_alloc | apply pw_below_drewN | apply below_drew1 | refine below_set ?_ GE151.out) | exact HB.out)⟩
  · rw [if_neg c3] at H
    have c3b0 : (a0_0 == a1) = false := beq_eq_false_iff_ne.mpr c3
    have c3b1 : (a0_0 != a1) = true := bne_iff_ne.mpr c3
    obtain rfl := Option.some.inj H
    go_enter Try.func80, Try.ntmps80
    go_wp2_with (first | ((with_reducible refine gate_dst (N := 2) rfl ?_); refine box_event ?hg (N := 2) ?hd (cs := #[.int .i64 a0_0, .int .i64 a0_1, .bool a0_2]) (t := 39) ?hr ?_; (case hd => rfl); (case hg => rfl); (case hr => first | (go_simp; done) | (go_simp; rfl)); intro gb151 hg w6 hbox hb; have n0_ := Aside0.mk (below_step (by repeat (first | (with_reducible first | exact HB.out | apply below_alloc | apply pw_below_drewN | apply below_drew1) | exact HB.out)) hb); have n1_ := Aside0.mk (hbox); have n2_ := Aside0.mk ((by rw [hg]; exact (below_size (by repeat (first | (with_reducible first | exact HB.out | apply below_alloc | apply pw_below_drewN | apply below_drew1) | exact HB.out))) : w.heap.size ≤ gb151)); have n3_ := Aside0.mk ((by rw [hg]; exact (below_size (by repeat (first | (with_reducible first | exact HB.out | apply below_alloc | apply pw_below_drewN | apply below_drew1) | exact HB.out))) : w.heap.size ≤ gb151)); clear HB; have HB := n0_; have BK151 := n1_; have GW151 := n2_; have GE151 := n3_; clear n0_ n1_ n2_ n3_; clear hb hbox hg; have hcz7_0 : w6.cell? ⟨gb151, 0, none⟩ = some (.int .i64 a0_0) := (blk_cell BK151.out 0).trans rfl; have hcz7_1 : w6.cell? ⟨gb151, 1, none⟩ = some (.int .i64 a0_1) := (blk_cell BK151.out 1).trans rfl; have hcz7_2 : w6.cell? ⟨gb151, 2, none⟩ = some (.bool a0_2) := (blk_cell BK151.out 2).trans rfl; have hfz7_0 := blk_frozen BK151.out 0; have hfz7_1 := blk_frozen BK151.out 1; have hfz7_2 := blk_frozen BK151.out 2))
    go_ret
    exact ⟨by first | rfl | (simp [errW_none, errW_some] <;> rfl) | (simp [*, errW_none, errW_some] <;> rfl), by repeat (first | (with_reducible first | exact HB.out | apply below_alloc | apply pw_below_drewN | apply below_drew1 | refine below_set ?_ GE151.out) | exact HB.out)⟩

/-! ### feuds_net_ring: function 63 -/
mutual
def feuds_net_ring.l0 : Nat → List Int → Int → Int → List Int → Int → Int → Int → List (S39) → Option (Int × Bool)
  | 0, _, _, _, _, _, _, _, _ => none
  | k + 1, x1, x6, x7, x16, x17, x18, x153000, x153001 => if x18 < x17 then (if 0 ≤ x18 then (if x18 < (x16.length : Int) then (if (x1.length : Int) = 0 then (none) else (if 0 ≤ (Int.tmod (wrap64 (x18 + 1)) (x1.length : Int)) then (if (Int.tmod (wrap64 (x18 + 1)) (x1.length : Int)) < (x1.length : Int) then (if (mn (rd x16 x18) (rd x1 (Int.tmod (wrap64 (x18 + 1)) (x1.length : Int)))) < 0 then (feuds_net_ring.j1 k x1 x6 x7 (rd x16 x18) (rd x1 (Int.tmod (wrap64 (x18 + 1)) (x1.length : Int))) x16 x17 x18 true x153000 x153001) else (if (mx (rd x16 x18) (rd x1 (Int.tmod (wrap64 (x18 + 1)) (x1.length : Int)))) ≥ (x153001.length : Int) then (feuds_net_ring.j1 k x1 x6 x7 (rd x16 x18) (rd x1 (Int.tmod (wrap64 (x18 + 1)) (x1.length : Int))) x16 x17 x18 true x153000 x153001) else (feuds_net_ring.j1 k x1 x6 x7 (rd x16 x18) (rd x1 (Int.tmod (wrap64 (x18 + 1)) (x1.length : Int))) x16 x17 x18 ((rd x16 x18) == (rd x1 (Int.tmod (wrap64 (x18 + 1)) (x1.length : Int)))) x153000 x153001))) else (none)) else (none))) else (none)) else (none)) else (some (x6, true))
def feuds_net_ring.j1 : Nat → List Int → Int → Int → Int → Int → List Int → Int → Int → Bool → Int → List (S39) → Option (Int × Bool)
  | 0, _, _, _, _, _, _, _, _, _, _, _ => none
  | k + 1, x1, x6, x7, x9, x10, x16, x17, x18, x48, x153000, x153001 => if x48 = true then (some (0, false)) else (if 0 ≤ x9 then (if x9 < (x153001.length : Int) then (if (rd_T39 x153001 x9).f2 = true then (feuds_net_ring.j2 k x1 (wrap64 (x6 + 1)) x7 x9 x10 x16 x17 x18 x153000 x153001) else (feuds_net_ring.j2 k x1 x6 x7 x9 x10 x16 x17 x18 x153000 x153001)) else (none)) else (none))
def feuds_net_ring.j2 : Nat → List Int → Int → Int → Int → Int → List Int → Int → Int → Int → List (S39) → Option (Int × Bool)
  | 0, _, _, _, _, _, _, _, _, _, _ => none
  | k + 1, x1, x6, x7, x9, x10, x16, x17, x18, x153000, x153001 => if 0 ≤ x9 then (if x9 < (x153001.length : Int) then (if 0 ≤ x10 then (if x10 < (x153001.length : Int) then ((feuds_has.f ((rd_T39 x153001 x10).f0) ((rd_T39 x153001 x10).f1) ((rd_T39 x153001 x10).f2) ((rd_T39 x153001 x9).f0)).bind fun t160 => (if t160 = true then ((feuds_has.f ((rd_T39 x153001 x10).f0) ((rd_T39 x153001 x10).f1) ((rd_T39 x153001 x10).f2) ((rd_T39 x153001 x9).f0)).bind fun t162 => (if t162 = true then (if 0 ≤ ((rd_T39 x153001 x9).f0) then (if (Go.bits .and .i64 (shr .i64 x7 ((rd_T39 x153001 x9).f0)) 1) = 1 then (some (0, false)) else (feuds_net_ring.l0 k x1 x6 (Go.bits .or .i64 x7 (shl .i64 1 ((rd_T39 x153001 x9).f0))) x16 x17 (wrap64 (x18 + 1)) x153000 x153001)) else (none)) else (some (0, false)))) else ((feuds_has.f ((rd_T39 x153001 x10).f0) ((rd_T39 x153001 x10).f1) ((rd_T39 x153001 x10).f2) ((rd_T39 x153001 x9).f1)).bind fun t164 => (if t164 = true then (if 0 ≤ ((rd_T39 x153001 x9).f1) then (if (Go.bits .and .i64 (shr .i64 x7 ((rd_T39 x153001 x9).f1)) 1) = 1 then (some (0, false)) else (feuds_net_ring.l0 k x1 x6 (Go.bits .or .i64 x7 (shl .i64 1 ((rd_T39 x153001 x9).f1))) x16 x17 (wrap64 (x18 + 1)) x153000 x153001)) else (none)) else (some (0, false)))))) else (none)) else (none)) else (none)) else (none)
end
def feuds_net_ring.f (k : Nat) (a0_0 : Int) (l0_1 : List (S39)) (l1 : List Int) : Option (Int × Bool) := if (l1.length : Int) < 3 then (some (0, false)) else (feuds_net_ring.l0 k l1 0 0 l1 (l1.length : Int) 0 a0_0 l0_1)
def feuds_net_ring.T12 : Bool × List (List Nat × List Nat) := (true, [([], []), ([0], [0]), ([], []), ([1, 2], [1, 2]), ([3], [3]), ([], []), ([5], [5]), ([], []), ([6, 7], [6, 7]), ([8], [8]), ([9], [9]), ([], []), ([11, 4, 0, 1, 2, 3, 4, 11], [4, 11]), ([10, 12, 0, 1, 2, 3, 4, 5, 6, 7, 8, 9, 10, 11, 12], [10])])
def feuds_net_ring.B12 : List Nat := [0, 1, 0, 7, 15, 0, 32, 0, 224, 480, 992, 0, 2079, 8191]
theorem feuds_net_ring.tab12 : rtab .any (opsOf Try.f63 12) = feuds_net_ring.T12 := by kernel_rfl
theorem feuds_net_ring.bits12 : waitsOk feuds_net_ring.T12.2 feuds_net_ring.B12 = true := by kernel_rfl
end
end Go.Proofs.Ytaegldcifhgnmaa.B
