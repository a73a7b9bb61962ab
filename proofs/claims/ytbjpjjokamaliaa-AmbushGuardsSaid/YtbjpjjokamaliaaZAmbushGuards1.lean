/- The specification's game: the recursion. -/
import Derived.Test.YtbjpjjokamaliaaZAmbushGuards0
import Derived.Test.YtbjpjjokamaliaaProg
import Derived.Below
import Derived.Deep.Draws
import Derived.Deep.AppendLies
import Derived.Maps.AppendAt
import Derived.OwnWalk
import Derived.Laws.BytesArg
import Derived.Laws.MakeOwn
import Derived.Laws.OwnMore
import Derived.Deep.OwnRows
import Derived.Tactics
import Derived.Lib.ConvBytes
import Derived.Laws.Slices
import Derived.WalkKit
import Derived.KernelRfl
import Derived.RowKit3
import Derived.Deep.LoopGhost
import Derived.Deep.QuietTactic
import Derived.BigQuiet
import Derived.WideLaws
import Derived.Deep.DeepCutAuto
import Derived.Deep.CutBlock
import Derived.Deep.RegionHeld3
import Derived.Laws.Rows
import Derived.Lib.AppendStr
import Derived.ArgAppend
import Derived.Laws.IdiomCopy
import Derived.OrdersHeld
import Derived.Laws.BitsLemmas
import Derived.RowKit
import Derived.Test.YtbjpjjokamaliaaWWords
import Derived.Test.YtbjpjjokamaliaaWLast
import Derived.Test.YtbjpjjokamaliaaWTab
import Derived.Test.YtbjpjjokamaliaaWFour
import Derived.Test.YtbjpjjokamaliaaWQPut
import Derived.Test.YtbjpjjokamaliaaWApart
import Derived.Test.YtbjpjjokamaliaaWArr
import Derived.Test.YtbjpjjokamaliaaWZeros
import Derived.Test.YtbjpjjokamaliaaWFoot
import Derived.Test.YtbjpjjokamaliaaWKept
import Derived.Test.YtbjpjjokamaliaaWShare
import Derived.Test.YtbjpjjokamaliaaWN
import Derived.Test.YtbjpjjokamaliaaWFootNe
import Derived.Test.YtbjpjjokamaliaaWAt
import Derived.Test.YtbjpjjokamaliaaWEqStruct
import Derived.Test.YtbjpjjokamaliaaWRepsOne
import Derived.Test.YtbjpjjokamaliaaWInv
import Derived.Test.YtbjpjjokamaliaaWInvWords
import Derived.Test.YtbjpjjokamaliaaWGuard
import Derived.Test.YtbjpjjokamaliaaWNEv
import Derived.Test.YtbjpjjokamaliaaWMore
import Derived.Shelf.Small.Bits
import Derived.Shelf.Small.Wraps
import Derived.Shelf.Strconv.Itoa0
import Derived.Shelf.Sort.Plain
import Derived.Ground.Names2Prog
import Derived.Shelf.Slices.Clone
import Derived.Shelf.Slices.CompactI
import Derived.Shelf.Slices.SearchI
import Derived.Shelf.Slices.Cells
import Derived.Shelf.Slices.In.SortNone
import Derived.Ground.SlgnProg
import Derived.Shelf.SlicesE.Compact
import Derived.Ground.SlgfProg
import Derived.Shelf.SlicesE.IndexFunc
import Derived.Shelf.SlicesE.DeleteFunc
import Derived.Sort.OwnSortedInts
import Derived.Lib.SliceRun
/- The specification's game: the recursion. -/
namespace Go.Proofs.Ytbjpjjokamaliaa.A
open Go.RowKit Go.Proofs.YtbjpjjokamaliaaW.PrintWords Go.Proofs.YtbjpjjokamaliaaW.PrintMore

def GameSaid (l : List Int) (m : Nat) (A : Option Addr) (c g kb N C base n : Nat) : Prop :=
  ∀ (p d : Nat) (nx : Bool) (w : World), cntF m p.testBit d.testBit < n → p < 2 ^ m → d < 2 ^ m → (∀ W, Keep kb w W → Kd.C (Kd.int .i64) W A l.length l) → GameIs l m A c g kb N C base w →
    Calls Try.prog 62 #[.pointer (some ⟨g, 0, none⟩), .int .i64 p, .int .i64 d, .int .i64 (nxZ nx)] w fun e w' => e = .returned (.bool (winB l m p d nx)) ∧ GameIs l m A c g kb N C base w' ∧ Keep kb w w'

theorem game_cells {l : List Int} {m : Nat} {A : Option Addr} {c g kb N C base : Nat} {w : World} (h : GameIs l m A c g kb N C base w) :
    w.cell? ⟨g, 0, none⟩ = some (.int .i64 m) ∧ w.cell? ⟨g, 1, none⟩ = some (.slice A l.length c) ∧ w.cell? ⟨g, 2, none⟩ = some (.slice (some ⟨kb, 0, none⟩) N C) :=
  ⟨blk_cell h.cg 0, blk_cell h.cg 1, blk_cell h.cg 2⟩

theorem winB_has {l : List Int} {m p d : Nat} {nx : Bool} (h : hasL l m p.testBit = true) : winB l m p d nx = true := by
  unfold winB
  cases nx
  · rw [wins_d, h]; rfl
  · rw [wins_w, h]; rfl
theorem full_iff {m p d : Nat} (hp : p < 2 ^ m) (hd : d < 2 ^ m) : p ||| d = 2 ^ m - 1 ↔ less (2 ^ m - 1) (p ||| d) = 0 := by
  have hor := or_lt hp hd
  constructor
  · intro h
    rw [h]
    unfold less
    simp
  · intro h
    apply Nat.eq_of_testBit_eq
    intro i
    have := congrArg (fun x => x.testBit i) h
    simp only [tb_less, Nat.zero_testBit, tb_full] at this
    rw [tb_full]
    by_cases hi : i < m
    · generalize (p ||| d).testBit i = q at *
      cases q
      · simp [hi] at this
      · simp [hi]
    · rw [tb_big hor (by omega)]
      simp [hi]
theorem winB_full {l : List Int} {m p d : Nat} {nx : Bool} (hp : p < 2 ^ m) (hd : d < 2 ^ m) (h : hasL l m p.testBit = false) (hf : p ||| d = 2 ^ m - 1) : winB l m p d nx = false := by
  have hf := free_zero.1 ((full_iff hp hd).1 hf)
  unfold winB
  cases nx
  · rw [wins_d, h, hf]; rfl
  · rw [wins_w, h]
    have : ((List.range m).any fun i => fr p.testBit d.testBit i && wins l m (up p.testBit i) d.testBit false) = false := by
      rw [List.any_eq_false] at hf ⊢
      intro i hi
      simp [hf i hi]
    rw [this]; rfl
theorem full_ask {m p d : Nat} (h9 : m ≤ 9) (hp : p < 2 ^ m) (hd : d < 2 ^ m) : (bits BinOp.or IntKind.i64 (p : Int) (d : Int) == wrap64 (wrap64 (2 ^ m) - 1)) = decide (p ||| d = 2 ^ m - 1) := by
  have h1 := Nat.two_pow_pos m
  have e : ((2 : Int) ^ m - 1) = ((2 ^ m - 1 : Nat) : Int) := by rw [Int.natCast_sub h1]; simp
  have h2 := two_pow_le (show m ≤ 61 by omega)
  have h3 := two_pow_pos' m
  rw [or64 p d (lt62 hp (by omega)) (lt62 hd (by omega)), wrap64_two (by omega), wrap64_id (by omega) (by omega), e, Bool.eq_iff_iff, beq_iff_eq, decide_eq_true_iff]
  exact ⟨fun h => Int.ofNat.inj h, fun h => by rw [h]⟩
theorem at_ask {m p d : Nat} {nx : Bool} (h9 : m ≤ 9) (hp : p < 2 ^ m) (hd : d < 2 ^ m) : wrap64 (wrap64 (wrap64 (wrap64 ((p : Int) * 2 ^ m) + d) * 2) + nxZ nx) = (ixG m p d nx : Int) := by
  have hlt := ixG_lt (nx := nx) hp hd
  have h1 : 2 * 2 ^ (2 * m) ≤ 2 * 2 ^ 18 := Nat.mul_le_mul_left 2 (Nat.pow_le_pow_right (by decide) (by omega))
  have e : ((p : Int) * 2 ^ m) = ((p * 2 ^ m : Nat) : Int) := by simp
  unfold ixG at hlt ⊢
  rw [e]
  unfold nxZ
  generalize p * 2 ^ m = y at *
  cases nx
  · simp only [Bool.false_eq_true, if_false] at hlt ⊢
    rw [wrap64_id (n := (y : Int)) (by omega) (by omega), wrap64_id (n := (y : Int) + d) (by omega) (by omega), wrap64_id (n := ((y : Int) + d) * 2) (by omega) (by omega), wrap64_id (by omega) (by omega)]
    omega
  · simp only [if_true] at hlt ⊢
    rw [wrap64_id (n := (y : Int)) (by omega) (by omega), wrap64_id (n := (y : Int) + d) (by omega) (by omega), wrap64_id (n := ((y : Int) + d) * 2) (by omega) (by omega), wrap64_id (by omega) (by omega)]
    omega

theorem or_put_table : (List.range 512).all (fun d => (List.range 9).all fun i => d.testBit i || decide (d + 2 ^ i = d ||| 2 ^ i)) = true := by decide +kernel
theorem or_put {a i : Nat} (ha : a < 512) (hi : i < 9) (h : a.testBit i = false) : a + 2 ^ i = a ||| 2 ^ i := by
  have h1 := List.all_eq_true.1 or_put_table a (List.mem_range.2 ha)
  have h2 := List.all_eq_true.1 h1 i (List.mem_range.2 hi)
  rw [h] at h2
  simpa using h2
theorem bit_busy {m p d i : Nat} (h9 : m ≤ 9) (hp : p < 2 ^ m) (hd : d < 2 ^ m) : ((bits BinOp.or IntKind.i64 (p : Int) (d : Int) / 2 ^ i).tmod 2 == 1) = !(fr p.testBit d.testBit i) := by
  have hor := or_lt hp hd
  rw [or64 p d (lt62 hp (by omega)) (lt62 hd (by omega))]
  have e : (((p ||| d : Nat) : Int) / 2 ^ i) = (((p ||| d) / 2 ^ i : Nat) : Int) := by simp
  rw [e, Int.tmod_eq_emod_of_nonneg (Int.natCast_nonneg _)]
  unfold fr
  rw [Bool.not_not, ← Nat.testBit_or, Nat.testBit_eq_decide_div_mod_eq, Bool.eq_iff_iff, beq_iff_eq, decide_eq_true_iff]
  generalize (p ||| d) / 2 ^ i = y
  omega
theorem put_ask {m p i : Nat} (h9 : m ≤ 9) (hp : p < 2 ^ m) (hi : i < m) (h : p.testBit i = false) : wrap64 ((p : Int) + wrap64 (2 ^ i)) = ((p ||| 2 ^ i : Nat) : Int) := by
  have h1 : p < 2 ^ 9 := pow9 hp h9
  have h2 : 2 ^ i < 2 ^ 9 := Nat.pow_lt_pow_right (by decide) (by omega)
  have e : ((2 : Int) ^ i) = ((2 ^ i : Nat) : Int) := by simp
  rw [wrap64_two (by omega), e, ← or_put (by omega) (by omega) h]
  generalize 2 ^ i = y at *
  rw [wrap64_id (by omega) (by omega)]
  omega
theorem winB_hitW {l : List Int} {m p d i : Nat} (hw : hasL l m p.testBit = false) (hi : i < m) (hf : fr p.testBit d.testBit i = true) (h : winB l m (p ||| 2 ^ i) d false = true) : winB l m p d true = true := by
  unfold winB at h ⊢
  rw [tb_up] at h
  rw [wins_w, hw, Bool.false_or, List.any_eq_true]
  exact ⟨i, List.mem_range.2 hi, by rw [hf, h]; rfl⟩
theorem winB_missW {l : List Int} {m p d : Nat} (hw : hasL l m p.testBit = false) (h : ∀ i, i < m → fr p.testBit d.testBit i = true → winB l m (p ||| 2 ^ i) d false = false) : winB l m p d true = false := by
  unfold winB at h ⊢
  rw [wins_w, hw, Bool.false_or, List.any_eq_false]
  intro i hi
  cases hf : fr p.testBit d.testBit i with
  | false => simp
  | true =>
    have := h i (List.mem_range.1 hi) hf
    rw [tb_up] at this
    simp [this]
theorem winB_hitD {l : List Int} {m p d i : Nat} (hw : hasL l m p.testBit = false) (hi : i < m) (hf : fr p.testBit d.testBit i = true) (h : winB l m p (d ||| 2 ^ i) true = false) : winB l m p d false = false := by
  unfold winB at h ⊢
  rw [tb_up] at h
  rw [wins_d, hw, Bool.false_or, Bool.and_eq_false_iff]
  right
  rw [List.all_eq_false]
  exact ⟨i, List.mem_range.2 hi, by rw [hf, h]; simp⟩
theorem winB_missD {l : List Int} {m p d : Nat} (hp : p < 2 ^ m) (hd : d < 2 ^ m) (hw : hasL l m p.testBit = false) (hF : ¬ (p ||| d = 2 ^ m - 1)) (h : ∀ i, i < m → fr p.testBit d.testBit i = true → winB l m p (d ||| 2 ^ i) true = true) : winB l m p d false = true := by
  have hne : (List.range m).any (fr p.testBit d.testBit) = true := by
    cases hq : (List.range m).any (fr p.testBit d.testBit) with
    | true => rfl
    | false => exact absurd ((full_iff hp hd).2 (free_zero.2 hq)) hF
  unfold winB at h ⊢
  rw [wins_d, hw, hne, Bool.false_or, Bool.true_and, List.all_eq_true]
  intro i hi
  cases hf : fr p.testBit d.testBit i with
  | false => rfl
  | true =>
    have := h i (List.mem_range.1 hi) hf
    rw [tb_up] at this
    simp [this]
theorem fr_bits {p d i : Nat} (h : fr p.testBit d.testBit i = true) : p.testBit i = false ∧ d.testBit i = false := by
  unfold fr at h
  revert h
  cases p.testBit i <;> cases d.testBit i <;> simp
theorem set_set (w : World) (a : Addr) (u v : Value) : (w.setCell a u).setCell a v = w.setCell a v := by
  unfold World.setCell
  congr 1
  apply Array.ext_getElem?
  intro i
  simp only [Array.getElem?_modify]
  by_cases h : a.block = i
  · simp only [h, if_true]
    cases w.heap[i]? with
    | none => rfl
    | some o =>
      cases o with
      | cells c e f =>
        cases hs : a.spot.isSome <;> simp [hs]
      | _ => rfl
  · simp only [h, if_false]
theorem game_call {l : List Int} {m : Nat} {A : Option Addr} {c g kb N C base n : Nat} (ih : GameSaid l m A c g kb N C base n) {p d : Nat} {nx : Bool} {w W : World} (x : Int) (hx : nxZ nx = x) (hn : cntF m p.testBit d.testBit < n) (hp : p < 2 ^ m) (hd : d < 2 ^ m) (hr : ∀ W, Keep kb w W → Kd.C (Kd.int .i64) W A l.length l) (hk : Keep kb w W) (hG : GameIs l m A c g kb N C base W) (r : Bool) (hres : winB l m p d nx = r) :
    Calls Try.prog 62 #[.pointer (some ⟨g, 0, none⟩), .int .i64 p, .int .i64 d, .int .i64 x] W fun e w' => e = .returned (.bool r) ∧ GameIs l m A c g kb N C base w' ∧ Keep kb w w' := by
  subst hx; subst hres
  exact (ih p d nx W hn hp hd (fun W' hW' => hr W' (hk.trans hW')) hG).mono fun e w' ⟨h1, h2, h3⟩ => ⟨h1, h2, hk.trans h3⟩

set_option maxRecDepth 100000 in
set_option maxHeartbeats 1600000 in
theorem game_step (l : List Int) (m : Nat) (h9 : m ≤ 9) (hl : okL m l) (A : Option Addr) (c g kb N C base n : Nat) (hN : N = 2 * 2 ^ (2 * m)) (ih : GameSaid l m A c g kb N C base n) : GameSaid l m A c g kb N C base (n + 1) := by
  intro p d nx w hn hp hd hr hG
  have HI := Aside0.mk ih
  have HL := Aside0.mk hl
  have HN := Aside0.mk hn
  have HNN := Aside0.mk hN
  have HP := Aside0.mk hp
  have HD := Aside0.mk hd
  have HR := Aside0.mk hr
  have HG := Aside0.mk hG
  obtain ⟨z, hz⟩ : ∃ z, winB l m p d nx = z := ⟨_, rfl⟩
  have HZ := Aside0.mk hz
  rw [hz]
  obtain ⟨x, hx⟩ : ∃ x, nxZ nx = x := ⟨_, rfl⟩
  have HX := Aside0.mk hx
  rw [hx]
  clear ih hl hn hp hd hr hG hz hx hN
  obtain ⟨c1, c2, c3⟩ := game_cells HG.out
  go_enter Try.func62, Try.ntmps62
  go_wp2_with fail
  refine (has_calls m p h9 HP.out l HL.out A c _ (HR.out _ (Keep.refl _ _))).mono ?_
  rintro e w1 ⟨rfl, hb1⟩
  have HG1 := Aside0.mk (HG.out.keep hb1)
  have HK1 := Aside0.mk (Keep.of_below (b := kb) hb1)
  clear hb1 c1 c2 c3
  obtain ⟨c1, c2, c3⟩ := game_cells HG1.out
  cases hw : hasL l m p.testBit with
  | true =>
    have HW := Aside0.mk hw
    clear hw
    go_wp2_with fail
    go_ret
    exact ⟨by rw [← HZ.out, winB_has HW.out]; rfl, HG1.out, HK1.out⟩
  | false =>
    have HW := Aside0.mk hw
    clear hw
    have hask := full_ask h9 HP.out HD.out
    by_cases hfull : p ||| d = 2 ^ m - 1
    · have HF := Aside0.mk hfull
      rw [decide_eq_true hfull] at hask
      clear hfull
      go_wp2_with fail
      go_ret
      exact ⟨by rw [← HZ.out, winB_full HP.out HD.out HW.out HF.out]; rfl, HG1.out, HK1.out⟩
    · have HF := Aside0.mk hfull
      rw [decide_eq_false hfull] at hask
      clear hfull
      have hat := at_ask (nx := nx) h9 HP.out HD.out
      rw [HX.out] at hat
      obtain ⟨v, c4, c5, hv⟩ := HG1.out.row.look (nx := nx) HNN.out HP.out HD.out
      rw [HZ.out] at hv
      have hlt := ixG_lt (nx := nx) HP.out HD.out
      rw [← HNN.out] at hlt
      obtain ⟨Z, hZ⟩ : ∃ Z, ixG m p d nx = Z := ⟨_, rfl⟩
      rw [hZ] at hat c4 c5 hlt
      have hlt0 : (0 : Int) ≤ (Z : Int) := by omega
      have hltz : (Z : Int) < (N : Int) := by omega
      have HZZ := Aside0.mk hZ
      have HV := Aside0.mk hv
      clear hZ hv
      by_cases hv0 : v = 0
      · subst hv0
        clear HV
        cases nx with
        | true =>
          have hx0 : (x == 0) = true := by rw [← HX.out]; rfl
          have hx1 : (x == 1) = false := by rw [← HX.out]; rfl
          have HAT := Aside0.mk hat
          go_wp2_with fail
          clear hat
          go_loopg [11, 12] m (fun gg v11 v12 wr => ∃ i : Nat, i ≤ m ∧ m - i ≤ gg ∧ v12 = .int .i64 i ∧ v11 = .bool false ∧ Aside0 (GameIs l m A c g kb N C base wr) ∧ Aside0 (Keep kb w wr) ∧ Aside0 (∀ j, j < i → fr p.testBit d.testBit j = true → winB l m (p ||| 2 ^ j) d false = false))
          case atStart => exact ⟨0, Nat.zero_le _, by omega, rfl, rfl, HG1, HK1, ⟨fun i hi => absurd hi (Nat.not_lt_zero _)⟩⟩
          case round =>
            clear c1 c2 c3 c4 c5
            obtain ⟨i, hi, hgg, rfl, rfl, HGr, HKr, HNo⟩ := hrel
            obtain ⟨c1, c2, c3⟩ := game_cells HGr.out
            by_cases hlt2 : i < m
            · have hltz2 : (i : Int) < (m : Int) := by omega
              have hbit := bit_busy (i := i) h9 HP.out HD.out
              cases hfr : fr p.testBit d.testBit i with
              | false =>
                have HFR := Aside0.mk hfr
                rw [hfr] at hbit
                clear hfr
                go_wp2_with fail
                go_roundg (m - (i + 1))
                case measure => omega
                case rel =>
                  refine ⟨i + 1, by omega, by omega, by go_num, rfl, HGr, HKr, ⟨fun j hj hf => ?_⟩⟩
                  by_cases e : j = i
                  · subst e; rw [HFR.out] at hf; cases hf
                  · exact HNo.out j (by omega) hf
              | true =>
                have HFR := Aside0.mk hfr
                rw [hfr] at hbit
                obtain ⟨hpb, hdb⟩ := fr_bits hfr
                have hput := put_ask h9 HP.out hlt2 hpb
                clear hfr hpb hdb
                cases hm : winB l m (p ||| 2 ^ i) d false with
                | true =>
                  have HM := Aside0.mk hm
                  clear hm
                  go_wp2_with fail
                  refine (game_call HI.out (nx := false) 1 rfl (by have := cnt_upW hlt2 HFR.out; rw [← tb_up] at this; have := HN.out; omega) (or_lt HP.out (Nat.pow_lt_pow_right (by decide) hlt2)) HD.out HR.out HKr.out HGr.out _ HM.out).mono ?_
                  rintro e w2 ⟨rfl, hG2, hK2⟩
                  have HG2 := Aside0.mk hG2
                  have HK2 := Aside0.mk hK2
                  clear hG2 hK2 c1 c2 c3
                  obtain ⟨c1, c2, c3⟩ := game_cells HG2.out
                  have HZV : Aside0 (true = winB l m p d true) := ⟨(winB_hitW HW.out hlt2 HFR.out HM.out).symm⟩
                  obtain ⟨v9, d4, d5, -⟩ := HG2.out.row.look (nx := true) HNN.out HP.out HD.out
                  rw [HZZ.out] at d4 d5
                  have hat := HAT.out
                  have e3 := (cell_far (W := w2) (p := ⟨kb, Z, none⟩) (a := ⟨g, 2, none⟩) (by show g ≠ kb; have := HG2.out.ne; omega) (.int .i64 (-1))).trans c3
                  go_wp2_with fail
                  go_ret
                  refine ⟨by rw [← HZ.out, ← HZV.out]; rfl, ?_⟩
                  have hst := HG2.out.store (nx := true) HP.out HD.out (1) (by rw [← HZV.out]; rfl) HNN.out
                  rw [HZZ.out] at hst
                  first | exact ⟨hst.1, HK2.out.trans hst.2⟩ | (rw [set_set]; exact ⟨hst.1, HK2.out.trans hst.2⟩)
                | false =>
                  have HM := Aside0.mk hm
                  clear hm
                  go_wp2_with fail
                  refine (game_call HI.out (nx := false) 1 rfl (by have := cnt_upW hlt2 HFR.out; rw [← tb_up] at this; have := HN.out; omega) (or_lt HP.out (Nat.pow_lt_pow_right (by decide) hlt2)) HD.out HR.out HKr.out HGr.out _ HM.out).mono ?_
                  rintro e w2 ⟨rfl, hG2, hK2⟩
                  have HG2 := Aside0.mk hG2
                  have HK2 := Aside0.mk hK2
                  clear hG2 hK2 c1 c2 c3
                  obtain ⟨c1, c2, c3⟩ := game_cells HG2.out
                  go_wp2_with fail
                  go_roundg (m - (i + 1))
                  case measure => omega
                  case rel =>
                    refine ⟨i + 1, by omega, by omega, by go_num, rfl, HG2, HK2, ⟨fun j hj hf => ?_⟩⟩
                    by_cases e : j = i
                    · subst e; exact HM.out
                    · exact HNo.out j (by omega) hf
            · have hltz2 : ¬ (i : Int) < (m : Int) := by omega
              have HZV : Aside0 (false = winB l m p d true) := ⟨(winB_missW HW.out (fun j hj hf => HNo.out j (by omega) hf)).symm⟩
              obtain ⟨v9, d4, d5, -⟩ := HGr.out.row.look (nx := true) HNN.out HP.out HD.out
              rw [HZZ.out] at d4 d5
              have hat := HAT.out
              have e3 := (cell_far (W := wr) (p := ⟨kb, Z, none⟩) (a := ⟨g, 2, none⟩) (by show g ≠ kb; have := HGr.out.ne; omega) (.int .i64 (-1))).trans c3
              go_wp2_with fail
              go_ret
              refine ⟨by rw [← HZ.out, ← HZV.out]; rfl, ?_⟩
              have hst := HGr.out.store (nx := true) HP.out HD.out (-1) (by rw [← HZV.out]; rfl) HNN.out
              rw [HZZ.out] at hst
              first | exact ⟨hst.1, HKr.out.trans hst.2⟩ | (rw [set_set]; exact ⟨hst.1, HKr.out.trans hst.2⟩)
        | false =>
          have hx0 : (x == 0) = false := by rw [← HX.out]; rfl
          have hx1 : (x == 1) = true := by rw [← HX.out]; rfl
          have HAT := Aside0.mk hat
          go_wp2_with fail
          clear hat
          go_loopg [11, 12] m (fun gg v11 v12 wr => ∃ i : Nat, i ≤ m ∧ m - i ≤ gg ∧ v12 = .int .i64 i ∧ v11 = .bool true ∧ Aside0 (GameIs l m A c g kb N C base wr) ∧ Aside0 (Keep kb w wr) ∧ Aside0 (∀ j, j < i → fr p.testBit d.testBit j = true → winB l m p (d ||| 2 ^ j) true = true))
          case atStart => exact ⟨0, Nat.zero_le _, by omega, rfl, rfl, HG1, HK1, ⟨fun i hi => absurd hi (Nat.not_lt_zero _)⟩⟩
          case round =>
            clear c1 c2 c3 c4 c5
            obtain ⟨i, hi, hgg, rfl, rfl, HGr, HKr, HNo⟩ := hrel
            obtain ⟨c1, c2, c3⟩ := game_cells HGr.out
            by_cases hlt2 : i < m
            · have hltz2 : (i : Int) < (m : Int) := by omega
              have hbit := bit_busy (i := i) h9 HP.out HD.out
              cases hfr : fr p.testBit d.testBit i with
              | false =>
                have HFR := Aside0.mk hfr
                rw [hfr] at hbit
                clear hfr
                go_wp2_with fail
                go_roundg (m - (i + 1))
                case measure => omega
                case rel =>
                  refine ⟨i + 1, by omega, by omega, by go_num, rfl, HGr, HKr, ⟨fun j hj hf => ?_⟩⟩
                  by_cases e : j = i
                  · subst e; rw [HFR.out] at hf; cases hf
                  · exact HNo.out j (by omega) hf
              | true =>
                have HFR := Aside0.mk hfr
                rw [hfr] at hbit
                obtain ⟨hpb, hdb⟩ := fr_bits hfr
                have hput := put_ask h9 HD.out hlt2 hdb
                clear hfr hpb hdb
                cases hm : winB l m p (d ||| 2 ^ i) true with
                | false =>
                  have HM := Aside0.mk hm
                  clear hm
                  go_wp2_with fail
                  refine (game_call HI.out (nx := true) 0 rfl (by have := cnt_upD hlt2 HFR.out; rw [← tb_up] at this; have := HN.out; omega) HP.out (or_lt HD.out (Nat.pow_lt_pow_right (by decide) hlt2)) HR.out HKr.out HGr.out _ HM.out).mono ?_
                  rintro e w2 ⟨rfl, hG2, hK2⟩
                  have HG2 := Aside0.mk hG2
                  have HK2 := Aside0.mk hK2
                  clear hG2 hK2 c1 c2 c3
                  obtain ⟨c1, c2, c3⟩ := game_cells HG2.out
                  have HZV : Aside0 (false = winB l m p d false) := ⟨(winB_hitD HW.out hlt2 HFR.out HM.out).symm⟩
                  obtain ⟨v9, d4, d5, -⟩ := HG2.out.row.look (nx := false) HNN.out HP.out HD.out
                  rw [HZZ.out] at d4 d5
                  have hat := HAT.out
                  have e3 := (cell_far (W := w2) (p := ⟨kb, Z, none⟩) (a := ⟨g, 2, none⟩) (by show g ≠ kb; have := HG2.out.ne; omega) (.int .i64 (-1))).trans c3
                  go_wp2_with fail
                  go_ret
                  refine ⟨by rw [← HZ.out, ← HZV.out]; rfl, ?_⟩
                  have hst := HG2.out.store (nx := false) HP.out HD.out (-1) (by rw [← HZV.out]; rfl) HNN.out
                  rw [HZZ.out] at hst
                  first | exact ⟨hst.1, HK2.out.trans hst.2⟩ | (rw [set_set]; exact ⟨hst.1, HK2.out.trans hst.2⟩)
                | true =>
                  have HM := Aside0.mk hm
                  clear hm
                  go_wp2_with fail
                  refine (game_call HI.out (nx := true) 0 rfl (by have := cnt_upD hlt2 HFR.out; rw [← tb_up] at this; have := HN.out; omega) HP.out (or_lt HD.out (Nat.pow_lt_pow_right (by decide) hlt2)) HR.out HKr.out HGr.out _ HM.out).mono ?_
                  rintro e w2 ⟨rfl, hG2, hK2⟩
                  have HG2 := Aside0.mk hG2
                  have HK2 := Aside0.mk hK2
                  clear hG2 hK2 c1 c2 c3
                  obtain ⟨c1, c2, c3⟩ := game_cells HG2.out
                  go_wp2_with fail
                  go_roundg (m - (i + 1))
                  case measure => omega
                  case rel =>
                    refine ⟨i + 1, by omega, by omega, by go_num, rfl, HG2, HK2, ⟨fun j hj hf => ?_⟩⟩
                    by_cases e : j = i
                    · subst e; exact HM.out
                    · exact HNo.out j (by omega) hf
            · have hltz2 : ¬ (i : Int) < (m : Int) := by omega
              have HZV : Aside0 (true = winB l m p d false) := ⟨(winB_missD HP.out HD.out HW.out HF.out (fun j hj hf => HNo.out j (by omega) hf)).symm⟩
              obtain ⟨v9, d4, d5, -⟩ := HGr.out.row.look (nx := false) HNN.out HP.out HD.out
              rw [HZZ.out] at d4 d5
              have hat := HAT.out
              have e3 := (cell_far (W := wr) (p := ⟨kb, Z, none⟩) (a := ⟨g, 2, none⟩) (by show g ≠ kb; have := HGr.out.ne; omega) (.int .i64 (-1))).trans c3
              go_wp2_with fail
              go_ret
              refine ⟨by rw [← HZ.out, ← HZV.out]; rfl, ?_⟩
              have hst := HGr.out.store (nx := false) HP.out HD.out (1) (by rw [← HZV.out]; rfl) HNN.out
              rw [HZZ.out] at hst
              first | exact ⟨hst.1, HKr.out.trans hst.2⟩ | (rw [set_set]; exact ⟨hst.1, HKr.out.trans hst.2⟩)
      · have HV0 := Aside0.mk hv0
        have t2 : (v != 0) = true := by rw [bne_iff_ne]; exact hv0
        have t3 : decide (0 < v) = z := by
          rw [HV.out.resolve_left hv0]
          unfold valG
          cases z <;> rfl
        clear hv0
        go_wp2_with fail
        go_ret
        exact ⟨rfl, HG1.out, HK1.out⟩

theorem game_all (l : List Int) (m : Nat) (h9 : m ≤ 9) (hl : okL m l) (A : Option Addr) (c g kb N C base n : Nat) (hN : N = 2 * 2 ^ (2 * m)) : GameSaid l m A c g kb N C base n := by
  induction n with
  | zero => intro p d nx w hn; omega
  | succ n ih => exact game_step l m h9 hl A c g kb N C base n hN ih
end Go.Proofs.Ytbjpjjokamaliaa.A

/- The specification's game: a new one. -/
namespace Go.Proofs.Ytbjpjjokamaliaa.A
open Go.RowKit Go.Proofs.YtbjpjjokamaliaaW.PrintWords Go.Proofs.YtbjpjjokamaliaaW.PrintMore
theorem infoI3 : (Try.prog.info? 3).map (fun i => (i.zero, i.size, i.bytes)) = some (some (.int .i64 0), 1, 8) := by kernel_rfl

theorem own_head {e base N : Nat} {ok : Nat → Prop} {w : World} {v : Value} (h : Kd.R (Kd.int .i64) e w base ok v (List.replicate N 0)) (h0 : 0 < N) : ∃ kb C, v = .slice (some ⟨kb, 0, none⟩) N C := by
  obtain ⟨g, cap, e, _, _⟩ := (Kd.own_of_R h).form (by simpa using h0)
  exact ⟨g, cap, by rw [e]; simp⟩
set_option maxRecDepth 100000 in
set_option maxHeartbeats 800000 in
theorem newGame_calls (l : List Int) (m : Nat) (h1 : 1 ≤ m) (h9 : m ≤ 9) (A : Option Addr) (c : Nat) (w : World) :
    Calls Try.prog 61 #[.int .i64 m, .slice A l.length c] w fun e w' => (∃ g kb C, e = .returned (.pointer (some ⟨g, 0, none⟩)) ∧ GameIs l m A c g kb (2 * 2 ^ (2 * m)) C w.heap.size w') ∧ Below w.heap.size w w' := by
  have hu := Try.underlying105
  have hm0 : (0 : Int) ≤ m := by omega
  have hm9 : (m : Int) ≤ 9 := by omega
  obtain ⟨N, hN⟩ : ∃ N, 2 * 2 ^ (2 * m) = N := ⟨_, rfl⟩
  have hN2 : N ≤ 2 * 2 ^ 18 := by rw [← hN]; exact Nat.mul_le_mul_left 2 (Nat.pow_le_pow_right (by decide) (by omega))
  have hn : wrap64 (2 * 2 ^ (2 * m)) = (N : Int) := by
    have e : ((2 : Int) * 2 ^ (2 * m)) = ((2 * 2 ^ (2 * m) : Nat) : Int) := by simp
    rw [e, hN, wrap64_id (by omega) (by omega)]
  have HNN := Aside0.mk hN
  rw [hN]
  clear hN
  have Q1 : Aside0 ((0 : Int) ≤ wrap64 (2 * 2 ^ (2 * m))) := ⟨by rw [hn]; omega⟩
  have Q2 : Aside0 ((wrap64 (2 * 2 ^ (2 * m))).toNat * 8 ≤ 281474976710656) := ⟨by rw [hn]; omega⟩
  have HH := Aside0.mk hn
  have HL1 : Aside0 (0 < N) := ⟨by rw [← HNN.out]; exact Nat.mul_pos (by decide) (Nat.two_pow_pos _)⟩
  clear hn
  go_enter Try.func61, Try.ntmps61
  go_wp2_with ((with_reducible refine gate_dst (N := 10) rfl ?_); refine Kd.R_make (Kd.int .i64) w.heap.size 3 rfl (N := 10) rfl 22 _ _ rfl (wrap64 (2 * 2 ^ (2 * m))) rfl rfl Try.underlying22 (.int .i64 0) 8 infoI3 rfl (by decide) (by decide) 0 (ok := fun _ => True) (okp := fun _ => True) rfl (fun _ hk => hk) trivial Q1.out Q2.out (Below.refl _ _) (Nat.le_refl _) ?_; intro v1 w1 ho1 hb1 hg1 hn1; clear hg1; rw [HH.out, Int.toNat_natCast] at ho1; obtain ⟨kb, C, rfl⟩ := own_head ho1 HL1.out)
  have hg2 := heap_alloc_new w1 (.cells #[.int .i64 m, .slice A l.length c, .slice (some ⟨kb, 0, none⟩) N C] 105)
  have hb2 : Below w.heap.size w (w1.alloc (.cells #[.int .i64 m, .slice A l.length c, .slice (some ⟨kb, 0, none⟩) N C] 105)) := below_alloc hb1 _
  have hlt := R_blk ho1
  go_ret
  refine ⟨⟨w1.heap.size, kb, C, rfl, hg2, ⟨List.replicate N 0, Kd.R_below ho1 (below_alloc (Below.refl _ _) _), by simp, fun p d nx hp hd => .inl ?_⟩, hlt.2⟩, hb2⟩
  rw [List.getD_eq_getElem?_getD, List.getElem?_replicate]
  split <;> rfl
end Go.Proofs.Ytbjpjjokamaliaa.A

/- few, Field, Written, free, chosen, as they are called (printed). -/
namespace Go.Proofs.Ytbjpjjokamaliaa.B
open Go.Proofs.Ytbjpjjokamaliaa.A
open Go.RowKit Go.Proofs.YtbjpjjokamaliaaW.PrintWords Go.Proofs.YtbjpjjokamaliaaW.PrintLast Go.Proofs.YtbjpjjokamaliaaW.PrintMore
section
attribute [local go_sem] max2_int min2_int max_two min_two max_three min_three max_four min_four   -- for this text's walks alone
set_option linter.unusedVariables false
set_option linter.unusedSimpArgs false
attribute [local go_sem high] eqA59
theorem info3 : (Try.prog.info? 3).map (fun i => (i.zero, i.size, i.bytes)) = some (some (.int .i64 0), 1, 8) := by kernel_rfl
theorem info5 : (Try.prog.info? 5).map (fun i => (i.zero, i.size, i.bytes)) = some (some (.int .u8 0), 1, 1) := by kernel_rfl
/-! ### drovewaylaw04_few: function 11 -/
def drovewaylaw04_few.f (l0 : List Int) (a1 : ByteArray) (a2 : ByteArray) : Option (Bool) := if (l0.length : Int) ≤ 40 then (if (a1.size : Int) ≤ 40 then (some (decide ((a2.size : Int) ≤ 40))) else (some false)) else (some false)
set_option maxHeartbeats 8000000 in
set_option maxRecDepth 100000 in
theorem drovewaylaw04_few.calls (A0 : Option Addr) (c0 : Nat) (l0 : List Int) (a1 : ByteArray) (a2 : ByteArray) (r : Bool) (w : World) (hr0 : Kd.C (Kd.int .i64) w A0 l0.length l0) (hc0 : l0.length ≤ c0) (h : drovewaylaw04_few.f l0 a1 a2 = some r) :
    Calls Try.prog 11 #[.slice A0 l0.length c0, .string a1, .string a2] w fun e w' => e = .returned (.bool r) ∧ Drawn0 w w' := by
  have HR0 := Aside0.mk hr0
  have HC0 := Aside0.mk hc0
  clear hr0 hc0
  have H : (if (l0.length : Int) ≤ 40 then (if (a1.size : Int) ≤ 40 then (some (decide ((a2.size : Int) ≤ 40))) else (some false)) else (some false)) = some r := h
  clear h
  by_cases c4 : (l0.length : Int) ≤ 40
  · rw [if_pos c4] at H
    have c4b0 : decide ((l0.length : Int) ≤ 40) = true := decide_eq_true c4
    have c4b1 : decide (l0.length ≤ 40) = true := decide_eq_true (by omega)
    clear c4
    by_cases c5 : (a1.size : Int) ≤ 40
    · rw [if_pos c5] at H
      have c5b0 : decide ((a1.size : Int) ≤ 40) = true := decide_eq_true c5
      have c5b1 : decide (a1.size ≤ 40) = true := decide_eq_true (by omega)
      clear c5
      obtain rfl := Option.some.inj H
      go_enter Try.func11, Try.ntmps11
      go_wp2
      go_ret
      exact ⟨by first | rfl | (simp; done) | (simp [*]; done), by repeat (first | exact Drawn0.refl _ | apply Drawn0.step)⟩
    · rw [if_neg c5] at H
      have c5b0 : decide ((a1.size : Int) ≤ 40) = false := decide_eq_false c5
      have c5b1 : decide (a1.size ≤ 40) = false := decide_eq_false (by omega)
      clear c5
      obtain rfl := Option.some.inj H
      go_enter Try.func11, Try.ntmps11
      go_wp2
      go_ret
      exact ⟨by first | rfl | (simp; done) | (simp [*]; done), by repeat (first | exact Drawn0.refl _ | apply Drawn0.step)⟩
  · rw [if_neg c4] at H
    have c4b0 : decide ((l0.length : Int) ≤ 40) = false := decide_eq_false c4
    have c4b1 : decide (l0.length ≤ 40) = false := decide_eq_false (by omega)
    clear c4
    obtain rfl := Option.some.inj H
    go_enter Try.func11, Try.ntmps11
    go_wp2
    go_ret
    exact ⟨by first | rfl | (simp; done) | (simp [*]; done), by repeat (first | exact Drawn0.refl _ | apply Drawn0.step)⟩

-- by hand: function 14 (ambush_Winner)

-- by hand: function 20 (ambush_Needs)

-- by hand: function 21 (ambush_Danger)

-- by hand: function 26 (ambush_Pairing)

/-! ### drovewayref04_Field: function 17 -/
mutual
def drovewayref04_Field.j0 : Nat → Int → List Int → Bool → Option (Int)
  | 0, _, _, _ => none
  | k + 1, x0, x1, x11 => if x11 = true then (some 2) else (if (x1.length : Int) > 12 then (some 3) else (drovewayref04_Field.l0 k x0 x1 0))
def drovewayref04_Field.l0 : Nat → Int → List Int → Int → Option (Int)
  | 0, _, _, _ => none
  | k + 1, x0, x1, x5 => if x5 < (x1.length : Int) then (if 0 ≤ x5 then (if (rd x1 x5) < 1 then (some 2) else (if 0 ≤ x0 then (if (rd x1 x5) ≥ (shl .i64 1 x0) then (some 2) else (drovewayref04_Field.l0 k x0 x1 (wrap64 (x5 + 1)))) else (none))) else (none)) else (some 0)
end
def drovewayref04_Field.f (k : Nat) (a0 : Int) (l1 : List Int) : Option (Int) := if a0 < 1 then (drovewayref04_Field.j0 k a0 l1 true) else (drovewayref04_Field.j0 k a0 l1 (decide (a0 > 9)))
theorem drovewayref04_Field.mono_l : ∀ k, (∀ y0 y1 y2, LeO (drovewayref04_Field.j0 k y0 y1 y2) (drovewayref04_Field.j0 (k + 1) y0 y1 y2)) ∧ (∀ y0 y1 y2, LeO (drovewayref04_Field.l0 k y0 y1 y2) (drovewayref04_Field.l0 (k + 1) y0 y1 y2))
  | 0 => ⟨fun _ _ _ r h => by simp [drovewayref04_Field.j0] at h, fun _ _ _ r h => by simp [drovewayref04_Field.l0] at h⟩
  | k + 1 => by
    obtain ⟨ih0, ih1⟩ := drovewayref04_Field.mono_l k
    refine ⟨?_, ?_⟩
    · intro y0 y1 y2
      unfold drovewayref04_Field.j0
      repeat' first
      | (with_reducible exact ih0 _ _ _)
      | (with_reducible exact ih1 _ _ _)
      | (with_reducible exact LeO.refl _)
      | (with_reducible exact LeO.none _)
      | (with_reducible refine LeO.ite ?_ ?_)
      | (with_reducible refine LeO.bind ?_ (fun _ => ?_))
      | exact ih0 _ _ _
      | exact ih1 _ _ _
      | exact LeO.none _
      | refine LeO.ite ?_ ?_
      | refine LeO.bind ?_ (fun _ => ?_)
    · intro y0 y1 y2
      unfold drovewayref04_Field.l0
      repeat' first
      | (with_reducible exact ih0 _ _ _)
      | (with_reducible exact ih1 _ _ _)
      | (with_reducible exact LeO.refl _)
      | (with_reducible exact LeO.none _)
      | (with_reducible refine LeO.ite ?_ ?_)
      | (with_reducible refine LeO.bind ?_ (fun _ => ?_))
      | exact ih0 _ _ _
      | exact ih1 _ _ _
      | exact LeO.none _
      | refine LeO.ite ?_ ?_
      | refine LeO.bind ?_ (fun _ => ?_)
theorem drovewayref04_Field.mono : ∀ a0 a1 k, LeO (drovewayref04_Field.f k a0 a1) (drovewayref04_Field.f (k + 1) a0 a1) := by
  intro a0 a1 k
  obtain ⟨ih0, ih1⟩ := drovewayref04_Field.mono_l k
  unfold drovewayref04_Field.f
  repeat' first
      | (with_reducible exact ih0 _ _ _)
      | (with_reducible exact ih1 _ _ _)
      | (with_reducible exact LeO.refl _)
      | (with_reducible exact LeO.none _)
      | (with_reducible refine LeO.ite ?_ ?_)
      | (with_reducible refine LeO.bind ?_ (fun _ => ?_))
      | exact ih0 _ _ _
      | exact ih1 _ _ _
      | exact LeO.none _
      | refine LeO.ite ?_ ?_
      | refine LeO.bind ?_ (fun _ => ?_)
set_option maxHeartbeats 8000000 in
set_option maxRecDepth 100000 in
theorem drovewayref04_Field.calls (k : Nat) (a0 : Int) (A1 : Option Addr) (c1 : Nat) (l1 : List Int) (r : Int) (w : World) (hr1 : Kd.C (Kd.int .i64) w A1 l1.length l1) (hc1 : l1.length ≤ c1) (h : drovewayref04_Field.f k a0 l1 = some r) :
    Calls Try.prog 17 #[.int .i64 a0, .slice A1 l1.length c1] w fun e w' => e = .returned (.int .i64 r) ∧ Drawn0 w w' := by
  have HR1 := Aside0.mk hr1
  have HC1 := Aside0.mk hc1
  clear hr1 hc1
  have H : (if a0 < 1 then (drovewayref04_Field.j0 k a0 l1 true) else (drovewayref04_Field.j0 k a0 l1 (decide (a0 > 9)))) = some r := h
  clear h
  have HC3 := Aside0.mk H
  clear H
  go_enter Try.func17, Try.ntmps17
  go_upto_region 1 with (fail)
  repeat (go_quiet (fail); go_upto_region 1 with (fail))
  go_cut [11] (fun v11 wc => ∃ (kq : Nat) (x11_2 : Bool), v11 = .bool x11_2 ∧ Aside0 (drovewayref04_Field.j0 kq a0 l1 x11_2 = some r) ∧ Aside0 (kq ≤ k) ∧ Drawn0 w wc)
  case first =>
    have H := HC3.out
    clear HC3
    by_cases c4 : a0 < 1
    · rw [if_pos c4] at H
      have c4b0 : decide (a0 < 1) = true := decide_eq_true c4
      clear c4
      (first | rw [c4b0] | (simp only [i64_w, i32_w]; rw [c4b0]) | skip)
      have H' := Aside0.mk H
      clear H
      go_wp2
      repeat (go_quiet (fail); try go_wp2)
      go_meet
      case rel => exact ⟨_, (true), (by first | rfl | (simp; done) | (simp [*]; done)), H', ⟨by first | omega | exact Nat.le_refl _⟩, by repeat (first | exact Drawn0.refl _ | apply Drawn0.step)⟩
    · rw [if_neg c4] at H
      have c4b0 : decide (a0 < 1) = false := decide_eq_false c4
      clear c4
      (first | rw [c4b0] | (simp only [i64_w, i32_w]; rw [c4b0]) | skip)
      have H' := Aside0.mk H
      clear H
      go_wp2
      repeat (go_quiet (fail); try go_wp2)
      go_meet
      case rel => exact ⟨_, (decide (a0 > 9)), (by first | rfl | (simp; done) | (simp [*]; done)), H', ⟨by first | omega | exact Nat.le_refl _⟩, by repeat (first | exact Drawn0.refl _ | apply Drawn0.step)⟩
  case rest =>
    clear HC3
    try clear c1
    try clear p2
    try clear c4
    try clear c4b0
    obtain ⟨kq, x11_2, rfl, HA, HJ2, ⟨mc2, rfl⟩⟩ := hcut
    cases kq with
    | zero => exact absurd HA.out (by simp [drovewayref04_Field.j0])
    | succ kj2 =>
      have H := HA.out
      clear HA
      simp only [drovewayref04_Field.j0] at H
      by_cases c5 : x11_2 = true
      · subst c5
        have H1 : (some 2) = some r := by rw [if_pos rfl] at H; exact H
        clear H
        have H := H1
        clear H1
        obtain rfl := Option.some.inj H
        go_wp2
        repeat (go_quiet (fail); try go_wp2)
        go_ret
        exact ⟨by first | rfl | (simp; done) | (simp [*]; done), by repeat (first | exact Drawn0.refl _ | apply Drawn0.step)⟩
      · replace c5 := Bool.eq_false_iff.mpr c5
        subst c5
        have H1 : (if (l1.length : Int) > 12 then (some 3) else (drovewayref04_Field.l0 kj2 a0 l1 0)) = some r := by rw [if_neg (show ¬ (false = true) by decide)] at H; exact H
        clear H
        have H := H1
        clear H1
        by_cases c6 : (l1.length : Int) > 12
        · rw [if_pos c6] at H
          have c6b0 : decide (12 < (l1.length : Int)) = true := decide_eq_true c6
          have c6b1 : decide (12 < l1.length) = true := decide_eq_true (by omega)
          clear c6
          obtain rfl := Option.some.inj H
          go_wp2
          repeat (go_quiet (fail); try go_wp2)
          go_ret
          exact ⟨by first | rfl | (simp; done) | (simp [*]; done), by repeat (first | exact Drawn0.refl _ | apply Drawn0.step)⟩
        · rw [if_neg c6] at H
          have c6b0 : decide (12 < (l1.length : Int)) = false := decide_eq_false c6
          have c6b1 : decide (12 < l1.length) = false := decide_eq_false (by omega)
          clear c6
          have H' := Aside0.mk H
          clear H
          go_wp2
          repeat (go_quiet (fail); try go_wp2)
          go_loopg [5] kj2 (fun kq v5 w' => ∃ (x5_2 : Int), v5 = .int .i64 x5_2 ∧ Aside0 (drovewayref04_Field.l0 kq a0 l1 x5_2 = some r) ∧ Aside0 (kq ≤ kj2) ∧ Drawn0 w w')
          case atStart => exact ⟨(0), (by first | rfl | (simp; done) | (simp [*]; done)), H', ⟨Nat.le_refl _⟩, by repeat (first | exact Drawn0.refl _ | apply Drawn0.step)⟩
          case round =>
            clear H'
            try clear c1
            try clear c2
            try clear p2
            try clear c4
            try clear c4b0
            try clear c5
            try clear c6
            try clear c6b0
            try clear c6b1
            try clear p2
            obtain ⟨x5_2, rfl, HA, HK2, ⟨m2, rfl⟩⟩ := hrel
            cases gk with
            | zero => exact absurd HA.out (by simp [drovewayref04_Field.l0])
            | succ k2 =>
              have H := HA.out
              clear HA
              simp only [drovewayref04_Field.l0] at H
              by_cases c7 : x5_2 < (l1.length : Int)
              · rw [if_pos c7] at H
                have c7b0 : decide (x5_2 < (l1.length : Int)) = true := decide_eq_true c7
                clear c7
                by_cases c8 : 0 ≤ x5_2
                · rw [if_pos c8] at H
                  have c8b0 : decide (0 ≤ x5_2) = true := decide_eq_true c8
                  clear c8
                  by_cases c9 : (rd l1 x5_2) < 1
                  · rw [if_pos c9] at H
                    have c9b0 : decide ((rd l1 x5_2) < 1) = true := decide_eq_true c9
                    clear c9
                    obtain rfl := Option.some.inj H
                    have p134 : 0 ≤ (x5_2 : Int) := of_decide_eq_true (by first | (with_reducible assumption) | assumption)
                    have q134 : x5_2 < (l1.length : Int) := of_decide_eq_true (by first | (with_reducible assumption) | assumption)
                    obtain ⟨ad134, e134, hx134_0⟩ := Kd.at_int HR1.out x5_2 p134 q134
                    cases e134
                    replace p134 := eq_true p134
                    replace q134 := eq_true q134
                    go_wp2
                    repeat (go_quiet (fail); try go_wp2)
                    go_ret
                    exact ⟨by first | rfl | (simp; done) | (simp [*]; done), by repeat (first | exact Drawn0.refl _ | apply Drawn0.step)⟩
                  · rw [if_neg c9] at H
                    have c9b0 : decide ((rd l1 x5_2) < 1) = false := decide_eq_false c9
                    clear c9
                    by_cases c10 : 0 ≤ a0
                    · rw [if_pos c10] at H
                      have c10b0 := eq_true c10
                      have c10b1 : decide (0 ≤ a0) = true := decide_eq_true c10
                      clear c10
                      obtain ⟨ji11, hji11⟩ : ∃ j_ : Int, (shl .i64 1 a0) = j_ := ⟨_, rfl⟩
                      replace H : (if (rd l1 x5_2) ≥ (ji11) then (some 2) else (drovewayref04_Field.l0 k2 a0 l1 (wrap64 (x5_2 + 1)))) = some r := by first | (rw [hji11] at H; exact H) | (simp only [hji11] at H ⊢; exact H)
                      have hji11_ : (IntKind.i64.wrap (1 * 2 ^ min a0.toNat 64)) = ji11 := hji11
                      have hji11z : a0 ≤ 64 → (IntKind.i64.wrap (1 * 2 ^ a0.toNat)) = ji11 := shl_small hji11
                      have hji11u : (IntKind.i64.wrap (2 ^ min a0.toNat 64)) = ji11 := by have h_ := hji11_; rw [Int.one_mul] at h_; exact h_
                      have hji11v : a0 ≤ 64 → (IntKind.i64.wrap (2 ^ a0.toNat)) = ji11 := fun hle_ => by have h_ := hji11z hle_; rw [Int.one_mul] at h_; exact h_
                      have hji11y : (wrap64 (1 * 2 ^ min a0.toNat 64)) = ji11 := (i64_w _).symm.trans hji11_
                      have hji11x : a0 ≤ 64 → (wrap64 (1 * 2 ^ a0.toNat)) = ji11 := fun h_ => (i64_w _).symm.trans (hji11z h_)
                      by_cases c12 : (rd l1 x5_2) ≥ (ji11)
                      · rw [if_pos c12] at H
                        have c12b0 : decide ((ji11) ≤ (rd l1 x5_2)) = true := decide_eq_true c12
                        clear c12
                        obtain rfl := Option.some.inj H
                        have p134 : 0 ≤ (x5_2 : Int) := of_decide_eq_true (by first | (with_reducible assumption) | assumption)
                        have q134 : x5_2 < (l1.length : Int) := of_decide_eq_true (by first | (with_reducible assumption) | assumption)
                        obtain ⟨ad134, e134, hx134_0⟩ := Kd.at_int HR1.out x5_2 p134 q134
                        cases e134
                        replace p134 := eq_true p134
                        replace q134 := eq_true q134
                        have p135 : 0 ≤ (x5_2 : Int) := of_decide_eq_true (by first | (with_reducible assumption) | assumption)
                        have q135 : x5_2 < (l1.length : Int) := of_decide_eq_true (by first | (with_reducible assumption) | assumption)
                        obtain ⟨ad135, e135, hx135_0⟩ := Kd.at_int HR1.out x5_2 p135 q135
                        obtain rfl : ad134 = ad135 := (by injection e135)
                        replace p135 := eq_true p135
                        replace q135 := eq_true q135
                        go_wp2
                        repeat (go_quiet (fail); try go_wp2)
                        go_ret
                        exact ⟨by first | rfl | (simp; done) | (simp only [← hji11] <;> (first | rfl | simp)) | (simp [*]; done), by repeat (first | exact Drawn0.refl _ | apply Drawn0.step)⟩
                      · rw [if_neg c12] at H
                        have c12b0 : decide ((ji11) ≤ (rd l1 x5_2)) = false := decide_eq_false c12
                        clear c12
                        have H' := Aside0.mk H
                        clear H
                        have p134 : 0 ≤ (x5_2 : Int) := of_decide_eq_true (by first | (with_reducible assumption) | assumption)
                        have q134 : x5_2 < (l1.length : Int) := of_decide_eq_true (by first | (with_reducible assumption) | assumption)
                        obtain ⟨ad134, e134, hx134_0⟩ := Kd.at_int HR1.out x5_2 p134 q134
                        cases e134
                        replace p134 := eq_true p134
                        replace q134 := eq_true q134
                        have p135 : 0 ≤ (x5_2 : Int) := of_decide_eq_true (by first | (with_reducible assumption) | assumption)
                        have q135 : x5_2 < (l1.length : Int) := of_decide_eq_true (by first | (with_reducible assumption) | assumption)
                        obtain ⟨ad135, e135, hx135_0⟩ := Kd.at_int HR1.out x5_2 p135 q135
                        obtain rfl : ad134 = ad135 := (by injection e135)
                        replace p135 := eq_true p135
                        replace q135 := eq_true q135
                        go_wp2
                        repeat (go_quiet (fail); try go_wp2)
                        go_roundg k2
                        case measure => have := HJ2.out; have := HK2.out; omega
                        case rel => exact ⟨(wrap64 (x5_2 + 1)), (by first | rfl | (simp; done) | (simp [*]; done)), H', ⟨by have := HJ2.out; have := HK2.out; omega⟩, by repeat (first | exact Drawn0.refl _ | apply Drawn0.step)⟩
                    · rw [if_neg c10] at H
                      exact absurd H (by simp)
                · rw [if_neg c8] at H
                  exact absurd H (by simp)
              · rw [if_neg c7] at H
                have c7b0 : decide (x5_2 < (l1.length : Int)) = false := decide_eq_false c7
                clear c7
                obtain rfl := Option.some.inj H
                go_wp2
                repeat (go_quiet (fail); try go_wp2)
                go_ret
                exact ⟨by first | rfl | (simp; done) | (simp [*]; done), by repeat (first | exact Drawn0.refl _ | apply Drawn0.step)⟩

/-! ### drovewayref04_Written: function 18 -/
def drovewayref04_Written.l0 : Nat → Int → Int → Int → List Int → Int → Option (ByteArray)
  | 0, _, _, _, _, _ => none
  | k + 1, x0, x1, x2, x7, x8 => if x8 < x0 then (if 0 ≤ x8 then (if x8 < (x7.length : Int) then ((some (x7.set (x8 : Int).toNat 46 : List Int)).bind fun y139 => (if (Int.tmod (shr .i64 x1 x8) 2) = 1 then (drovewayref04_Written.l0 k x0 x1 x2 (y139.set (x8 : Int).toNat 119) (wrap64 (x8 + 1))) else (if (Int.tmod (shr .i64 x2 x8) 2) = 1 then (drovewayref04_Written.l0 k x0 x1 x2 (y139.set (x8 : Int).toNat 100) (wrap64 (x8 + 1))) else (drovewayref04_Written.l0 k x0 x1 x2 y139 (wrap64 (x8 + 1)))))) else (none)) else (none)) else (some (strOfNums x7))
def drovewayref04_Written.f (k : Nat) (a0 : Int) (a1 : Int) (a2 : Int) : Option (ByteArray) := if 0 ≤ a0 then (if (a0 : Int).toNat ≤ 281474976710656 then (drovewayref04_Written.l0 k a0 a1 a2 (List.replicate (a0 : Int).toNat 0) 0) else (none)) else (none)
theorem drovewayref04_Written.mono_l : ∀ k, (∀ y0 y1 y2 y3 y4, LeO (drovewayref04_Written.l0 k y0 y1 y2 y3 y4) (drovewayref04_Written.l0 (k + 1) y0 y1 y2 y3 y4))
  | 0 => fun _ _ _ _ _ r h => by simp [drovewayref04_Written.l0] at h
  | k + 1 => by
    have ih0 := drovewayref04_Written.mono_l k
    · intro y0 y1 y2 y3 y4
      unfold drovewayref04_Written.l0
      repeat' first
      | (with_reducible exact ih0 _ _ _ _ _)
      | (with_reducible exact LeO.refl _)
      | (with_reducible exact LeO.none _)
      | (with_reducible refine LeO.ite ?_ ?_)
      | (with_reducible refine LeO.bind ?_ (fun _ => ?_))
      | exact ih0 _ _ _ _ _
      | exact LeO.none _
      | refine LeO.ite ?_ ?_
      | refine LeO.bind ?_ (fun _ => ?_)
theorem drovewayref04_Written.mono : ∀ a0 a1 a2 k, LeO (drovewayref04_Written.f k a0 a1 a2) (drovewayref04_Written.f (k + 1) a0 a1 a2) := by
  intro a0 a1 a2 k
  have ih0 := drovewayref04_Written.mono_l k
  unfold drovewayref04_Written.f
  repeat' first
      | (with_reducible exact ih0 _ _ _ _ _)
      | (with_reducible exact LeO.refl _)
      | (with_reducible exact LeO.none _)
      | (with_reducible refine LeO.ite ?_ ?_)
      | (with_reducible refine LeO.bind ?_ (fun _ => ?_))
      | exact ih0 _ _ _ _ _
      | exact LeO.none _
      | refine LeO.ite ?_ ?_
      | refine LeO.bind ?_ (fun _ => ?_)
set_option maxHeartbeats 8000000 in
set_option maxRecDepth 100000 in
theorem drovewayref04_Written.calls (k : Nat) (a0 : Int) (a1 : Int) (a2 : Int) (r : ByteArray) (w : World) (h : drovewayref04_Written.f k a0 a1 a2 = some r) :
    Calls Try.prog 18 #[.int .i64 a0, .int .i64 a1, .int .i64 a2] w fun e w' => e = .returned (.string r) ∧ Below w.heap.size w w' := by
  have HB := Aside0.mk (Below.refl w.heap.size w)
  have H : (if 0 ≤ a0 then (if (a0 : Int).toNat ≤ 281474976710656 then (drovewayref04_Written.l0 k a0 a1 a2 (List.replicate (a0 : Int).toNat 0) 0) else (none)) else (none)) = some r := h
  clear h
  by_cases c4 : 0 ≤ a0
  · rw [if_pos c4] at H
    have c4b0 := eq_true c4
    have c4b1 : decide (0 ≤ a0) = true := decide_eq_true c4
    clear c4
    by_cases c5 : (a0 : Int).toNat ≤ 281474976710656
    · rw [if_pos c5] at H
      have c5b0 := eq_true c5
      have c5b1 : decide ((a0 : Int).toNat ≤ 281474976710656) = true := decide_eq_true c5
      clear c5
      obtain ⟨y136, hy136⟩ : ∃ y_ : List Int, y_ = (List.replicate (a0 : Int).toNat 0) := ⟨_, rfl⟩
      replace H : (drovewayref04_Written.l0 k a0 a1 a2 y136 0) = some r := by first | (rw [hy136]; with_reducible exact H) | (have H2_ := (Option.bind_some _ _).symm.trans H; rw [hy136]; with_reducible exact H2_) | (have H2_ := (Option.bind_some _ _).symm.trans H; with_reducible exact H2_) | with_reducible exact H | (rw [hy136]; exact H) | exact H
      have Ny136 := Aside0.mk hy136
      clear hy136
      have H' := Aside0.mk H
      clear H
      go_enter Try.func18, Try.ntmps18
      go_wp2_with (first | ((with_reducible refine gate_dst (N := 10) rfl ?_); refine Kd.R_make (Kd.int .u8) _ 5 rfl (N := 10) rfl 43 _ _ rfl a0 rfl rfl Try.underlying43 (.int .u8 0) 1 info5 rfl (by decide) (by omega) 0 (ok := fun _ => True) (okp := fun _ => True) rfl (fun _ hk => hk) trivial (of_decide_eq_true (by first | (with_reducible assumption) | assumption)) (Nat.le_trans (Nat.mul_le_mul_right _ (of_decide_eq_true (by first | (with_reducible assumption) | assumption) : a0.toNat ≤ 281474976710656)) (by omega)) (Below.refl _ _) (Nat.le_refl _) ?_; intro v137 w6 ho7 hb hg_ hnew_; clear hg_ hnew_; (first | rw [← Ny136.out] at ho7 | (simp only [Int.reduceToNat] at ho7; rw [← Ny136.out] at ho7)); have n0_ := Aside0.mk (Kd.R_lower ho7 (below_size (by repeat (first | (with_reducible first | exact HB.out | apply below_alloc | apply pw_below_drewN | apply below_drew1) | exact HB.out)))); have n1_ := Aside0.mk (below_step (by repeat (first | (with_reducible first | exact HB.out | apply below_alloc | apply pw_below_drewN | apply below_drew1) | exact HB.out)) hb); clear HB; have HO138 := n0_; have HB := n1_; clear n0_ n1_; clear hb ho7))
      go_loopg [8] k (fun kq v8 w' => ∃ (x7_1 : List Int) (x8_1 : Int), v8 = .int .i64 x8_1 ∧ Aside0 (drovewayref04_Written.l0 kq a0 a1 a2 x7_1 x8_1 = some r) ∧ Aside0 (kq ≤ k) ∧ Aside0 (Kd.R (Kd.int .u8) 5 w' w.heap.size (fun _ => True) v137 x7_1) ∧ Aside0 (Below w.heap.size w w'))
      case atStart => exact ⟨(y136), (0), (by first | rfl | (simp; done) | (simp [*]; done)), H', ⟨Nat.le_refl _⟩, ⟨by (with_reducible repeat (first | apply Kd.R_alloc | apply Kd.R_drewN | apply Kd.R_drew)); exact HO138.out⟩, ⟨by repeat (first | (with_reducible first | exact HB.out | apply below_alloc | apply pw_below_drewN | apply below_drew1) | exact HB.out)⟩⟩
      case round =>
        clear H'
        try clear c1
        try clear p2
        try clear c4
        try clear c4b0
        try clear c4b1
        try clear c5
        try clear c5b0
        try clear c5b1
        obtain ⟨x7_1, x8_1, rfl, HA, HK1, HO_7, HB⟩ := hrel
        cases gk with
        | zero => exact absurd HA.out (by simp [drovewayref04_Written.l0])
        | succ k1 =>
          have H := HA.out
          clear HA
          simp only [drovewayref04_Written.l0] at H
          by_cases c8 : x8_1 < a0
          · rw [if_pos c8] at H
            have c8b0 : decide (x8_1 < a0) = true := decide_eq_true c8
            clear c8
            by_cases c9 : 0 ≤ x8_1
            · rw [if_pos c9] at H
              have c9b0 : decide (0 ≤ x8_1) = true := decide_eq_true c9
              clear c9
              by_cases c10 : x8_1 < (x7_1.length : Int)
              · rw [if_pos c10] at H
                have c10b0 : decide (x8_1 < (x7_1.length : Int)) = true := decide_eq_true c10
                clear c10
                obtain ⟨y139, hy139⟩ : ∃ y_ : List Int, y_ = (x7_1.set (x8_1 : Int).toNat 46) := ⟨_, rfl⟩
                replace H : (if (Int.tmod (shr .i64 a1 x8_1) 2) = 1 then (drovewayref04_Written.l0 k1 a0 a1 a2 (y139.set (x8_1 : Int).toNat 119) (wrap64 (x8_1 + 1))) else (if (Int.tmod (shr .i64 a2 x8_1) 2) = 1 then (drovewayref04_Written.l0 k1 a0 a1 a2 (y139.set (x8_1 : Int).toNat 100) (wrap64 (x8_1 + 1))) else (drovewayref04_Written.l0 k1 a0 a1 a2 y139 (wrap64 (x8_1 + 1))))) = some r := by first | (rw [hy139]; with_reducible exact H) | (have H2_ := (Option.bind_some _ _).symm.trans H; rw [hy139]; with_reducible exact H2_) | (have H2_ := (Option.bind_some _ _).symm.trans H; with_reducible exact H2_) | with_reducible exact H | (rw [hy139]; exact H) | exact H
                have Ny139 := Aside0.mk hy139
                clear hy139
                have c12b0 := eq_true (of_decide_eq_true (by first | (with_reducible assumption) | assumption) : 0 ≤ x8_1)
                obtain ⟨ji13, hji13⟩ : ∃ j_ : Int, (shr .i64 a1 x8_1) = j_ := ⟨_, rfl⟩
                replace H : (if (Int.tmod (ji13) 2) = 1 then (drovewayref04_Written.l0 k1 a0 a1 a2 (y139.set (x8_1 : Int).toNat 119) (wrap64 (x8_1 + 1))) else (if (Int.tmod (shr .i64 a2 x8_1) 2) = 1 then (drovewayref04_Written.l0 k1 a0 a1 a2 (y139.set (x8_1 : Int).toNat 100) (wrap64 (x8_1 + 1))) else (drovewayref04_Written.l0 k1 a0 a1 a2 y139 (wrap64 (x8_1 + 1))))) = some r := by first | (rw [hji13] at H; exact H) | (simp only [hji13] at H ⊢; exact H)
                have hji13_ : (a1 / 2 ^ min x8_1.toNat 64) = ji13 := hji13
                have hji13z : x8_1 ≤ 64 → (a1 / 2 ^ x8_1.toNat) = ji13 := shr_small hji13
                by_cases c14 : (Int.tmod (ji13) 2) = 1
                · rw [if_pos c14] at H
                  have c14b0 : ((Int.tmod (ji13) 2) == 1) = true := beq_iff_eq.mpr c14
                  have c14b1 : ((Int.tmod (ji13) 2) != 1) = false := bne_eq_false_iff_eq.mpr c14
                  clear c14
                  obtain ⟨y140, hy140⟩ : ∃ y_ : List Int, y_ = (y139.set (x8_1 : Int).toNat 119) := ⟨_, rfl⟩
                  replace H : (drovewayref04_Written.l0 k1 a0 a1 a2 y140 (wrap64 (x8_1 + 1))) = some r := by first | (rw [hy140]; with_reducible exact H) | (have H2_ := (Option.bind_some _ _).symm.trans H; rw [hy140]; with_reducible exact H2_) | (have H2_ := (Option.bind_some _ _).symm.trans H; with_reducible exact H2_) | with_reducible exact H | (rw [hy140]; exact H) | exact H
                  have Ny140 := Aside0.mk hy140
                  clear hy140
                  have H' := Aside0.mk H
                  clear H
                  have p11 : 0 ≤ (x8_1 : Int) := of_decide_eq_true (by first | (with_reducible assumption) | assumption)
                  have q11 : (x8_1 : Int) < ((x7_1.length : Int) : Int) := of_decide_eq_true (by first | (with_reducible assumption) | assumption)
                  obtain ⟨go11, co11, eo11, gb11, gl11, cl11, HG11⟩ := Kd.R_form HO_7.out (by omega)
                  (first | cases eo11 | (injection eo11 with ea_ en_ ec_; (first | subst ea_ | (injection ea_ with ea_; subst ea_)); subst ec_; clear en_))
                  have GB11 := Aside0.mk gb11
                  have GG11 := Aside0.mk HG11
                  clear gb11 gl11 HG11
                  obtain ⟨hx11_0, hf11_0⟩ := Kd.R_celln 0 HO_7.out (x8_1 : Int) p11 q11
                  replace p11 := eq_true p11
                  replace q11 := eq_true q11
                  have HP16 := Kd.R_putg HO_7.out (x8_1 : Int) 46
                  go_wp2_with (first | ((with_reducible refine gate_store (t := 5) (p := 18) rfl ?_); refine store_event (t := 5) (p := 18) (v := ?vo_w17) (w1 := (wr.setCell ⟨go11, (x8_1 : Int).toNat, none⟩ (.int .u8 46))) ?hg ?ho ?hn ?hr ?_; (case ho => rfl); (case hg => rfl); (case hn => rfl); (case hr => first | (go_simp; done) | (go_simp; rfl)); intro w17 hw; have hg : wr.grownBy w17 (some go11) := (by rw [hw]; exact HP16.2); have hp_ : Kd.R (Kd.int .u8) 5 w17 w.heap.size (fun _ => True) (.slice (some ⟨go11, 0, none⟩) x7_1.length co11) y139 := (by rw [hw, Ny139.out]; exact HP16.1); clear HP16; have n0_ := Aside0.mk (hp_); have n1_ := Aside0.mk ((by rw [hw]; exact below_set (HB.out) GB11.out : Below w.heap.size w w17)); clear HO_7; clear HB; have HO_7 := n0_; have HB := n1_; clear n0_ n1_; clear hg hw hp_; have p15 : 0 ≤ (x8_1 : Int) := of_decide_eq_true (by first | (with_reducible assumption) | assumption); have q15 : (x8_1 : Int) < ((x7_1.length : Int) : Int) := of_decide_eq_true (by first | (with_reducible assumption) | assumption); obtain ⟨hx15_0, hf15_0⟩ := Kd.R_celln 0 HO_7.out (x8_1 : Int) p15 q15; replace p15 := eq_true p15; replace q15 := eq_true q15; obtain ⟨hy18_, hz18_⟩ := Kd.R_celln 0 HO_7.out (x8_1 : Int) (of_decide_eq_true (by first | (with_reducible assumption) | assumption)) (of_decide_eq_true (by first | (with_reducible assumption) | assumption)); have HP18 := Kd.R_putg HO_7.out (x8_1 : Int) 119) | ((with_reducible refine gate_store (t := 5) (p := 26) rfl ?_); refine store_event (t := 5) (p := 26) (v := ?vo_w19) (w1 := (w17.setCell ⟨go11, (x8_1 : Int).toNat, none⟩ (.int .u8 119))) ?hg ?ho ?hn ?hr ?_; (case ho => rfl); (case hg => rfl); (case hn => rfl); (case hr => first | (go_simp; done) | (go_simp; rfl)); intro w19 hw; have hg : w17.grownBy w19 (some go11) := (by rw [hw]; exact HP18.2); have hp_ : Kd.R (Kd.int .u8) 5 w19 w.heap.size (fun _ => True) (.slice (some ⟨go11, 0, none⟩) x7_1.length co11) y140 := (by rw [hw, Ny140.out]; exact HP18.1); clear HP18; have n0_ := Aside0.mk (hp_); have n1_ := Aside0.mk ((by rw [hw]; exact below_set (HB.out) GB11.out : Below w.heap.size w w19)); clear HO_7; clear HB; have HO_7 := n0_; have HB := n1_; clear n0_ n1_; clear hg hw hp_))
                  go_roundg k1
                  case measure => have := HK1.out; omega
                  case rel => exact ⟨(y140), (wrap64 (x8_1 + 1)), (by first | rfl | (simp; done) | (simp [*]; done)), H', ⟨by have := HK1.out; omega⟩, ⟨by (with_reducible repeat (first | apply Kd.R_alloc | apply Kd.R_drewN | apply Kd.R_drew)); exact HO_7.out⟩, ⟨by repeat (first | (with_reducible first | exact HB.out | apply below_alloc | apply pw_below_drewN | apply below_drew1) | exact HB.out)⟩⟩
                · rw [if_neg c14] at H
                  have c14b0 : ((Int.tmod (ji13) 2) == 1) = false := beq_eq_false_iff_ne.mpr c14
                  have c14b1 : ((Int.tmod (ji13) 2) != 1) = true := bne_iff_ne.mpr c14
                  have c20b0 := eq_true (of_decide_eq_true (by first | (with_reducible assumption) | assumption) : 0 ≤ x8_1)
                  obtain ⟨ji21, hji21⟩ : ∃ j_ : Int, (shr .i64 a2 x8_1) = j_ := ⟨_, rfl⟩
                  replace H : (if (Int.tmod (ji21) 2) = 1 then (drovewayref04_Written.l0 k1 a0 a1 a2 (y139.set (x8_1 : Int).toNat 100) (wrap64 (x8_1 + 1))) else (drovewayref04_Written.l0 k1 a0 a1 a2 y139 (wrap64 (x8_1 + 1)))) = some r := by first | (rw [hji21] at H; exact H) | (simp only [hji21] at H ⊢; exact H)
                  have hji21_ : (a2 / 2 ^ min x8_1.toNat 64) = ji21 := hji21
                  have hji21z : x8_1 ≤ 64 → (a2 / 2 ^ x8_1.toNat) = ji21 := shr_small hji21
                  by_cases c22 : (Int.tmod (ji21) 2) = 1
                  · rw [if_pos c22] at H
                    have c22b0 : ((Int.tmod (ji21) 2) == 1) = true := beq_iff_eq.mpr c22
                    have c22b1 : ((Int.tmod (ji21) 2) != 1) = false := bne_eq_false_iff_eq.mpr c22
                    clear c22
                    obtain ⟨y141, hy141⟩ : ∃ y_ : List Int, y_ = (y139.set (x8_1 : Int).toNat 100) := ⟨_, rfl⟩
                    replace H : (drovewayref04_Written.l0 k1 a0 a1 a2 y141 (wrap64 (x8_1 + 1))) = some r := by first | (rw [hy141]; with_reducible exact H) | (have H2_ := (Option.bind_some _ _).symm.trans H; rw [hy141]; with_reducible exact H2_) | (have H2_ := (Option.bind_some _ _).symm.trans H; with_reducible exact H2_) | with_reducible exact H | (rw [hy141]; exact H) | exact H
                    have Ny141 := Aside0.mk hy141
                    clear hy141
                    have H' := Aside0.mk H
                    clear H
                    have p11 : 0 ≤ (x8_1 : Int) := of_decide_eq_true (by first | (with_reducible assumption) | assumption)
                    have q11 : (x8_1 : Int) < ((x7_1.length : Int) : Int) := of_decide_eq_true (by first | (with_reducible assumption) | assumption)
                    obtain ⟨go11, co11, eo11, gb11, gl11, cl11, HG11⟩ := Kd.R_form HO_7.out (by omega)
                    (first | cases eo11 | (injection eo11 with ea_ en_ ec_; (first | subst ea_ | (injection ea_ with ea_; subst ea_)); subst ec_; clear en_))
                    have GB11 := Aside0.mk gb11
                    have GG11 := Aside0.mk HG11
                    clear gb11 gl11 HG11
                    obtain ⟨hx11_0, hf11_0⟩ := Kd.R_celln 0 HO_7.out (x8_1 : Int) p11 q11
                    replace p11 := eq_true p11
                    replace q11 := eq_true q11
                    have HP24 := Kd.R_putg HO_7.out (x8_1 : Int) 46
                    go_wp2_with (first | ((with_reducible refine gate_store (t := 5) (p := 18) rfl ?_); refine store_event (t := 5) (p := 18) (v := ?vo_w25) (w1 := (wr.setCell ⟨go11, (x8_1 : Int).toNat, none⟩ (.int .u8 46))) ?hg ?ho ?hn ?hr ?_; (case ho => rfl); (case hg => rfl); (case hn => rfl); (case hr => first | (go_simp; done) | (go_simp; rfl)); intro w25 hw; have hg : wr.grownBy w25 (some go11) := (by rw [hw]; exact HP24.2); have hp_ : Kd.R (Kd.int .u8) 5 w25 w.heap.size (fun _ => True) (.slice (some ⟨go11, 0, none⟩) x7_1.length co11) y139 := (by rw [hw, Ny139.out]; exact HP24.1); clear HP24; have n0_ := Aside0.mk (hp_); have n1_ := Aside0.mk ((by rw [hw]; exact below_set (HB.out) GB11.out : Below w.heap.size w w25)); clear HO_7; clear HB; have HO_7 := n0_; have HB := n1_; clear n0_ n1_; clear hg hw hp_; have p23 : 0 ≤ (x8_1 : Int) := of_decide_eq_true (by first | (with_reducible assumption) | assumption); have q23 : (x8_1 : Int) < ((x7_1.length : Int) : Int) := of_decide_eq_true (by first | (with_reducible assumption) | assumption); obtain ⟨hx23_0, hf23_0⟩ := Kd.R_celln 0 HO_7.out (x8_1 : Int) p23 q23; replace p23 := eq_true p23; replace q23 := eq_true q23; obtain ⟨hy26_, hz26_⟩ := Kd.R_celln 0 HO_7.out (x8_1 : Int) (of_decide_eq_true (by first | (with_reducible assumption) | assumption)) (of_decide_eq_true (by first | (with_reducible assumption) | assumption)); have HP26 := Kd.R_putg HO_7.out (x8_1 : Int) 100) | ((with_reducible refine gate_store (t := 5) (p := 34) rfl ?_); refine store_event (t := 5) (p := 34) (v := ?vo_w27) (w1 := (w25.setCell ⟨go11, (x8_1 : Int).toNat, none⟩ (.int .u8 100))) ?hg ?ho ?hn ?hr ?_; (case ho => rfl); (case hg => rfl); (case hn => rfl); (case hr => first | (go_simp; done) | (go_simp; rfl)); intro w27 hw; have hg : w25.grownBy w27 (some go11) := (by rw [hw]; exact HP26.2); have hp_ : Kd.R (Kd.int .u8) 5 w27 w.heap.size (fun _ => True) (.slice (some ⟨go11, 0, none⟩) x7_1.length co11) y141 := (by rw [hw, Ny141.out]; exact HP26.1); clear HP26; have n0_ := Aside0.mk (hp_); have n1_ := Aside0.mk ((by rw [hw]; exact below_set (HB.out) GB11.out : Below w.heap.size w w27)); clear HO_7; clear HB; have HO_7 := n0_; have HB := n1_; clear n0_ n1_; clear hg hw hp_))
                    go_roundg k1
                    case measure => have := HK1.out; omega
                    case rel => exact ⟨(y141), (wrap64 (x8_1 + 1)), (by first | rfl | (simp; done) | (simp [*]; done)), H', ⟨by have := HK1.out; omega⟩, ⟨by (with_reducible repeat (first | apply Kd.R_alloc | apply Kd.R_drewN | apply Kd.R_drew)); exact HO_7.out⟩, ⟨by repeat (first | (with_reducible first | exact HB.out | apply below_alloc | apply pw_below_drewN | apply below_drew1) | exact HB.out)⟩⟩
                  · rw [if_neg c22] at H
                    have c22b0 : ((Int.tmod (ji21) 2) == 1) = false := beq_eq_false_iff_ne.mpr c22
                    have c22b1 : ((Int.tmod (ji21) 2) != 1) = true := bne_iff_ne.mpr c22
                    have H' := Aside0.mk H
                    clear H
                    have p11 : 0 ≤ (x8_1 : Int) := of_decide_eq_true (by first | (with_reducible assumption) | assumption)
                    have q11 : (x8_1 : Int) < ((x7_1.length : Int) : Int) := of_decide_eq_true (by first | (with_reducible assumption) | assumption)
                    obtain ⟨go11, co11, eo11, gb11, gl11, cl11, HG11⟩ := Kd.R_form HO_7.out (by omega)
                    (first | cases eo11 | (injection eo11 with ea_ en_ ec_; (first | subst ea_ | (injection ea_ with ea_; subst ea_)); subst ec_; clear en_))
                    have GB11 := Aside0.mk gb11
                    have GG11 := Aside0.mk HG11
                    clear gb11 gl11 HG11
                    obtain ⟨hx11_0, hf11_0⟩ := Kd.R_celln 0 HO_7.out (x8_1 : Int) p11 q11
                    replace p11 := eq_true p11
                    replace q11 := eq_true q11
                    have HP28 := Kd.R_putg HO_7.out (x8_1 : Int) 46
                    go_wp2_with (first | ((with_reducible refine gate_store (t := 5) (p := 18) rfl ?_); refine store_event (t := 5) (p := 18) (v := ?vo_w29) (w1 := (wr.setCell ⟨go11, (x8_1 : Int).toNat, none⟩ (.int .u8 46))) ?hg ?ho ?hn ?hr ?_; (case ho => rfl); (case hg => rfl); (case hn => rfl); (case hr => first | (go_simp; done) | (go_simp; rfl)); intro w29 hw; have hg : wr.grownBy w29 (some go11) := (by rw [hw]; exact HP28.2); have hp_ : Kd.R (Kd.int .u8) 5 w29 w.heap.size (fun _ => True) (.slice (some ⟨go11, 0, none⟩) x7_1.length co11) y139 := (by rw [hw, Ny139.out]; exact HP28.1); clear HP28; have n0_ := Aside0.mk (hp_); have n1_ := Aside0.mk ((by rw [hw]; exact below_set (HB.out) GB11.out : Below w.heap.size w w29)); clear HO_7; clear HB; have HO_7 := n0_; have HB := n1_; clear n0_ n1_; clear hg hw hp_))
                    go_roundg k1
                    case measure => have := HK1.out; omega
                    case rel => exact ⟨(y139), (wrap64 (x8_1 + 1)), (by first | rfl | (simp; done) | (simp [*]; done)), H', ⟨by have := HK1.out; omega⟩, ⟨by (with_reducible repeat (first | apply Kd.R_alloc | apply Kd.R_drewN | apply Kd.R_drew)); exact HO_7.out⟩, ⟨by repeat (first | (with_reducible first | exact HB.out | apply below_alloc | apply pw_below_drewN | apply below_drew1) | exact HB.out)⟩⟩
              · rw [if_neg c10] at H
                exact absurd H (by simp)
            · rw [if_neg c9] at H
              exact absurd H (by simp)
          · rw [if_neg c8] at H
            have c8b0 : decide (x8_1 < a0) = false := decide_eq_false c8
            clear c8
            obtain rfl := Option.some.inj H
            have hcv30 := own_string (P := Try.prog) Try.underlying43 Try.underlying5 Try.underlying9 (Kd.own_of_R HO_7.out)
            go_wp2
            go_ret
            exact ⟨by first | rfl | (simp [errW_none, errW_some] <;> rfl) | (simp [*, errW_none, errW_some] <;> rfl), by repeat (first | (with_reducible first | exact HB.out | apply below_alloc | apply pw_below_drewN | apply below_drew1) | exact HB.out)⟩
    · rw [if_neg c5] at H
      exact absurd H (by simp)
  · rw [if_neg c4] at H
    exact absurd H (by simp)

-- by hand: function 19 (ambush_Guards)

/-! ### drovewaylaw04_free: function 16 -/
def drovewaylaw04_free.l0 : Nat → ByteArray → Int → Int → Option (Int)
  | 0, _, _, _ => none
  | k + 1, x0, x3, x4 => if x4 < (x0.size : Int) then (if 0 ≤ x4 then (if (bt x0 x4) = 46 then (drovewaylaw04_free.l0 k x0 (wrap64 (x3 + 1)) (wrap64 (x4 + 1))) else (drovewaylaw04_free.l0 k x0 x3 (wrap64 (x4 + 1)))) else (none)) else (some x3)
def drovewaylaw04_free.f (k : Nat) (a0 : ByteArray) : Option (Int) := drovewaylaw04_free.l0 k a0 0 0
theorem drovewaylaw04_free.mono_l : ∀ k, (∀ y0 y1 y2, LeO (drovewaylaw04_free.l0 k y0 y1 y2) (drovewaylaw04_free.l0 (k + 1) y0 y1 y2))
  | 0 => fun _ _ _ r h => by simp [drovewaylaw04_free.l0] at h
  | k + 1 => by
    have ih0 := drovewaylaw04_free.mono_l k
    · intro y0 y1 y2
      unfold drovewaylaw04_free.l0
      repeat' first
      | (with_reducible exact ih0 _ _ _)
      | (with_reducible exact LeO.refl _)
      | (with_reducible exact LeO.none _)
      | (with_reducible refine LeO.ite ?_ ?_)
      | (with_reducible refine LeO.bind ?_ (fun _ => ?_))
      | exact ih0 _ _ _
      | exact LeO.none _
      | refine LeO.ite ?_ ?_
      | refine LeO.bind ?_ (fun _ => ?_)
theorem drovewaylaw04_free.mono : ∀ a0 k, LeO (drovewaylaw04_free.f k a0) (drovewaylaw04_free.f (k + 1) a0) := by
  intro a0 k
  have ih0 := drovewaylaw04_free.mono_l k
  unfold drovewaylaw04_free.f
  repeat' first
      | (with_reducible exact ih0 _ _ _)
      | (with_reducible exact LeO.refl _)
      | (with_reducible exact LeO.none _)
      | (with_reducible refine LeO.ite ?_ ?_)
      | (with_reducible refine LeO.bind ?_ (fun _ => ?_))
      | exact ih0 _ _ _
      | exact LeO.none _
      | refine LeO.ite ?_ ?_
      | refine LeO.bind ?_ (fun _ => ?_)
set_option maxHeartbeats 8000000 in
set_option maxRecDepth 100000 in
theorem drovewaylaw04_free.calls (k : Nat) (a0 : ByteArray) (r : Int) (w : World) (h : drovewaylaw04_free.f k a0 = some r) :
    Calls Try.prog 16 #[.string a0] w fun e w' => e = .returned (.int .i64 r) ∧ Drawn0 w w' := by
  have H : (drovewaylaw04_free.l0 k a0 0 0) = some r := h
  clear h
  have H' := Aside0.mk H
  clear H
  go_enter Try.func16, Try.ntmps16
  go_wp2
  go_loopg [3, 4] k (fun kq v3 v4 w' => ∃ (x3_1 : Int) (x4_1 : Int), v3 = .int .i64 x3_1 ∧ v4 = .int .i64 x4_1 ∧ Aside0 (drovewaylaw04_free.l0 kq a0 x3_1 x4_1 = some r) ∧ Aside0 (kq ≤ k) ∧ Drawn0 w w')
  case atStart => exact ⟨(0), (0), (by first | rfl | (simp; done) | (simp [*]; done)), (by first | rfl | (simp; done) | (simp [*]; done)), H', ⟨Nat.le_refl _⟩, by repeat (first | exact Drawn0.refl _ | apply Drawn0.step)⟩
  case round =>
    clear H'
    try clear c1
    obtain ⟨x3_1, x4_1, rfl, rfl, HA, HK1, ⟨m1, rfl⟩⟩ := hrel
    cases gk with
    | zero => exact absurd HA.out (by simp [drovewaylaw04_free.l0])
    | succ k1 =>
      have H := HA.out
      clear HA
      simp only [drovewaylaw04_free.l0] at H
      by_cases c2 : x4_1 < (a0.size : Int)
      · rw [if_pos c2] at H
        have c2b0 : decide (x4_1 < (a0.size : Int)) = true := decide_eq_true c2
        clear c2
        by_cases c3 : 0 ≤ x4_1
        · rw [if_pos c3] at H
          have c3b0 : decide (0 ≤ x4_1) = true := decide_eq_true c3
          clear c3
          by_cases c5 : (bt a0 x4_1) = 46
          · rw [if_pos c5] at H
            have c5b0 : ((bt a0 x4_1) == 46) = true := beq_iff_eq.mpr c5
            have c5b1 : ((bt a0 x4_1) != 46) = false := bne_eq_false_iff_eq.mpr c5
            clear c5
            have H' := Aside0.mk H
            clear H
            have p4 : 0 ≤ (x4_1 : Int) := of_decide_eq_true (by first | (with_reducible assumption) | assumption)
            have q4 : x4_1 < (a0.size : Int) := of_decide_eq_true (by first | (with_reducible assumption) | assumption)
            have hx4 := bt_at a0 x4_1
            replace p4 := eq_true p4
            replace q4 := eq_true q4
            go_wp2
            go_roundg k1
            case measure => have := HK1.out; omega
            case rel => exact ⟨(wrap64 (x3_1 + 1)), (wrap64 (x4_1 + 1)), (by first | rfl | (simp; done) | (simp [*]; done)), (by first | rfl | (simp; done) | (simp [*]; done)), H', ⟨by have := HK1.out; omega⟩, by repeat (first | exact Drawn0.refl _ | apply Drawn0.step)⟩
          · rw [if_neg c5] at H
            have c5b0 : ((bt a0 x4_1) == 46) = false := beq_eq_false_iff_ne.mpr c5
            have c5b1 : ((bt a0 x4_1) != 46) = true := bne_iff_ne.mpr c5
            have H' := Aside0.mk H
            clear H
            have p4 : 0 ≤ (x4_1 : Int) := of_decide_eq_true (by first | (with_reducible assumption) | assumption)
            have q4 : x4_1 < (a0.size : Int) := of_decide_eq_true (by first | (with_reducible assumption) | assumption)
            have hx4 := bt_at a0 x4_1
            replace p4 := eq_true p4
            replace q4 := eq_true q4
            go_wp2
            go_roundg k1
            case measure => have := HK1.out; omega
            case rel => exact ⟨(x3_1), (wrap64 (x4_1 + 1)), (by first | rfl | (simp; done) | (simp [*]; done)), (by first | rfl | (simp; done) | (simp [*]; done)), H', ⟨by have := HK1.out; omega⟩, by repeat (first | exact Drawn0.refl _ | apply Drawn0.step)⟩
        · rw [if_neg c3] at H
          exact absurd H (by simp)
      · rw [if_neg c2] at H
        have c2b0 : decide (x4_1 < (a0.size : Int)) = false := decide_eq_false c2
        clear c2
        obtain rfl := Option.some.inj H
        go_wp2
        go_ret
        exact ⟨by first | rfl | (simp; done) | (simp [*]; done), by repeat (first | exact Drawn0.refl _ | apply Drawn0.step)⟩

/-! ### drovewaylaw04_chosen: function 25 -/
def drovewaylaw04_chosen.l0 : Nat → ByteArray → Int → Int → Option (Int)
  | 0, _, _, _ => none
  | k + 1, x0, x1, x6 => if x6 < (x0.size : Int) then (if 0 ≤ x6 then (if (bt x0 x6) = 46 then (if x1 = 0 then (some x6) else (drovewaylaw04_chosen.l0 k x0 (wrap64 (x1 - 1)) (wrap64 (x6 + 1)))) else (drovewaylaw04_chosen.l0 k x0 x1 (wrap64 (x6 + 1)))) else (none)) else (some (-1))
def drovewaylaw04_chosen.f (k : Nat) (a0 : ByteArray) (a1 : Int) : Option (Int) := (drovewaylaw04_free.f k a0).bind fun t134 => (if t134 = 0 then (some (-1)) else (drovewaylaw04_chosen.l0 k a0 (Int.tmod a1 t134) 0))
theorem drovewaylaw04_chosen.mono_l : ∀ k, (∀ y0 y1 y2, LeO (drovewaylaw04_chosen.l0 k y0 y1 y2) (drovewaylaw04_chosen.l0 (k + 1) y0 y1 y2))
  | 0 => fun _ _ _ r h => by simp [drovewaylaw04_chosen.l0] at h
  | k + 1 => by
    have ih0 := drovewaylaw04_chosen.mono_l k
    · intro y0 y1 y2
      unfold drovewaylaw04_chosen.l0
      repeat' first
      | (with_reducible exact ih0 _ _ _)
      | (with_reducible exact drovewaylaw04_free.mono _ _)
      | (with_reducible exact LeO.refl _)
      | (with_reducible exact LeO.none _)
      | (with_reducible refine LeO.ite ?_ ?_)
      | (with_reducible refine LeO.bind ?_ (fun _ => ?_))
      | exact ih0 _ _ _
      | exact drovewaylaw04_free.mono _ _
      | exact LeO.none _
      | refine LeO.ite ?_ ?_
      | refine LeO.bind ?_ (fun _ => ?_)
theorem drovewaylaw04_chosen.mono : ∀ a0 a1 k, LeO (drovewaylaw04_chosen.f k a0 a1) (drovewaylaw04_chosen.f (k + 1) a0 a1) := by
  intro a0 a1 k
  have ih0 := drovewaylaw04_chosen.mono_l k
  unfold drovewaylaw04_chosen.f
  repeat' first
      | (with_reducible exact ih0 _ _ _)
      | (with_reducible exact drovewaylaw04_free.mono _ _)
      | (with_reducible exact LeO.refl _)
      | (with_reducible exact LeO.none _)
      | (with_reducible refine LeO.ite ?_ ?_)
      | (with_reducible refine LeO.bind ?_ (fun _ => ?_))
      | exact ih0 _ _ _
      | exact drovewaylaw04_free.mono _ _
      | exact LeO.none _
      | refine LeO.ite ?_ ?_
      | refine LeO.bind ?_ (fun _ => ?_)
set_option maxHeartbeats 8000000 in
set_option maxRecDepth 100000 in
theorem drovewaylaw04_chosen.calls (k : Nat) (a0 : ByteArray) (a1 : Int) (r : Int) (w : World) (h : drovewaylaw04_chosen.f k a0 a1 = some r) :
    Calls Try.prog 25 #[.string a0, .int .i64 a1] w fun e w' => e = .returned (.int .i64 r) ∧ Drawn0 w w' := by
  have H : ((drovewaylaw04_free.f k a0).bind fun t134 => (if t134 = 0 then (some (-1)) else (drovewaylaw04_chosen.l0 k a0 (Int.tmod a1 t134) 0))) = some r := h
  clear h
  replace H := Option.bind_eq_some_iff.mp H
  obtain ⟨t134, A30, H⟩ := H
  replace H : (if t134 = 0 then (some (-1)) else (drovewaylaw04_chosen.l0 k a0 (Int.tmod a1 t134) 0)) = some r := H
  have A3 := Aside0.mk A30
  clear A30
  by_cases c4 : t134 = 0
  · rw [if_pos c4] at H
    have c4b0 : (t134 == 0) = true := beq_iff_eq.mpr c4
    have c4b1 : (t134 != 0) = false := bne_eq_false_iff_eq.mpr c4
    clear c4
    obtain rfl := Option.some.inj H
    go_enter Try.func25, Try.ntmps25
    go_wp2_with (first | ((with_reducible refine gate_callee (f := 16) rfl ?_); refine goesL_ (some 8) rfl rfl Try.func16 (by kernel_rfl) rfl #[.string a0] rfl (by (try simp only [List.map_toArray, List.map_cons, List.map_nil]); first | done | rfl | (simp only [List.length_drop, List.length_take]; rfl)) ?_; (with_reducible refine (drovewaylaw04_free.calls k a0 t134 _ A3.out).mono ?_); rintro e w' ⟨rfl, ⟨nd, rfl⟩⟩; refine ⟨_, rfl, ?_⟩))
    go_ret
    exact ⟨by first | rfl | (simp; done) | (simp [*]; done), by repeat (first | exact Drawn0.refl _ | apply Drawn0.step)⟩
  · rw [if_neg c4] at H
    have c4b0 : (t134 == 0) = false := beq_eq_false_iff_ne.mpr c4
    have c4b1 : (t134 != 0) = true := bne_iff_ne.mpr c4
    have H' := Aside0.mk H
    clear H
    go_enter Try.func25, Try.ntmps25
    go_wp2_with (first | ((with_reducible refine gate_callee (f := 16) rfl ?_); refine goesL_ (some 8) rfl rfl Try.func16 (by kernel_rfl) rfl #[.string a0] rfl (by (try simp only [List.map_toArray, List.map_cons, List.map_nil]); first | done | rfl | (simp only [List.length_drop, List.length_take]; rfl)) ?_; (with_reducible refine (drovewaylaw04_free.calls k a0 t134 _ A3.out).mono ?_); rintro e w' ⟨rfl, ⟨nd, rfl⟩⟩; refine ⟨_, rfl, ?_⟩))
    go_loopg [1, 6] k (fun kq v1 v6 w' => ∃ (x1_1 : Int) (x6_1 : Int), v1 = .int .i64 x1_1 ∧ v6 = .int .i64 x6_1 ∧ Aside0 (drovewaylaw04_chosen.l0 kq a0 x1_1 x6_1 = some r) ∧ Aside0 (kq ≤ k) ∧ Drawn0 w w')
    case atStart => exact ⟨(Int.tmod a1 t134), (0), (by first | rfl | (simp; done) | (simp [*]; done)), (by first | rfl | (simp; done) | (simp [*]; done)), H', ⟨Nat.le_refl _⟩, by repeat (first | exact Drawn0.refl _ | apply Drawn0.step)⟩
    case round =>
      clear H'
      try clear c1
      try clear c2
      try clear p2
      try clear c4
      try clear c4b0
      try clear c4b1
      obtain ⟨x1_1, x6_1, rfl, rfl, HA, HK1, ⟨m1, rfl⟩⟩ := hrel
      cases gk with
      | zero => exact absurd HA.out (by simp [drovewaylaw04_chosen.l0])
      | succ k1 =>
        have H := HA.out
        clear HA
        simp only [drovewaylaw04_chosen.l0] at H
        by_cases c5 : x6_1 < (a0.size : Int)
        · rw [if_pos c5] at H
          have c5b0 : decide (x6_1 < (a0.size : Int)) = true := decide_eq_true c5
          clear c5
          by_cases c6 : 0 ≤ x6_1
          · rw [if_pos c6] at H
            have c6b0 : decide (0 ≤ x6_1) = true := decide_eq_true c6
            clear c6
            by_cases c8 : (bt a0 x6_1) = 46
            · rw [if_pos c8] at H
              have c8b0 : ((bt a0 x6_1) == 46) = true := beq_iff_eq.mpr c8
              have c8b1 : ((bt a0 x6_1) != 46) = false := bne_eq_false_iff_eq.mpr c8
              clear c8
              by_cases c9 : x1_1 = 0
              · rw [if_pos c9] at H
                have c9b0 : (x1_1 == 0) = true := beq_iff_eq.mpr c9
                have c9b1 : (x1_1 != 0) = false := bne_eq_false_iff_eq.mpr c9
                clear c9
                obtain rfl := Option.some.inj H
                have p7 : 0 ≤ (x6_1 : Int) := of_decide_eq_true (by first | (with_reducible assumption) | assumption)
                have q7 : x6_1 < (a0.size : Int) := of_decide_eq_true (by first | (with_reducible assumption) | assumption)
                have hx7 := bt_at a0 x6_1
                replace p7 := eq_true p7
                replace q7 := eq_true q7
                go_wp2
                go_ret
                exact ⟨by first | rfl | (simp; done) | (simp [*]; done), by repeat (first | exact Drawn0.refl _ | apply Drawn0.step)⟩
              · rw [if_neg c9] at H
                have c9b0 : (x1_1 == 0) = false := beq_eq_false_iff_ne.mpr c9
                have c9b1 : (x1_1 != 0) = true := bne_iff_ne.mpr c9
                have H' := Aside0.mk H
                clear H
                have p7 : 0 ≤ (x6_1 : Int) := of_decide_eq_true (by first | (with_reducible assumption) | assumption)
                have q7 : x6_1 < (a0.size : Int) := of_decide_eq_true (by first | (with_reducible assumption) | assumption)
                have hx7 := bt_at a0 x6_1
                replace p7 := eq_true p7
                replace q7 := eq_true q7
                go_wp2
                go_roundg k1
                case measure => have := HK1.out; omega
                case rel => exact ⟨(wrap64 (x1_1 - 1)), (wrap64 (x6_1 + 1)), (by first | rfl | (simp; done) | (simp [*]; done)), (by first | rfl | (simp; done) | (simp [*]; done)), H', ⟨by have := HK1.out; omega⟩, by repeat (first | exact Drawn0.refl _ | apply Drawn0.step)⟩
            · rw [if_neg c8] at H
              have c8b0 : ((bt a0 x6_1) == 46) = false := beq_eq_false_iff_ne.mpr c8
              have c8b1 : ((bt a0 x6_1) != 46) = true := bne_iff_ne.mpr c8
              have H' := Aside0.mk H
              clear H
              have p7 : 0 ≤ (x6_1 : Int) := of_decide_eq_true (by first | (with_reducible assumption) | assumption)
              have q7 : x6_1 < (a0.size : Int) := of_decide_eq_true (by first | (with_reducible assumption) | assumption)
              have hx7 := bt_at a0 x6_1
              replace p7 := eq_true p7
              replace q7 := eq_true q7
              go_wp2
              go_roundg k1
              case measure => have := HK1.out; omega
              case rel => exact ⟨(x1_1), (wrap64 (x6_1 + 1)), (by first | rfl | (simp; done) | (simp [*]; done)), (by first | rfl | (simp; done) | (simp [*]; done)), H', ⟨by have := HK1.out; omega⟩, by repeat (first | exact Drawn0.refl _ | apply Drawn0.step)⟩
          · rw [if_neg c6] at H
            exact absurd H (by simp)
        · rw [if_neg c5] at H
          have c5b0 : decide (x6_1 < (a0.size : Int)) = false := decide_eq_false c5
          clear c5
          obtain rfl := Option.some.inj H
          go_wp2
          go_ret
          exact ⟨by first | rfl | (simp; done) | (simp [*]; done), by repeat (first | exact Drawn0.refl _ | apply Drawn0.step)⟩

end
end Go.Proofs.Ytbjpjjokamaliaa.B

/- The plain game: more spots for the wolves never help the dogs; who wins when the other one is next wins when next. -/
namespace Go.Proofs.Ytbjpjjokamaliaa.A
open Go.RowKit Go.Proofs.YtbjpjjokamaliaaW.PrintWords Go.Proofs.YtbjpjjokamaliaaW.PrintMore

/-- A set is within another one. -/
def Sub (f g : Nat → Bool) : Prop := ∀ i, f i = true → g i = true
theorem Sub.refl (f : Nat → Bool) : Sub f f := fun _ h => h
theorem Sub.trans {f g h : Nat → Bool} (a : Sub f g) (b : Sub g h) : Sub f h := fun i x => b i (a i x)
theorem up_iff (f : Nat → Bool) (i j : Nat) : up f i j = true ↔ (f j = true ∨ j = i) := by simp [up]
theorem Sub.up {f g : Nat → Bool} (h : Sub f g) (i : Nat) : Sub (up f i) (A.up g i) := fun j x => by
  rw [up_iff] at x ⊢
  exact x.imp (h j) id
theorem Sub.upr (f : Nat → Bool) (i : Nat) : Sub f (A.up f i) := fun j x => by rw [up_iff]; exact .inl x
theorem Sub.up_in {f g : Nat → Bool} (h : Sub f g) {i : Nat} (hi : g i = true) : Sub (A.up f i) g := fun j x => by
  rw [up_iff] at x
  rcases x with x | rfl
  · exact h j x
  · exact hi
theorem hasL_sub {l : List Int} {m : Nat} {W W' : Nat → Bool} (h : Sub W W') (hl : hasL l m W = true) : hasL l m W' = true := by
  unfold hasL at hl ⊢
  rw [List.any_eq_true] at hl ⊢
  obtain ⟨x, hx, hi⟩ := hl
  refine ⟨x, hx, ?_⟩
  unfold inL at hi ⊢
  rw [List.all_eq_true] at hi ⊢
  intro i hm
  have := hi i hm
  rw [Bool.or_eq_true] at this ⊢
  exact this.imp id (h i)
theorem fr_iff (W D : Nat → Bool) (i : Nat) : fr W D i = true ↔ W i = false ∧ D i = false := by
  unfold fr
  cases W i <;> cases D i <;> simp
theorem wins_w_iff (l : List Int) (m : Nat) (W D : Nat → Bool) : wins l m W D true = true ↔ hasL l m W = true ∨ ∃ i, i < m ∧ fr W D i = true ∧ wins l m (up W i) D false = true := by
  rw [wins_w, Bool.or_eq_true, List.any_eq_true]
  refine or_congr Iff.rfl ⟨?_, ?_⟩
  · rintro ⟨i, hi, h⟩
    rw [Bool.and_eq_true] at h
    exact ⟨i, List.mem_range.1 hi, h.1, h.2⟩
  · rintro ⟨i, hi, h1, h2⟩
    exact ⟨i, List.mem_range.2 hi, by rw [h1, h2]; rfl⟩
theorem wins_d_iff (l : List Int) (m : Nat) (W D : Nat → Bool) : wins l m W D false = true ↔ hasL l m W = true ∨ ((∃ i, i < m ∧ fr W D i = true) ∧ ∀ i, i < m → fr W D i = true → wins l m W (up D i) true = true) := by
  rw [wins_d, Bool.or_eq_true, Bool.and_eq_true, List.any_eq_true, List.all_eq_true]
  refine or_congr Iff.rfl (and_congr ⟨?_, ?_⟩ ⟨?_, ?_⟩)
  · rintro ⟨i, hi, h⟩; exact ⟨i, List.mem_range.1 hi, h⟩
  · rintro ⟨i, hi, h⟩; exact ⟨i, List.mem_range.2 hi, h⟩
  · intro h i hi hf
    have := h i (List.mem_range.2 hi)
    rw [hf] at this
    simpa using this
  · intro h i hi
    by_cases hf : fr W D i = true
    · rw [h i (List.mem_range.1 hi) hf]; simp
    · simp at hf; rw [hf]; rfl
theorem wins_mono_n (l : List Int) (m : Nat) : ∀ n (W D W' D' : Nat → Bool) (nx : Bool), cntF m W D ≤ n → Sub W W' → Sub D' D → wins l m W D nx = true → wins l m W' D' nx = true := by
  intro n
  induction n with
  | zero =>
    intro W D W' D' nx hn hW hD h
    have hno : ∀ i, i < m → fr W D i = true → False := fun i hi hf => by have := cnt_pos hi hf; omega
    have hl : hasL l m W = true := by
      cases nx
      · rcases (wins_d_iff l m W D).1 h with h | ⟨⟨i, hi, hf⟩, _⟩
        · exact h
        · exact (hno i hi hf).elim
      · rcases (wins_w_iff l m W D).1 h with h | ⟨i, hi, hf, _⟩
        · exact h
        · exact (hno i hi hf).elim
    cases nx
    · exact (wins_d_iff l m W' D').2 (.inl (hasL_sub hW hl))
    · exact (wins_w_iff l m W' D').2 (.inl (hasL_sub hW hl))
  | succ n ih =>
    intro W D W' D' nx hn hW hD h
    cases nx
    · rcases (wins_d_iff l m W D).1 h with h | ⟨⟨i, hi, hf⟩, hall⟩
      · exact (wins_d_iff l m W' D').2 (.inl (hasL_sub hW h))
      · have hgo : ∀ j, j < m → fr W D j = true → ∀ E, Sub E (up D j) → wins l m W' E true = true := fun j hj hfj E hE =>
          ih W (up D j) W' E true (by have := cnt_upD hj hfj; omega) hW hE (hall j hj hfj)
        by_cases hex : ∃ j, j < m ∧ fr W' D' j = true
        · refine (wins_d_iff l m W' D').2 (.inr ⟨hex, fun k hk hfk => ?_⟩)
          obtain ⟨hk1, hk2⟩ := (fr_iff W' D' k).1 hfk
          have hkW : W k = false := by
            cases e : W k with
            | false => rfl
            | true => rw [hW k e] at hk1; cases hk1
          cases e : D k with
          | true => exact hgo i hi hf _ ((hD.up_in e).trans (Sub.upr D i))
          | false => exact hgo k hk ((fr_iff W D k).2 ⟨hkW, e⟩) _ (hD.up k)
        · have hw := hgo i hi hf D' (hD.trans (Sub.upr D i))
          rcases (wins_w_iff l m W' D').1 hw with hw | ⟨j, hj, hfj, _⟩
          · exact (wins_d_iff l m W' D').2 (.inl hw)
          · exact (hex ⟨j, hj, hfj⟩).elim
    · rcases (wins_w_iff l m W D).1 h with h | ⟨i, hi, hf, hw⟩
      · exact (wins_w_iff l m W' D').2 (.inl (hasL_sub hW h))
      · have hc := cnt_upW hi hf
        obtain ⟨hi1, hi2⟩ := (fr_iff W D i).1 hf
        cases e : W' i with
        | false =>
          have hiD : D' i = false := by
            cases e' : D' i with
            | false => rfl
            | true => rw [hD i e'] at hi2; cases hi2
          exact (wins_w_iff l m W' D').2 (.inr ⟨i, hi, (fr_iff W' D' i).2 ⟨e, hiD⟩, ih (up W i) D (up W' i) D' false (by omega) (hW.up i) hD hw⟩)
        | true =>
          have hsub : Sub (up W i) W' := hW.up_in e
          rcases (wins_d_iff l m (up W i) D).1 hw with hw | ⟨⟨j, hj, hfj⟩, hall⟩
          · exact (wins_w_iff l m W' D').2 (.inl (hasL_sub hsub hw))
          · exact ih (up W i) (up D j) W' D' true (by have := cnt_upD hj hfj; omega) hsub (hD.trans (Sub.upr D j)) (hall j hj hfj)
theorem wins_mono {l : List Int} {m : Nat} {W D W' D' : Nat → Bool} {nx : Bool} (hW : Sub W W') (hD : Sub D' D) (h : wins l m W D nx = true) : wins l m W' D' nx = true :=
  wins_mono_n l m _ W D W' D' nx (Nat.le_refl _) hW hD h
theorem wins_tempo {l : List Int} {m : Nat} {W D : Nat → Bool} (h : wins l m W D false = true) : wins l m W D true = true := by
  rcases (wins_d_iff l m W D).1 h with h | ⟨⟨i, hi, hf⟩, hall⟩
  · exact (wins_w_iff l m W D).2 (.inl h)
  · exact wins_mono (Sub.refl W) (Sub.upr D i) (hall i hi hf)

/-! ### a position with a spot more -/
theorem bt_nums (xs : List Int) (j : Nat) (hj : j < xs.length) (h0 : 0 ≤ xs.getD j 0) (h1 : xs.getD j 0 < 256) : bt (strOfNums xs) j = xs.getD j 0 := by
  have hs : (strOfNums xs).size = xs.length := strOfNums_size xs
  have hg : xs.getD j 0 = xs[j] := by simp [List.getD_eq_getElem?_getD, List.getElem?_eq_getElem hj]
  rw [hg] at h0 h1 ⊢
  unfold bt
  have h : ((j : Int)).toNat < (strOfNums xs).size := by rw [hs]; simpa using hj
  rw [dif_pos h]
  have : (strOfNums xs)[((j : Int)).toNat]'h = UInt8.ofNat (xs[j]).toNat := by
    show (strOfNums xs).data[((j : Int)).toNat] = _
    simp [strOfNums]
  rw [this]
  simp
  omega
theorem bytes_getD (s : ByteArray) (j : Nat) : (bytesOf s).getD j 0 = bt s j := by
  have := rd_bytesOf s j
  unfold rd at this
  simpa using this
theorem placedS_size (s : ByteArray) (i c : Int) : (placedS s i c).size = s.size := by
  unfold placedS
  split <;> rw [strOfNums_size] <;> simp [bytesOf_length]
theorem placedS_bt (s : ByteArray) (i c : Int) (j : Nat) (hj : j < s.size) (h0 : 0 ≤ c) (h1 : c < 256) : bt (placedS s i c) j = if (j : Int) = i then c else bt s j := by
  have hb := bt_range s j
  unfold placedS
  by_cases hi : 0 ≤ i ∧ i < s.size
  · rw [if_pos hi]
    have hlen : j < ((bytesOf s).set i.toNat c).length := by simpa [bytesOf_length] using hj
    by_cases e : (j : Int) = i
    · have he : i.toNat = j := by omega
      rw [if_pos e, bt_nums _ _ hlen] <;> rw [he] <;> simp [List.getD_eq_getElem?_getD, bytesOf_length, hj] <;> omega
    · have he : i.toNat ≠ j := by omega
      have hg : ((bytesOf s).set i.toNat c).getD j 0 = bt s j := by
        rw [← bytes_getD]
        simp [List.getD_eq_getElem?_getD, List.getElem?_set_ne he]
      rw [if_neg e, bt_nums _ _ hlen] <;> rw [hg] <;> omega
  · rw [if_neg hi]
    have e : ¬ (j : Int) = i := by omega
    rw [if_neg e, bt_nums _ _ (by simpa [bytesOf_length] using hj)] <;> rw [bytes_getD] <;> omega
theorem okP_iff {m : Int} {l : List Int} {s : ByteArray} : okP m l s = 0 ↔ okF m l = 0 ∧ (s.size : Int) = m ∧ ∀ i, i < s.size → okC (bt s i) = true := by
  unfold okP
  constructor
  · intro h
    by_cases h1 : okF m l ≠ 0
    · rw [if_pos h1] at h; exact absurd h h1
    · rw [if_neg h1] at h
      by_cases h2 : (s.size : Int) ≠ m
      · rw [if_pos h2] at h; cases h
      · rw [if_neg h2] at h
        refine ⟨by simpa using h1, by simpa using h2, fun i hi => ?_⟩
        by_cases h3 : (List.range s.size).all (fun i => okC (bt s i)) = true
        · exact List.all_eq_true.1 h3 i (List.mem_range.2 hi)
        · rw [if_neg h3] at h; cases h
  · rintro ⟨h1, h2, h3⟩
    rw [if_neg (by simpa using h1), if_neg (by simpa using h2), if_pos (List.all_eq_true.2 fun i hi => h3 i (List.mem_range.1 hi))]
theorem okP_placed {m : Int} {l : List Int} {s : ByteArray} (h : okP m l s = 0) (i c : Int) (hc : okC c = true) (h0 : 0 ≤ c) (h1 : c < 256) : okP m l (placedS s i c) = 0 := by
  obtain ⟨hF, hm, ha⟩ := okP_iff.1 h
  refine okP_iff.2 ⟨hF, by rw [placedS_size]; exact hm, fun j hj => ?_⟩
  rw [placedS_size] at hj
  rw [placedS_bt s i c j hj h0 h1]
  split
  · exact hc
  · exact ha j hj
theorem okA_w {m : Int} {l : List Int} {s : ByteArray} (h : okP m l s = 0) : okA m l s sW = 0 := by
  unfold okA
  rw [if_neg (by simpa using h), if_pos (by decide +kernel)]
theorem okA_d {m : Int} {l : List Int} {s : ByteArray} (h : okP m l s = 0) : okA m l s sD = 0 := by
  unfold okA
  rw [if_neg (by simpa using h), if_neg (by decide +kernel), if_pos (by decide +kernel)]
theorem okA_let {m : Int} {l : List Int} {s : ByteArray} (h : okP m l s = 0) (b : Bool) : okA m l s (letS b) = 0 := by
  cases b
  · exact okA_d h
  · exact okA_w h
theorem nxW_let (b : Bool) : nxW (letS b) = some b := by cases b <;> decide +kernel
theorem winner_let {m : Int} {l : List Int} {s : ByteArray} (h : okP m l s = 0) (b : Bool) : ambush_Winner.f m l s (letS b) = some (letS (winS l s b), 0) := by
  unfold ambush_Winner.f
  rw [if_pos (okA_let h b), nxW_let]
  rfl
theorem winS_placed {l : List Int} {s : ByteArray} {i : Int} {nx : Bool} (h : winS l s nx = true) : winS l (placedS s i 119) nx = true := by
  unfold winS at h ⊢
  rw [placedS_size]
  refine wins_mono ?_ ?_ h
  · intro j hj
    rw [msk_tb] at hj ⊢
    simp only [Bool.and_eq_true, decide_eq_true_eq] at hj ⊢
    refine ⟨hj.1, ?_⟩
    rw [placedS_bt s i 119 j hj.1 (by decide) (by decide)]
    split
    · rfl
    · exact hj.2
  · intro j hj
    rw [msk_tb] at hj ⊢
    simp only [Bool.and_eq_true, decide_eq_true_eq] at hj ⊢
    refine ⟨hj.1, ?_⟩
    have := hj.2
    rw [placedS_bt s i 119 j hj.1 (by decide) (by decide)] at this
    split at this
    · cases this
    · exact this
theorem winS_tempo {l : List Int} {s : ByteArray} (h : winS l s false = true) : winS l s true = true := wins_tempo h

/-- The free spots below i. -/
def freeC (s : ByteArray) : Nat → Nat
  | 0 => 0
  | i + 1 => if bt s i = 46 then freeC s i + 1 else freeC s i
theorem freeC_le (s : ByteArray) : ∀ i, freeC s i ≤ i
  | 0 => Nat.le_refl _
  | i + 1 => by
    have := freeC_le s i
    rw [freeC]; split <;> omega
end Go.Proofs.Ytbjpjjokamaliaa.A

/- Positions that are written: what a spot more does to the sets and to the number of free spots. -/
namespace Go.Proofs.Ytbjpjjokamaliaa.A
open Go.RowKit Go.Proofs.YtbjpjjokamaliaaW.PrintWords Go.Proofs.YtbjpjjokamaliaaW.PrintMore

theorem msk_apart (s : ByteArray) (n k : Nat) (h : (msk 119 s n).testBit k = true) : (msk 100 s n).testBit k = false := by
  rw [msk_tb] at h ⊢
  simp only [Bool.and_eq_true, decide_eq_true_eq] at h
  simp [h.2]
theorem fr_bt {m : Int} {l : List Int} {s : ByteArray} (h : okP m l s = 0) {i : Nat} (hi : i < s.size) : fr (msk 119 s s.size).testBit (msk 100 s s.size).testBit i = true ↔ bt s i = 46 := by
  have ho := (okP_iff.1 h).2.2 i hi
  rw [fr_iff, msk_tb, msk_tb]
  simp only [hi, decide_true, Bool.true_and, decide_eq_false_iff_not]
  constructor
  · rintro ⟨h1, h2⟩
    simp [okC, h1, h2] at ho
    exact ho
  · intro e
    rw [e]; exact ⟨by decide, by decide⟩
theorem msk_put {s : ByteArray} {i : Nat} {c : Int} (hi : i < s.size) (h0 : 0 ≤ c) (h1 : c < 256) : msk c (placedS s i c) s.size = msk c s s.size ||| 2 ^ i := by
  refine Nat.eq_of_testBit_eq fun k => ?_
  rw [Nat.testBit_or, tb_two, msk_tb, msk_tb]
  by_cases hk : k < s.size
  · rw [placedS_bt s i c k hk h0 h1]
    by_cases e : k = i
    · subst e; simp [hk]
    · have e' : ¬ (k : Int) = i := by omega
      rw [if_neg e']
      simp [hk, e]
  · have e : k ≠ i := by omega
    simp [hk, e]
theorem msk_keep {s : ByteArray} {i : Nat} {c c' : Int} (hi : i < s.size) (h46 : bt s i = 46) (h0 : 0 ≤ c) (h1 : c < 256) (hc : c' ≠ 46) (hcc : c ≠ c') : msk c' (placedS s i c) s.size = msk c' s s.size := by
  refine Nat.eq_of_testBit_eq fun k => ?_
  rw [msk_tb, msk_tb]
  by_cases hk : k < s.size
  · rw [placedS_bt s i c k hk h0 h1]
    by_cases e : k = i
    · subst e
      rw [if_pos rfl, h46]
      simp [hcc, Ne.symm hc]
    · have e' : ¬ (k : Int) = i := by omega
      rw [if_neg e']
  · simp [hk]
theorem freeC_placed {s : ByteArray} {i : Nat} {c : Int} (hi : i < s.size) (h46 : bt s i = 46) (h0 : 0 ≤ c) (h1 : c < 256) (hc : c ≠ 46) : ∀ k, k ≤ s.size → freeC (placedS s i c) k + (if i < k then 1 else 0) = freeC s k
  | 0, _ => by simp [freeC]
  | k + 1, hk => by
    have ih := freeC_placed hi h46 h0 h1 hc k (by omega)
    rw [freeC, freeC, placedS_bt s i c k (by omega) h0 h1]
    by_cases e : k = i
    · subst e
      rw [if_pos rfl, if_neg hc, if_pos h46, if_pos (by omega)]
      rw [if_neg (by omega)] at ih
      omega
    · have e' : ¬ (k : Int) = i := by omega
      rw [if_neg e']
      have e2 : (if i < k + 1 then 1 else 0) = if i < k then 1 else 0 := by
        by_cases q : i < k
        · rw [if_pos q, if_pos (by omega)]
        · rw [if_neg q, if_neg (by omega)]
      rw [e2]
      by_cases e46 : bt s k = 46
      · rw [if_pos e46, if_pos e46]; omega
      · rw [if_neg e46, if_neg e46]; exact ih
theorem freeC_pos {s : ByteArray} : ∀ k, 0 < freeC s k → ∃ i, i < k ∧ bt s i = 46
  | 0, h => by simp [freeC] at h
  | k + 1, h => by
    rw [freeC] at h
    split at h
    · rename_i e; exact ⟨k, by omega, e⟩
    · obtain ⟨i, hi, e⟩ := freeC_pos k h
      exact ⟨i, by omega, e⟩
theorem freeC_mono {s : ByteArray} {i : Nat} : ∀ j, freeC s i ≤ freeC s (i + j)
  | 0 => Nat.le_refl _
  | j + 1 => by
    have := freeC_mono (s := s) (i := i) j
    rw [← Nat.add_assoc, freeC]
    split <;> omega
end Go.Proofs.Ytbjpjjokamaliaa.A

/- What few, Field, Written, free and chosen compute (plain). -/
namespace Go.Proofs.Ytbjpjjokamaliaa.B
open Go.Proofs.Ytbjpjjokamaliaa.A
open Go.RowKit Go.Proofs.YtbjpjjokamaliaaW.PrintWords Go.Proofs.YtbjpjjokamaliaaW.PrintLast

theorem few_eq (l : List Int) (s t : ByteArray) : drovewaylaw04_few.f l s t = some (decide ((l.length : Int) ≤ 40 ∧ (s.size : Int) ≤ 40 ∧ (t.size : Int) ≤ 40)) := by
  unfold drovewaylaw04_few.f
  by_cases h1 : (l.length : Int) ≤ 40
  · by_cases h2 : (s.size : Int) ≤ 40
    · rw [if_pos h1, if_pos h2]; simp [h1, h2]
    · rw [if_pos h1, if_neg h2]; simp [h2]
  · rw [if_neg h1]; simp [h1]
theorem shl_two {m : Nat} (h1 : 1 ≤ m) (h9 : m ≤ 9) : shl .i64 1 (m : Int) = 2 ^ m := by
  have : ∀ m : Nat, m < 10 → shl .i64 1 (m : Int) = (2 : Int) ^ m := by decide +kernel
  exact this m (by omega)
def bad (m : Nat) (x : Int) : Bool := decide (x < 1) || decide (2 ^ m ≤ x)
theorem Field_l0 {m : Nat} (h1 : 1 ≤ m) (h9 : m ≤ 9) (l : List Int) (h12 : l.length ≤ 12) : ∀ n i, l.length - i = n → i ≤ l.length →
    Ev (fun k => drovewayref04_Field.l0 k m l (i : Int)) (if ((l.drop i).any (bad m)) = true then 2 else 0) := by
  intro n
  induction n with
  | zero =>
    intro i hn hi
    have e : l.drop i = [] := List.drop_eq_nil_of_le (by omega)
    rw [e]
    refine Ev.step (f := fun _ => some 0) (fun k => ?_) (Ev.now _)
    rw [drovewayref04_Field.l0, if_neg (by omega)]
  | succ n ih =>
    intro i hn hi
    have hlt : i < l.length := by omega
    have ed : l.drop i = l[i] :: l.drop (i + 1) := List.drop_eq_getElem_cons hlt
    have er : rd l (i : Int) = l[i] := by simp [rd, List.getD_eq_getElem?_getD, hlt]
    have ew : wrap64 ((i : Int) + 1) = ((i + 1 : Nat) : Int) := by rw [wrap64_id] <;> omega
    rw [ed]
    have ih' := ih (i + 1) (by omega) (by omega)
    clear ed ih
    generalize l.drop (i + 1) = t at *
    have hun : ∀ k, drovewayref04_Field.l0 (k + 1) m l (i : Int) = if l[i] < 1 then some 2 else if l[i] ≥ 2 ^ m then some 2 else drovewayref04_Field.l0 k m l ((i + 1 : Nat) : Int) := by
      intro k
      rw [drovewayref04_Field.l0, if_pos (by omega), if_pos (by omega), er, shl_two h1 h9, ew, if_pos (show (0 : Int) ≤ m by omega)]
    by_cases b1 : l[i] < 1
    · refine Ev.step (f := fun _ => some 2) (fun k => by rw [hun, if_pos b1]) ?_
      have : ((l[i] :: t).any (bad m)) = true := by simp [List.any_cons, bad, b1]
      rw [if_pos this]
      exact Ev.now _
    · by_cases b2 : l[i] ≥ 2 ^ m
      · refine Ev.step (f := fun _ => some 2) (fun k => by rw [hun, if_neg b1, if_pos b2]) ?_
        have : ((l[i] :: t).any (bad m)) = true := by
          have b2' : 2 ^ m ≤ l[i] := b2
          simp [List.any_cons, bad, b2']
        rw [if_pos this]
        exact Ev.now _
      · refine Ev.step (fun k => by rw [hun, if_neg b1, if_neg b2]) ?_
        have : ((l[i] :: t).any (bad m)) = (t.any (bad m)) := by
          have b2' : ¬ 2 ^ m ≤ l[i] := b2
          simp [List.any_cons, bad, b1, b2']
        rw [this]
        exact ih'
theorem Field_ev (m : Int) (l : List Int) : Ev (fun k => drovewayref04_Field.f k m l) (okF m l) := by
  by_cases h1 : m < 1 ∨ 9 < m
  · have : okF m l = 2 := by unfold okF; rw [if_pos h1]
    rw [this]
    refine Ev.congr (f := fun k => drovewayref04_Field.j0 k m l true) (fun k => ?_) (Ev.step (f := fun _ => some 2) (fun k => ?_) (Ev.now _))
    · unfold drovewayref04_Field.f
      by_cases h : m < 1
      · rw [if_pos h]
      · rw [if_neg h]
        have : m > 9 := by omega
        simp [this]
    · rw [drovewayref04_Field.j0, if_pos rfl]
  · have hc : Ev (fun k => drovewayref04_Field.j0 k m l false) (okF m l) := by
      by_cases h12 : 12 < l.length
      · have : okF m l = 3 := by unfold okF; rw [if_neg h1, if_pos h12]
        rw [this]
        refine Ev.step (f := fun _ => some 3) (fun k => ?_) (Ev.now _)
        rw [drovewayref04_Field.j0, if_neg (by decide), if_pos (by omega)]
      · obtain ⟨n, rfl⟩ : ∃ n : Nat, m = n := ⟨m.toNat, by omega⟩
        have hb := Field_l0 (m := n) (by omega) (by omega) l (by omega) _ 0 rfl (by omega)
        have : okF (n : Int) l = if ((l.drop 0).any (bad n)) = true then 2 else 0 := by unfold okF; rw [if_neg h1, if_neg h12]; rfl
        rw [this]
        refine Ev.step (fun k => ?_) hb
        rw [drovewayref04_Field.j0, if_neg (by decide), if_neg (by omega)]
        rfl
    refine Ev.congr (fun k => ?_) hc
    unfold drovewayref04_Field.f
    rw [if_neg (by omega)]
    have : ¬ m > 9 := by omega
    simp [this]
theorem free_l0 (s : ByteArray) (hs : s.size ≤ 140737488351232) : ∀ n i, s.size - i = n → i ≤ s.size →
    Ev (fun k => drovewaylaw04_free.l0 k s (freeC s i) (i : Int)) (freeC s s.size : Int) := by
  intro n
  induction n with
  | zero =>
    intro i hn hi
    have e : i = s.size := by omega
    subst e
    refine Ev.step (f := fun _ => some _) (fun k => ?_) (Ev.now _)
    rw [drovewaylaw04_free.l0, if_neg (by omega)]
  | succ n ih =>
    intro i hn hi
    have hl := freeC_le s i
    have ew : wrap64 ((i : Int) + 1) = ((i + 1 : Nat) : Int) := by rw [wrap64_id] <;> omega
    have ih' := ih (i + 1) (by omega) (by omega)
    by_cases e1 : bt s i = 46
    · have : freeC s (i + 1) = freeC s i + 1 := by rw [freeC, if_pos e1]
      have ew2 : wrap64 ((freeC s i : Int) + 1) = ((freeC s i + 1 : Nat) : Int) := by rw [wrap64_id] <;> omega
      rw [this] at ih'
      refine Ev.step (fun k => ?_) ih'
      rw [drovewaylaw04_free.l0, if_pos (by omega), if_pos (by omega), if_pos e1, ew, ew2]
    · have : freeC s (i + 1) = freeC s i := by rw [freeC, if_neg e1]
      rw [this] at ih'
      refine Ev.step (fun k => ?_) ih'
      rw [drovewaylaw04_free.l0, if_pos (by omega), if_pos (by omega), if_neg e1, ew]
theorem free_ev (s : ByteArray) (hs : s.size ≤ 140737488351232) : Ev (fun k => drovewaylaw04_free.f k s) (freeC s s.size : Int) := free_l0 s hs _ 0 rfl (Nat.zero_le _)
/-- How many of the first k spots. -/
def popB (y : Nat) : Nat → Nat
  | 0 => 0
  | k + 1 => popB y k + (if y.testBit k = true then 1 else 0)
theorem popB_le (y : Nat) : ∀ k, popB y k ≤ k
  | 0 => Nat.le_refl _
  | k + 1 => by
    have := popB_le y k
    rw [popB]; split <;> omega
theorem popB_table : (List.range 10).all (fun m => (List.range 512).all fun y => decide (2 ^ m ≤ y) || decide (popB y m = pop 9 y)) = true := by decide +kernel
theorem popB_eq {m y : Nat} (hm : m ≤ 9) (hy : y < 2 ^ m) : popB y m = pop 9 y := by
  have h1 := List.all_eq_true.1 popB_table m (List.mem_range.2 (by omega))
  have h2 : y < 512 := Nat.lt_of_lt_of_le hy (Nat.pow_le_pow_right (show 0 < 2 by decide) hm)
  have h3 := List.all_eq_true.1 h1 y (List.mem_range.2 h2)
  simp at h3
  omega
theorem shr_bit (y k : Nat) (hk : k ≤ 9) : Int.tmod (shr .i64 (y : Int) (k : Int)) 2 = if y.testBit k = true then 1 else 0 := by
  have e : shr .i64 (y : Int) (k : Int) = ((y / 2 ^ k : Nat) : Int) := by
    unfold shr
    have : min ((k : Int)).toNat IntKind.i64.bits = k := by
      have : IntKind.i64.bits = 64 := rfl
      omega
    rw [this]
    simp
  rw [e, Nat.testBit_eq_decide_div_mod_eq]
  have h : Int.tmod ((y / 2 ^ k : Nat) : Int) 2 = ((y / 2 ^ k % 2 : Nat) : Int) := by
    rw [Int.tmod_eq_emod_of_nonneg (Int.natCast_nonneg _)]; rfl
  rw [h]
  by_cases q : y / 2 ^ k % 2 = 1
  · rw [if_pos (by simpa using q), q]; rfl
  · rw [if_neg (by simpa using q)]
    have : y / 2 ^ k % 2 = 0 := by omega
    rw [this]; rfl
/-- The letter of a spot. -/
def letAt (w d j : Nat) : Int := if w.testBit j = true then 119 else if d.testBit j = true then 100 else 46
theorem Written_l0 {m w d : Nat} (h9 : m ≤ 9) : ∀ n i (xs : List Int), m - i = n → i ≤ m → xs.length = m → (∀ j, j < i → xs.getD j 0 = letAt w d j) →
    ∃ ys : List Int, ys.length = m ∧ (∀ j, j < m → ys.getD j 0 = letAt w d j) ∧ Ev (fun k => drovewayref04_Written.l0 k m w d xs (i : Int)) (strOfNums ys) := by
  intro n
  induction n with
  | zero =>
    intro i xs hn hi hlen hx
    have e : i = m := by omega
    subst e
    refine ⟨xs, hlen, hx, Ev.step (f := fun _ => some (strOfNums xs)) (fun k => ?_) (Ev.now _)⟩
    rw [drovewayref04_Written.l0, if_neg (by omega)]
  | succ n ih =>
    intro i xs hn hi hlen hx
    have ew : wrap64 ((i : Int) + 1) = ((i + 1 : Nat) : Int) := by rw [wrap64_id] <;> omega
    have g1 : (i : Int) < (m : Int) := by omega
    have g2 : (0 : Int) ≤ (i : Int) := by omega
    have g3 : (i : Int) < (xs.length : Int) := by omega
    have e1 := shr_bit w i (by omega)
    have e2 := shr_bit d i (by omega)
    have hset : ∀ (c : Int), letAt w d i = c → ∀ zs : List Int, zs.length = m → (∀ j, j < i → zs.getD j 0 = xs.getD j 0) → zs.getD i 0 = c → ∀ j, j < i + 1 → zs.getD j 0 = letAt w d j := by
      intro c hc zs hz hb he j hj
      by_cases q : j = i
      · subst q; rw [he, hc]
      · rw [hb j (by omega), hx j (by omega)]
    have hg : ∀ (zs : List Int) (c : Int) (j : Nat), j < i → (zs.set i c).getD j 0 = zs.getD j 0 := by
      intro zs c j hj
      simp [List.getD_eq_getElem?_getD, List.getElem?_set_ne (show i ≠ j by omega)]
    have hh : ∀ (zs : List Int) (c : Int), zs.length = m → (zs.set i c).getD i 0 = c := by
      intro zs c hz
      simp [List.getD_eq_getElem?_getD, show i < zs.length by omega]
    by_cases b1 : w.testBit i = true
    · rw [if_pos b1] at e1
      obtain ⟨ys, hy, hc, he⟩ := ih (i + 1) ((xs.set i 46).set i 119) (by omega) (by omega) (by simp [hlen]) (hset 119 (by rw [letAt, if_pos b1]) _ (by simp [hlen]) (fun j hj => by rw [hg _ _ j hj, hg _ _ j hj]) (hh _ _ (by simp [hlen])))
      refine ⟨ys, hy, hc, Ev.step (fun k => ?_) he⟩
      rw [drovewayref04_Written.l0, if_pos g1, if_pos g2, if_pos g3]
      simp only [Option.bind_some, Int.toNat_natCast]
      rw [e1, if_pos rfl, ew]
    · rw [if_neg b1] at e1
      by_cases b2 : d.testBit i = true
      · rw [if_pos b2] at e2
        obtain ⟨ys, hy, hc, he⟩ := ih (i + 1) ((xs.set i 46).set i 100) (by omega) (by omega) (by simp [hlen]) (hset 100 (by rw [letAt, if_neg b1, if_pos b2]) _ (by simp [hlen]) (fun j hj => by rw [hg _ _ j hj, hg _ _ j hj]) (hh _ _ (by simp [hlen])))
        refine ⟨ys, hy, hc, Ev.step (fun k => ?_) he⟩
        rw [drovewayref04_Written.l0, if_pos g1, if_pos g2, if_pos g3]
        simp only [Option.bind_some, Int.toNat_natCast]
        rw [e1, if_neg (by decide), e2, if_pos rfl, ew]
      · rw [if_neg b2] at e2
        obtain ⟨ys, hy, hc, he⟩ := ih (i + 1) (xs.set i 46) (by omega) (by omega) (by simp [hlen]) (hset 46 (by rw [letAt, if_neg b1, if_neg b2]) _ (by simp [hlen]) (fun j hj => by rw [hg _ _ j hj]) (hh _ _ hlen))
        refine ⟨ys, hy, hc, Ev.step (fun k => ?_) he⟩
        rw [drovewayref04_Written.l0, if_pos g1, if_pos g2, if_pos g3]
        simp only [Option.bind_some, Int.toNat_natCast]
        rw [e1, if_neg (by decide), e2, if_neg (by decide), ew]
theorem letAt_range (w d j : Nat) : 0 ≤ letAt w d j ∧ letAt w d j < 256 ∧ okC (letAt w d j) = true := by
  unfold letAt
  split
  · exact ⟨by decide, by decide, rfl⟩
  · split
    · exact ⟨by decide, by decide, rfl⟩
    · exact ⟨by decide, by decide, rfl⟩
theorem Written_ev {m w d : Nat} (h9 : m ≤ 9) : ∃ t : ByteArray, t.size = m ∧ (∀ j : Nat, j < m → bt t j = letAt w d j) ∧ Ev (fun k => drovewayref04_Written.f k m w d) t := by
  obtain ⟨ys, hy, hc, he⟩ := Written_l0 (w := w) (d := d) h9 _ 0 (List.replicate m 0) rfl (Nat.zero_le _) (by simp) (fun j hj => by omega)
  refine ⟨strOfNums ys, by rw [strOfNums_size]; exact hy, fun j hj => ?_, ?_⟩
  · have hr := letAt_range w d j
    rw [bt_nums ys j (by omega) (by rw [hc j hj]; exact hr.1) (by rw [hc j hj]; exact hr.2.1), hc j hj]
  · refine Ev.congr (fun k => ?_) he
    unfold drovewayref04_Written.f
    rw [if_pos (by omega), if_pos (by omega)]
    rfl
set_option linter.unusedVariables false in
theorem Written_msk {m w d : Nat} {t : ByteArray} (hs : t.size = m) (hb : ∀ j : Nat, j < m → bt t j = letAt w d j) (hw : w < 2 ^ m) : msk 119 t m = w := by
  refine Nat.eq_of_testBit_eq fun k => ?_
  rw [msk_tb]
  by_cases hk : k < m
  · rw [hb k hk]
    unfold letAt
    by_cases q : w.testBit k = true
    · rw [if_pos q, q]; simp [hk]
    · rw [if_neg q]
      have : w.testBit k = false := by simpa using q
      rw [this]
      by_cases q2 : d.testBit k = true
      · rw [if_pos q2]; simp
      · rw [if_neg q2]; simp
  · rw [tb_big hw (by omega)]; simp [hk]
set_option linter.unusedVariables false in
theorem Written_mskd {m w d : Nat} {t : ByteArray} (hs : t.size = m) (hb : ∀ j : Nat, j < m → bt t j = letAt w d j) (hd : d < 2 ^ m) (hA : ∀ k, d.testBit k = true → w.testBit k = false) : msk 100 t m = d := by
  refine Nat.eq_of_testBit_eq fun k => ?_
  rw [msk_tb]
  by_cases hk : k < m
  · rw [hb k hk]
    unfold letAt
    by_cases q : d.testBit k = true
    · rw [if_neg (by rw [hA k q]; decide), if_pos q, q]; simp [hk]
    · have : d.testBit k = false := by simpa using q
      rw [this]
      by_cases q2 : w.testBit k = true
      · rw [if_pos q2]; simp
      · rw [if_neg q2, if_neg (by decide)]; simp
  · rw [tb_big hd (by omega)]; simp [hk]
theorem Written_ok {m w d : Nat} {l : List Int} {t : ByteArray} (hF : okF m l = 0) (hs : t.size = m) (hb : ∀ j : Nat, j < m → bt t j = letAt w d j) : okP m l t = 0 :=
  okP_iff.2 ⟨hF, by rw [hs], fun i hi => by rw [hb i (by omega)]; exact (letAt_range w d i).2.2⟩
theorem Written_free {m w : Nat} {t : ByteArray} (hb : ∀ j : Nat, j < m → bt t j = letAt w 0 j) : ∀ k, k ≤ m → freeC t k + popB w k = k
  | 0, _ => rfl
  | k + 1, hk => by
    have ih := Written_free hb k (by omega)
    rw [freeC, popB, hb k (by omega)]
    unfold letAt
    by_cases q : w.testBit k = true
    · rw [if_pos q, if_pos q, if_neg (by decide)]; omega
    · rw [if_neg q, if_neg q, Nat.zero_testBit]
      have e : (if (false = true) then (100 : Int) else 46) = 46 := by decide
      rw [e, if_pos rfl]; omega
theorem chosen_l0 (s : ByteArray) (hs : s.size ≤ 140737488351232) : ∀ n i (b : Int), s.size - i = n → i ≤ s.size → 0 ≤ b → (freeC s i : Int) + b < freeC s s.size →
    ∃ j : Nat, j < s.size ∧ bt s j = 46 ∧ Ev (fun k => drovewaylaw04_chosen.l0 k s b (i : Int)) (j : Int) := by
  intro n
  induction n with
  | zero =>
    intro i b hn hi h0 hb
    have e : i = s.size := by omega
    subst e
    omega
  | succ n ih =>
    intro i b hn hi h0 hb
    have ew : wrap64 ((i : Int) + 1) = ((i + 1 : Nat) : Int) := by rw [wrap64_id] <;> omega
    have hle := freeC_le s s.size
    by_cases e1 : bt s i = 46
    · by_cases eb : b = 0
      · refine ⟨i, by omega, e1, Ev.step (f := fun _ => some (i : Int)) (fun k => ?_) (Ev.now _)⟩
        rw [drovewaylaw04_chosen.l0, if_pos (by omega), if_pos (by omega), if_pos e1, if_pos eb]
      · have hf : freeC s (i + 1) = freeC s i + 1 := by rw [freeC, if_pos e1]
        have ew2 : wrap64 (b - 1) = b - 1 := by rw [wrap64_id] <;> omega
        obtain ⟨j, hj, e, h⟩ := ih (i + 1) (b - 1) (by omega) (by omega) (by omega) (by omega)
        refine ⟨j, hj, e, Ev.step (fun k => ?_) h⟩
        rw [drovewaylaw04_chosen.l0, if_pos (by omega), if_pos (by omega), if_pos e1, if_neg eb, ew, ew2]
    · have hf : freeC s (i + 1) = freeC s i := by rw [freeC, if_neg e1]
      obtain ⟨j, hj, e, h⟩ := ih (i + 1) b (by omega) (by omega) h0 (by omega)
      refine ⟨j, hj, e, Ev.step (fun k => ?_) h⟩
      rw [drovewaylaw04_chosen.l0, if_pos (by omega), if_pos (by omega), if_neg e1, ew]
theorem chosen_ev (s : ByteArray) (hs : s.size ≤ 140737488351232) (b : Int) (hb : 0 ≤ b) (hf : 0 < freeC s s.size) :
    ∃ j : Nat, j < s.size ∧ bt s j = 46 ∧ Ev (fun k => drovewaylaw04_chosen.f k s b) (j : Int) := by
  have hm : Int.tmod b (freeC s s.size) = b % (freeC s s.size) := Int.tmod_eq_emod_of_nonneg hb
  have h1 : 0 ≤ b % (freeC s s.size : Int) := Int.emod_nonneg _ (by omega)
  have h2 : b % (freeC s s.size : Int) < freeC s s.size := Int.emod_lt_of_pos _ (by omega)
  obtain ⟨j, hj, e, h⟩ := chosen_l0 s hs _ 0 (b % (freeC s s.size : Int)) rfl (Nat.zero_le _) h1 (by simp only [freeC]; omega)
  refine ⟨j, hj, e, ?_⟩
  refine Ev.bind (f := fun k t134 => if t134 = 0 then (some (-1)) else (drovewaylaw04_chosen.l0 k s (Int.tmod b t134) 0)) (free_ev s hs) ?_
  refine Ev.congr (fun k => ?_) h
  rw [if_neg (by omega), hm]
  rfl
end Go.Proofs.Ytbjpjjokamaliaa.B

/- The specification's Guards and Needs, as they are called. -/
namespace Go.Proofs.Ytbjpjjokamaliaa.B
open Go.Proofs.Ytbjpjjokamaliaa.A
open Go.RowKit Go.Proofs.YtbjpjjokamaliaaW.PrintWords Go.Proofs.YtbjpjjokamaliaaW.PrintLast Go.Proofs.YtbjpjjokamaliaaW.PrintMore

theorem known_move {l : List Int} {m kb N C base : Nat} {w w' : World} (h : KnownR l m kb N C base w) (hb : w'.heap[kb]? = w.heap[kb]?) : KnownR l m kb N C base w' := by
  obtain ⟨ks, h1, h2, h3⟩ := h
  refine ⟨ks, Kd.R_of_own (own_move (Kd.own_of_R h1) (fun k hk => ?_)) (fun k _ => trivial), h2, h3⟩
  have : kb = k := by simpa [Value.ownBlock] using hk
  rw [← this]
  exact hb

/-- What is held while the specification goes through the spots. -/
structure GuaR (l : List Int) (m : Nat) (A : Option Addr) (c : Nat) (w : World) (g kb N C : Nat) (v : Value) (xs : List Int) (W : World) : Prop where
  below : Below w.heap.size w W
  game : GameIs l m A c g kb N C w.heap.size W
  row : Kd.R (Kd.int .i64) 3 W (g + 1) (fun _ => True) v xs
theorem GuaR.gb {l : List Int} {m : Nat} {A : Option Addr} {c : Nat} {w : World} {g kb N C : Nat} {v : Value} {xs : List Int} {W : World} (h : GuaR l m A c w g kb N C v xs W) : g < W.heap.size := blk_lt h.game.cg
theorem GuaR.base {l : List Int} {m : Nat} {A : Option Addr} {c : Nat} {w : World} {g kb N C : Nat} {v : Value} {xs : List Int} {W : World} (h : GuaR l m A c w g kb N C v xs W) : w.heap.size ≤ kb := by
  obtain ⟨ks, h1, _⟩ := h.game.row
  exact (R_blk h1).1
theorem GuaR.nextK {l : List Int} {m : Nat} {A : Option Addr} {c : Nat} {w : World} {g kb N C : Nat} {v : Value} {xs : List Int} {W W' : World} (h : GuaR l m A c w g kb N C v xs W) (hk : Keep kb W W') (hG : GameIs l m A c g kb N C w.heap.size W') : GuaR l m A c w g kb N C v xs W' := by
  have hb := h.base
  have hne := h.game.ne
  refine ⟨h.below.trans (hk.below hb h.below.size), hG, Kd.R_mono (Kd.R_step (Kd.R_bound h.row) (fun k hk2 hlt => hk.block k hlt (by have := hk2.2.1; omega))) (fun _ _ => trivial)⟩
theorem GuaR.next {l : List Int} {m : Nat} {A : Option Addr} {c : Nat} {w : World} {g kb N C : Nat} {v : Value} {xs : List Int} {W W' : World} (h : GuaR l m A c w g kb N C v xs W) (hb : Below W.heap.size W W') : GuaR l m A c w g kb N C v xs W' :=
  ⟨below_then h.below h.below.size hb, h.game.keep hb, Kd.R_below h.row hb⟩
theorem GuaR.put {l : List Int} {m : Nat} {A : Option Addr} {c : Nat} {w : World} {g kb N C : Nat} {v v1 : Value} {xs ys : List Int} {W W1 : World} (h : GuaR l m A c w g kb N C v xs W) (hg : W.grownBy W1 v.ownBlock) (hr : Kd.R (Kd.int .i64) 3 W1 (g + 1) (fun _ => True) v1 ys) : GuaR l m A c w g kb N C v1 ys W1 := by
  have hgb := h.gb
  have hbase := h.base
  have hne := h.game.ne
  have hb : ∀ k, k < g + 1 → W1.heap[k]? = W.heap[k]? := fun k hk => hg.block k (by omega) (fun e => by have := Kd.R_base h.row k e.symm; omega)
  exact ⟨h.below.grown hg h.below.size (fun k hk => by have := Kd.R_base h.row k hk; omega), ⟨(hb g (by omega)).trans h.game.cg, known_move h.game.row (hb kb (by omega)), hne⟩, hr⟩

theorem gua_off {l : List Int} {m : Nat} {A : Option Addr} {c : Nat} {w : World} {g kb N C : Nat} {v : Value} {xs : List Int} {W : World} (h : GuaR l m A c w g kb N C v xs W) (hr : Kd.C (Kd.int .i64) w A l.length l) : ∀ W', Keep kb W W' → Kd.C (Kd.int .i64) W' A l.length l :=
  fun _ hk => Kd.C_below hr (h.below.trans (hk.below h.base h.below.size))
theorem gua_call {l : List Int} {m : Nat} (h9 : m ≤ 9) (hl : okL m l) {A : Option Addr} {c : Nat} {w : World} {g kb N C : Nat} {v : Value} {xs : List Int} {W : World} (hN : N = 2 * 2 ^ (2 * m)) (h : GuaR l m A c w g kb N C v xs W) (hr : Kd.C (Kd.int .i64) w A l.length l) {p d : Nat} {nx : Bool} (hp : p < 2 ^ m) (hd : d < 2 ^ m) (P D X : Int) (hP : (p : Int) = P) (hD : (d : Int) = D) (hX : nxZ nx = X) :
    Calls Try.prog 62 #[.pointer (some ⟨g, 0, none⟩), .int .i64 P, .int .i64 D, .int .i64 X] W fun e w' => e = .returned (.bool (winB l m p d nx)) ∧ GuaR l m A c w g kb N C v xs w' := by
  subst hP hD hX
  exact (game_all l m h9 hl A c g kb N C w.heap.size (m + 1) hN p d nx W (by have := cnt_le m p.testBit d.testBit; omega) hp hd (gua_off h hr) h.game).mono fun e w' ⟨h1, h2, h3⟩ => ⟨h1, h.nextK h3 h2⟩
theorem gua_new {l : List Int} {m : Nat} {A : Option Addr} {c : Nat} {w w3 w4 : World} {g kb N C : Nat} (hb3 : Below w.heap.size w w3) (hb4 : Below w3.heap.size w3 w4) (hG : GameIs l m A c g kb N C w3.heap.size w4) : GuaR l m A c w g kb N C (.slice none 0 0) [] w4 := by
  obtain ⟨ks, h1, h2, h3⟩ := hG.row
  exact ⟨below_then hb3 hb3.size hb4, ⟨hG.cg, ⟨ks, Kd.R_lower h1 hb3.size, h2, h3⟩, hG.ne⟩, Kd.R_nil _ _ _ _ _⟩
theorem winB_one (l : List Int) (m p d : Nat) (nx : Bool) : winB l m p d nx = true ↔ winZ l m p d nx = 1 := by
  unfold winB winZ who
  cases wins l m p.testBit d.testBit nx <;> simp
theorem winB_two (l : List Int) (m p d : Nat) (nx : Bool) : winB l m p d nx = false ↔ winZ l m p d nx = 2 := by
  unfold winB winZ who
  cases wins l m p.testBit d.testBit nx <;> simp

def drovewayref04_Guards.f (a0 : Int) (l1 : List Int) : Option (List Int × Int) :=
  some (if okF a0 l1 = 0 then (guardL l1 a0.toNat a0.toNat, 0) else ([], okF a0 l1))

set_option maxRecDepth 100000 in
set_option maxHeartbeats 800000 in
theorem rGuards_err (m : Int) (A : Option Addr) (c : Nat) (l : List Int) (w : World) (hr : Kd.C (Kd.int .i64) w A l.length l) (hc : l.length ≤ c) (he : okF m l ≠ 0) :
    Calls Try.prog 34 #[.int .i64 m, .slice A l.length c] w fun e w' => (∃ v0_ : Value, e = .returned (.tuple #[v0_, .int .i64 (okF m l)]) ∧ Kd.R (Kd.int .i64) 3 w' w.heap.size (fun _ => True) v0_ []) ∧ Below w.heap.size w w' := by
  have HR := Aside0.mk hr
  have HC := Aside0.mk hc
  obtain ⟨k, hk⟩ := (Field_ev m l).rounds
  have HK := Aside0.mk hk
  generalize okF m l = E at *
  have hE : (E != 0) = true := by rw [bne_iff_ne]; exact he
  clear hr hc hk he
  go_enter Try.func34, Try.ntmps34
  go_wp2_with (go_at_call 17; refine (drovewayref04_Field.calls k m A c l _ _ HR.out HC.out HK.out).mono ?_; rintro e w3 ⟨rfl, hb3⟩; have HB3 := Aside0.mk hb3.below; clear hb3)
  go_ret2
  exact ⟨⟨_, rfl, Kd.R_nil _ _ _ _ _⟩, HB3.out⟩

set_option maxRecDepth 100000 in
set_option maxHeartbeats 1600000 in
theorem rGuards_good (m : Nat) (A : Option Addr) (c : Nat) (l : List Int) (w : World) (hr : Kd.C (Kd.int .i64) w A l.length l) (hc : l.length ≤ c) (he : okF m l = 0) :
    Calls Try.prog 34 #[.int .i64 m, .slice A l.length c] w fun e w' => (∃ v0_ : Value, e = .returned (.tuple #[v0_, .int .i64 0]) ∧ Kd.R (Kd.int .i64) 3 w' w.heap.size (fun _ => True) v0_ (guardL l m m)) ∧ Below w.heap.size w w' := by
  have HR := Aside0.mk hr
  have HC := Aside0.mk hc
  have HE := Aside0.mk he
  have h9 : m ≤ 9 := by have := okF_m he; omega
  have h1 : 1 ≤ m := by have := okF_m he; omega
  obtain ⟨k0, hk⟩ := (Field_ev m l).rounds
  rw [he] at hk
  have HK := Aside0.mk hk
  obtain ⟨N, hN⟩ : ∃ N, 2 * 2 ^ (2 * m) = N := ⟨_, rfl⟩
  have HN := Aside0.mk hN.symm
  clear hr hc hk he hN
  go_enter Try.func34, Try.ntmps34
  go_wp2_with (first
    | (go_at_call 17; refine (drovewayref04_Field.calls k0 m A c l _ _ HR.out HC.out HK.out).mono ?_; rintro e w3 ⟨rfl, hb3⟩; have HB3 := Aside0.mk hb3.below; clear hb3)
    | (go_at_call 61; refine (newGame_calls l m h1 h9 A c _).mono ?_; rintro e w4 ⟨⟨g, kb, C, rfl, hG4⟩, hb4⟩; have HI : Aside0 (GuaR l m A c w g kb N C (.slice none 0 0) [] w4) := ⟨by rw [HN.out]; exact gua_new HB3.out hb4 hG4⟩; clear hb4 hG4))
  go_loopg [8, 9] m (fun gg v8 v9 wr => ∃ (k : Nat) (v : Value), k ≤ m ∧ m - k ≤ gg ∧ v9 = .int .i64 k ∧ v8 = v ∧ Aside0 (GuaR l m A c w g kb N C v (guardL l m k) wr))
  case atStart => exact ⟨0, _, Nat.zero_le _, by omega, rfl, rfl, HI⟩
  case round =>
    clear HI HB3
    obtain ⟨k, v, hk, hgg, rfl, rfl, HI⟩ := hrel
    obtain ⟨A2, c2, hv2, hc2, _⟩ := Kd.R_reads HI.out.row
    subst hv2
    by_cases hlt : k < m
    · have hltz : (k : Int) < (m : Int) := by omega
      have EP : Aside0 (((2 ^ k : Nat) : Int) = wrap64 (2 ^ k)) := ⟨by rw [wrap64_two (by omega)]; simp⟩
      obtain ⟨z, hz⟩ : ∃ z, winB l m 0 (2 ^ k) true = z := ⟨_, rfl⟩
      have HZ := Aside0.mk hz
      obtain ⟨n2, hn2⟩ : ∃ n2, (guardL l m k).length = n2 := ⟨_, rfl⟩
      have HN2 := Aside0.mk hn2
      rw [hn2] at HI ⊢
      have hn9 : n2 ≤ 9 := by have := guardL_len l m k; rw [hn2] at this; omega
      clear hz hn2
      cases z with
      | true =>
        go_wp2_with (go_at_call 62; refine (gua_call h9 (okF_L HE.out) HN.out HI.out HR.out (p := 0) (d := 2 ^ k) (nx := true) (Nat.two_pow_pos m) (Nat.pow_lt_pow_right (by decide) hlt) 0 _ 0 rfl EP.out rfl).mono ?_; rw [HZ.out]; rintro e w5 ⟨rfl, hG5⟩; have HI5 := Aside0.mk hG5; clear hG5)
        go_roundg (m - (k + 1))
        case measure => omega
        case rel =>
          refine ⟨k + 1, _, by omega, by omega, by go_num, rfl, ?_⟩
          rw [guardL, if_neg (by rw [← winB_two, HZ.out]; simp)]
          exact HI5
      | false =>
        go_wp2_with (first
          | (go_at_call 62; refine (gua_call h9 (okF_L HE.out) HN.out HI.out HR.out (p := 0) (d := 2 ^ k) (nx := true) (Nat.two_pow_pos m) (Nat.pow_lt_pow_right (by decide) hlt) 0 _ 0 rfl EP.out rfl).mono ?_; rw [HZ.out]; rintro e w5 ⟨rfl, hG5⟩; have HI5 := Aside0.mk hG5; clear hG5)
          | (at_builtin; refine Kd.R_append (Kd.int .i64) (w0 := w5) (g + 1) rfl (.tmp 29) (.tmp 31) 22 3 (.int .i64 0) 8 rfl Try.underlying22 info3A rfl (by decide) (by omega) (.slice A2 n2 c2) (guardL l m k) (k : Int) [.int .i64 (k : Int)] (fun _ => True) (fun _ => False) rfl rfl rfl (fun _ hk => hk.elim) (fun _ _ => trivial) HI5.out.row (Below.refl _ _) (by have := HI5.out.gb; omega) (by rw [HN2.out]; omega) ?_; intro v4 w6 ho hbb hg4 hat; have HA := Aside0.mk (HI5.out.put hg4 ho); clear ho hbb hg4 hat))
        go_roundg (m - (k + 1))
        case measure => omega
        case rel =>
          refine ⟨k + 1, _, by omega, by omega, by go_num, rfl, ?_⟩
          rw [guardL, if_pos ((winB_two _ _ _ _ _).1 HZ.out)]
          exact HA
    · have hltz : ¬ (k : Int) < (m : Int) := by omega
      have HK2 := Aside0.mk (show k = m by omega)
      clear hlt
      go_wp2_with fail
      go_ret2
      have hkm := HK2.out
      subst hkm
      exact ⟨⟨_, rfl, Kd.R_lower HI.out.row (by have := HI.out.base; have := HI.out.game.ne; omega)⟩, HI.out.below⟩

theorem drovewayref04_Guards.calls (a0 : Int) (A1 : Option Addr) (c1 : Nat) (l1 : List Int) (r1 : List Int) (r2 : Int) (w : World) (hr1 : Kd.C (Kd.int .i64) w A1 l1.length l1) (hc1 : l1.length ≤ c1) (h : drovewayref04_Guards.f a0 l1 = some (r1, r2)) :
    Calls Try.prog 34 #[.int .i64 a0, .slice A1 l1.length c1] w fun e w' => ∃ v0_ : Value, e = .returned (.tuple #[v0_, .int .i64 r2]) ∧ Kd.R (Kd.int .i64) 3 w' w.heap.size (fun _ => True) v0_ r1 ∧ Below w.heap.size w w' := by
  unfold drovewayref04_Guards.f at h
  by_cases h0 : okF a0 l1 = 0
  · rw [if_pos h0] at h
    have h1 := (okF_m h0).1
    obtain ⟨m, rfl⟩ : ∃ m : Nat, a0 = m := ⟨a0.toNat, by omega⟩
    cases h
    exact (rGuards_good m A1 c1 l1 w hr1 hc1 h0).mono fun _ _ ⟨⟨v, e, hR⟩, hB⟩ => ⟨v, e, hR, hB⟩
  · rw [if_neg h0] at h
    cases h
    exact (rGuards_err a0 A1 c1 l1 w hr1 hc1 h0).mono fun _ _ ⟨⟨v, e, hR⟩, hB⟩ => ⟨v, e, hR, hB⟩

/-! ### Needs -/
theorem bit_div (y k : Nat) : (((y : Int) / 2 ^ k).tmod 2) = if y.testBit k = true then 1 else 0 := by
  have e : ((y : Int) / 2 ^ k) = ((y / 2 ^ k : Nat) : Int) := by simp
  rw [e, Int.tmod_eq_emod_of_nonneg (Int.natCast_nonneg _), Nat.testBit_eq_decide_div_mod_eq]
  generalize y / 2 ^ k = z
  by_cases h : z % 2 = 1
  · simp [h]; omega
  · simp [h]; omega

set_option maxRecDepth 100000 in
set_option maxHeartbeats 800000 in
theorem rNeeds_err (m : Int) (A : Option Addr) (c : Nat) (l : List Int) (w : World) (hr : Kd.C (Kd.int .i64) w A l.length l) (hc : l.length ≤ c) (he : okF m l ≠ 0) :
    Calls Try.prog 36 #[.int .i64 m, .slice A l.length c] w fun e w' => e = .returned (.tuple #[.int .i64 0, .int .i64 (okF m l)]) ∧ Below w.heap.size w w' := by
  have HR := Aside0.mk hr
  have HC := Aside0.mk hc
  obtain ⟨k, hk⟩ := (Field_ev m l).rounds
  have HK := Aside0.mk hk
  generalize okF m l = E at *
  have hE : (E != 0) = true := by rw [bne_iff_ne]; exact he
  clear hr hc hk he
  go_enter Try.func36, Try.ntmps36
  go_wp2_with (go_at_call 17; refine (drovewayref04_Field.calls k m A c l _ _ HR.out HC.out HK.out).mono ?_; rintro e w3 ⟨rfl, hb3⟩; have HB3 := Aside0.mk hb3.below; clear hb3)
  go_ret2
  exact ⟨rfl, HB3.out⟩

set_option maxRecDepth 100000 in
set_option maxHeartbeats 800000 in
theorem rNeeds_none (m : Int) (A : Option Addr) (c : Nat) (w : World) (hr : Kd.C (Kd.int .i64) w A ([] : List Int).length []) (hc : ([] : List Int).length ≤ c) (he : okF m [] = 0) :
    Calls Try.prog 36 #[.int .i64 m, .slice A ([] : List Int).length c] w fun e w' => e = .returned (.tuple #[.int .i64 0, .int .i64 10]) ∧ Below w.heap.size w w' := by
  have HR := Aside0.mk hr
  have HC := Aside0.mk hc
  obtain ⟨k, hk⟩ := (Field_ev m []).rounds
  rw [he] at hk
  have HK := Aside0.mk hk
  clear hr hc hk he
  go_enter Try.func36, Try.ntmps36
  go_wp2_with (go_at_call 17; refine (drovewayref04_Field.calls k m A c [] _ _ HR.out HC.out HK.out).mono ?_; rintro e w3 ⟨rfl, hb3⟩; have HB3 := Aside0.mk hb3.below; clear hb3)
  go_ret2
  exact ⟨rfl, HB3.out⟩

set_option maxRecDepth 100000 in
set_option maxHeartbeats 1600000 in
theorem rNeeds_good (m : Nat) (A : Option Addr) (c : Nat) (l : List Int) (w : World) (hr : Kd.C (Kd.int .i64) w A l.length l) (hc : l.length ≤ c) (he : okF m l = 0) (hne : l ≠ []) :
    Calls Try.prog 36 #[.int .i64 m, .slice A l.length c] w fun e w' => e = .returned (.tuple #[.int .i64 (needL l m (2 ^ m)), .int .i64 0]) ∧ Below w.heap.size w w' := by
  have HR := Aside0.mk hr
  have HC := Aside0.mk hc
  have HE := Aside0.mk he
  have h9 : m ≤ 9 := by have := okF_m he; omega
  have h1 : 1 ≤ m := by have := okF_m he; omega
  have hl0 : ((l.length : Int) == 0) = false := by
    rw [beq_eq_false_iff_ne]
    have := List.length_pos_iff.2 hne
    omega
  obtain ⟨k0, hk⟩ := (Field_ev m l).rounds
  rw [he] at hk
  have HK := Aside0.mk hk
  obtain ⟨N, hN⟩ : ∃ N, 2 * 2 ^ (2 * m) = N := ⟨_, rfl⟩
  have HN := Aside0.mk hN.symm
  obtain ⟨M, hM⟩ : ∃ M, 2 ^ m = M := ⟨_, rfl⟩
  have HM := Aside0.mk hM
  have h512 : M ≤ 512 := by
    rw [← hM]; exact Nat.pow_le_pow_right (show 0 < 2 by decide) h9
  have e1 : wrap64 (2 ^ m) = (M : Int) := by rw [wrap64_two (by omega), ← hM, Int.natCast_pow]; rfl
  rw [hM]
  clear hr hc hk he hN hM hne
  go_enter Try.func36, Try.ntmps36
  go_wp2_with (first
    | (go_at_call 17; refine (drovewayref04_Field.calls k0 m A c l _ _ HR.out HC.out HK.out).mono ?_; rintro e w3 ⟨rfl, hb3⟩; have HB3 := Aside0.mk hb3.below; clear hb3)
    | (go_at_call 61; refine (newGame_calls l m h1 h9 A c _).mono ?_; rintro e w4 ⟨⟨g, kb, C, rfl, hG4⟩, hb4⟩; have HI : Aside0 (GuaR l m A c w g kb N C (.slice none 0 0) [] w4) := ⟨by rw [HN.out]; exact gua_new HB3.out hb4 hG4⟩; clear hb4 hG4))
  go_loopg [8, 9, 10, 11] M (fun gg v8 v9 _ _ wr => ∃ k : Nat, k ≤ M ∧ M - k ≤ gg ∧ v9 = .int .i64 k ∧ v8 = .int .i64 (needL l m k) ∧ Aside0 (GuaR l m A c w g kb N C (.slice none 0 0) [] wr))
  case atStart => exact ⟨0, Nat.zero_le _, by omega, rfl, rfl, HI⟩
  case round =>
    clear HI HB3
    obtain ⟨k, hk, hgg, rfl, rfl, HI⟩ := hrel
    by_cases hlt : k < M
    · have hltz : (k : Int) < (M : Int) := by omega
      have HKM : Aside0 (k < 2 ^ m) := ⟨by rw [HM.out]; exact hlt⟩
      have hk5 : k < 512 := by omega
      obtain ⟨o, ho⟩ : ∃ o, pop 9 k = o := ⟨_, rfl⟩
      have HO := Aside0.mk ho
      obtain ⟨q, hq⟩ : ∃ q, needL l m k = q := ⟨_, rfl⟩
      have HQ := Aside0.mk hq
      rw [hq]
      clear ho hq
      go_wp2_with fail
      go_loopg [10, 11] m (fun gg v10 v11 wx => ∃ j : Nat, j ≤ m ∧ m - j ≤ gg ∧ v11 = .int .i64 j ∧ v10 = .int .i64 (popB k j) ∧ Aside0 (GuaR l m A c w g kb N C (.slice none 0 0) [] wx))
      case atStart => exact ⟨0, Nat.zero_le _, by omega, rfl, rfl, HI⟩
      case round =>
        clear HI
        obtain ⟨j, hj, hgj, rfl, rfl, HI⟩ := hrel
        by_cases hlj : j < m
        · have hljz : (j : Int) < (m : Int) := by omega
          have hbd := bit_div k j
          have hpl := popB_le k j
          obtain ⟨pj, hpj⟩ : ∃ pj, popB k j = pj := ⟨_, rfl⟩
          have HPJ := Aside0.mk hpj
          rw [hpj] at hpl ⊢
          clear hpj
          cases hb : k.testBit j with
          | true =>
            rw [if_pos hb] at hbd
            have HB := Aside0.mk hb
            clear hb
            go_wp2_with fail
            go_roundg (m - (j + 1))
            case measure => omega
            case rel =>
              refine ⟨j + 1, by omega, by omega, by go_num, ?_, HI⟩
              rw [popB, HPJ.out, if_pos HB.out]
              rfl
          | false =>
            rw [if_neg (by rw [hb]; simp)] at hbd
            have HB := Aside0.mk hb
            clear hb
            go_wp2_with fail
            go_roundg (m - (j + 1))
            case measure => omega
            case rel =>
              refine ⟨j + 1, by omega, by omega, by go_num, ?_, HI⟩
              rw [popB, HPJ.out, if_neg (by rw [HB.out]; simp)]
              rfl
        · have hljz : ¬ (j : Int) < (m : Int) := by omega
          have hjm : j = m := by omega
          have hpo : popB k j = o := by rw [hjm, popB_eq h9 HKM.out, HO.out]
          rw [hpo]
          clear hpo hjm hlj hj
          obtain ⟨z, hz⟩ : ∃ z, winB l m k 0 false = z := ⟨_, rfl⟩
          have HZ := Aside0.mk hz
          clear hz
          by_cases hoq : o < q
          · have hoz : (o : Int) < (q : Int) := by omega
            cases z with
            | true =>
              go_wp2_with (go_at_call 62; refine (gua_call h9 (okF_L HE.out) HN.out HI.out HR.out (p := k) (d := 0) (nx := false) HKM.out (Nat.two_pow_pos m) _ 0 1 rfl rfl rfl).mono ?_; rw [HZ.out]; rintro e w5 ⟨rfl, hG5⟩; have HI5 := Aside0.mk hG5; clear hG5)
              go_roundg (M - (k + 1))
              case measure => omega
              case rel =>
                refine ⟨k + 1, by omega, by omega, by go_num, ?_, HI5⟩
                rw [needL, HO.out, HQ.out, if_pos ⟨hoq, (winB_one _ _ _ _ _).1 HZ.out⟩]
            | false =>
              go_wp2_with (go_at_call 62; refine (gua_call h9 (okF_L HE.out) HN.out HI.out HR.out (p := k) (d := 0) (nx := false) HKM.out (Nat.two_pow_pos m) _ 0 1 rfl rfl rfl).mono ?_; rw [HZ.out]; rintro e w5 ⟨rfl, hG5⟩; have HI5 := Aside0.mk hG5; clear hG5)
              go_roundg (M - (k + 1))
              case measure => omega
              case rel =>
                refine ⟨k + 1, by omega, by omega, by go_num, ?_, HI5⟩
                rw [needL, HO.out, HQ.out, if_neg (fun h => by have := (winB_one _ _ _ _ _).2 h.2; rw [HZ.out] at this; cases this)]
          · have hoz : ¬ (o : Int) < (q : Int) := by omega
            go_wp2_with fail
            go_roundg (M - (k + 1))
            case measure => omega
            case rel =>
              refine ⟨k + 1, by omega, by omega, by go_num, ?_, HI⟩
              rw [needL, HO.out, HQ.out, if_neg (fun h => hoq h.1)]
    · have hltz : ¬ (k : Int) < (M : Int) := by omega
      have : k = M := by omega
      have HK := Aside0.mk this
      clear this hlt
      go_wp2_with fail
      go_ret2
      exact ⟨by rw [← HK.out]; rfl, HI.out.below⟩

def drovewayref04_Needs.f (a0 : Int) (l1 : List Int) : Option (Int × Int) :=
  some (if okF a0 l1 = 0 then if l1 = [] then (0, 10) else (needL l1 a0.toNat (2 ^ a0.toNat), 0) else (0, okF a0 l1))
theorem drovewayref04_Needs.calls (a0 : Int) (A1 : Option Addr) (c1 : Nat) (l1 : List Int) (r1 : Int) (r2 : Int) (w : World) (hr1 : Kd.C (Kd.int .i64) w A1 l1.length l1) (hc1 : l1.length ≤ c1) (h : drovewayref04_Needs.f a0 l1 = some (r1, r2)) :
    Calls Try.prog 36 #[.int .i64 a0, .slice A1 l1.length c1] w fun e w' => e = .returned (.tuple #[.int .i64 r1, .int .i64 r2]) ∧ Below w.heap.size w w' := by
  unfold drovewayref04_Needs.f at h
  by_cases h0 : okF a0 l1 = 0
  · rw [if_pos h0] at h
    obtain ⟨m, rfl⟩ := Int.eq_ofNat_of_zero_le (show 0 ≤ a0 by have := okF_m h0; omega)
    by_cases hl : l1 = []
    · rw [if_pos hl] at h
      subst hl
      cases h
      exact rNeeds_none _ A1 c1 w hr1 hc1 h0
    · rw [if_neg hl, Int.toNat_natCast] at h
      cases h
      exact rNeeds_good m A1 c1 l1 w hr1 hc1 h0 hl
  · rw [if_neg h0] at h
    cases h
    exact rNeeds_err a0 A1 c1 l1 w hr1 hc1 h0
end Go.Proofs.Ytbjpjjokamaliaa.B

/- The library's contracts at this program's numbers (laid by the kit's lay-shelf and lay-plain). -/
namespace Go.Proofs
open Go.Shelf
def Try.lays128_ren : Go.Shelf.Ren := ⟨fun | 128 => 86 | n => n, fun | 51 => 97 | 3 => 3 | 4 => 4 | 46 => 74 | 5 => 5 | 9 => 9 | n => n, fun | n => n⟩
theorem Try.lays128 : Go.Proofs.Lays.n128 Try.prog Try.lays128_ren := {
  mixed := by kernel_rfl
  f128 := Try.func86.trans (congrArg some (by kernel_rfl))
  t3 := Try.underlying3
  a3 := Try.isAgg3
  z3 := Try.sizeOf3
  v3 := Try.zeroValue3
  t4 := Try.underlying4
  a4 := Try.isAgg4
  z4 := Try.sizeOf4
  v4 := Try.zeroValue4
  t5 := Try.underlying5
  a5 := Try.isAgg5
  z5 := Try.sizeOf5
  v5 := Try.zeroValue5
  t9 := Try.underlying9
  a9 := Try.isAgg9
  z9 := Try.sizeOf9
  v9 := Try.zeroValue9
  t46 := Try.underlying74
  a46 := Try.isAgg74
  z46 := Try.sizeOf74
  v46 := Try.zeroValue74
  t51 := Try.underlying97
  a51 := Try.isAgg97
  z51 := Try.sizeOf97
  v51 := Try.zeroValue97 }
theorem Try.bits_Len32 (x : Int) (w : World) (h0 : 0 ≤ x) (h1 : x ≤ 4294967295) :
    Calls Try.prog 86 #[.int .u32 x] w fun e w' => e = .returned (.int .i64 (Lib.bitLen x.toNat)) ∧ w' = w := Any.bits_Len32 Try.lays128 x w h0 h1
def Try.lays125_ren : Go.Shelf.Ren := ⟨fun | 125 => 72 | 128 => 86 | 129 => 87 | n => n, fun | 46 => 74 | 3 => 3 | 51 => 97 | 53 => 99 | 4 => 4 | 5 => 5 | 9 => 9 | n => n, fun | n => n⟩
theorem Try.lays125 : Go.Proofs.Lays.n125 Try.prog Try.lays125_ren := {
  mixed := by kernel_rfl
  f125 := Try.func72.trans (congrArg some (by kernel_rfl))
  f128 := Try.func86.trans (congrArg some (by kernel_rfl))
  f129 := Try.func87.trans (congrArg some (by kernel_rfl))
  t3 := Try.underlying3
  a3 := Try.isAgg3
  z3 := Try.sizeOf3
  v3 := Try.zeroValue3
  t4 := Try.underlying4
  a4 := Try.isAgg4
  z4 := Try.sizeOf4
  v4 := Try.zeroValue4
  t5 := Try.underlying5
  a5 := Try.isAgg5
  z5 := Try.sizeOf5
  v5 := Try.zeroValue5
  t9 := Try.underlying9
  a9 := Try.isAgg9
  z9 := Try.sizeOf9
  v9 := Try.zeroValue9
  t46 := Try.underlying74
  a46 := Try.isAgg74
  z46 := Try.sizeOf74
  v46 := Try.zeroValue74
  t51 := Try.underlying97
  a51 := Try.isAgg97
  z51 := Try.sizeOf97
  v51 := Try.zeroValue97
  t53 := Try.underlying99
  a53 := Try.isAgg99
  z53 := Try.sizeOf99
  v53 := Try.zeroValue99 }
theorem Try.bits_Len (x : Int) (w : World) (h0 : 0 ≤ x) (h1 : x ≤ 18446744073709551615) :
    Calls Try.prog 72 #[.int .u64 x] w fun e w' => e = .returned (.int .i64 (Lib.bitLen x.toNat)) ∧ w' = w := Any.bits_Len Try.lays125 x w h0 h1
def Try.lays215_ren : Go.Shelf.Ren := ⟨fun | 215 => 93 | n => n, fun | 3 => 3 | 4 => 4 | n => n, fun | n => n⟩
theorem Try.lays215 : Go.Proofs.Lays.n215 Try.prog Try.lays215_ren := {
  mixed := by kernel_rfl
  f215 := Try.func93.trans (congrArg some (by kernel_rfl))
  t3 := Try.underlying3
  a3 := Try.isAgg3
  z3 := Try.sizeOf3
  v3 := Try.zeroValue3
  t4 := Try.underlying4
  a4 := Try.isAgg4
  z4 := Try.sizeOf4
  v4 := Try.zeroValue4 }
open Go.RowKit in
theorem Try.cmp_isNaN_int (x : Int) (w : World) :
    Calls Try.prog 93 #[.int .i64 x] w fun e w' => e = .returned (.bool false) ∧ w' = w := Any.cmp_isNaN_int Try.lays215 x w
def Try.lays129_ren : Go.Shelf.Ren := ⟨fun | 129 => 87 | n => n, fun | 53 => 99 | 3 => 3 | 4 => 4 | 46 => 74 | 5 => 5 | 9 => 9 | n => n, fun | n => n⟩
theorem Try.lays129 : Go.Proofs.Lays.n129 Try.prog Try.lays129_ren := {
  mixed := by kernel_rfl
  f129 := Try.func87.trans (congrArg some (by kernel_rfl))
  t3 := Try.underlying3
  a3 := Try.isAgg3
  z3 := Try.sizeOf3
  v3 := Try.zeroValue3
  t4 := Try.underlying4
  a4 := Try.isAgg4
  z4 := Try.sizeOf4
  v4 := Try.zeroValue4
  t5 := Try.underlying5
  a5 := Try.isAgg5
  z5 := Try.sizeOf5
  v5 := Try.zeroValue5
  t9 := Try.underlying9
  a9 := Try.isAgg9
  z9 := Try.sizeOf9
  v9 := Try.zeroValue9
  t46 := Try.underlying74
  a46 := Try.isAgg74
  z46 := Try.sizeOf74
  v46 := Try.zeroValue74
  t53 := Try.underlying99
  a53 := Try.isAgg99
  z53 := Try.sizeOf99
  v53 := Try.zeroValue99 }
theorem Try.bits_Len64 (x : Int) (w : World) (h0 : 0 ≤ x) (h1 : x ≤ 18446744073709551615) :
    Calls Try.prog 87 #[.int .u64 x] w fun e w' => e = .returned (.int .i64 (Lib.bitLen x.toNat)) ∧ w' = w := Any.bits_Len64 Try.lays129 x w h0 h1
def Try.lays189_ren : Go.Shelf.Ren := ⟨fun | 189 => 55 | 125 => 72 | 257 => 71 | 128 => 86 | 129 => 87 | 294 => 77 | 295 => 78 | 296 => 79 | 297 => 80 | 298 => 81 | 299 => 82 | 216 => 83 | 300 => 84 | 301 => 85 | 328 => 88 | 329 => 89 | 330 => 90 | 331 => 91 | 332 => 92 | 215 => 93 | 343 => 94 | n => n, fun | 28 => 22 | 3 => 3 | 46 => 74 | 0 => 0 | 51 => 97 | 53 => 99 | 4 => 4 | 183 => 110 | 182 => 109 | 131 => 114 | 5 => 5 | 9 => 9 | 218 => 116 | 222 => 120 | 228 => 122 | 229 => 123 | n => n, fun | n => n⟩
theorem Try.lays189 : Go.Proofs.Lays.n189 Try.prog Try.lays189_ren := {
  mixed := by kernel_rfl
  f125 := Try.func72.trans (congrArg some (by kernel_rfl))
  f128 := Try.func86.trans (congrArg some (by kernel_rfl))
  f129 := Try.func87.trans (congrArg some (by kernel_rfl))
  f189 := Try.func55.trans (congrArg some (by kernel_rfl))
  f215 := Try.func93.trans (congrArg some (by kernel_rfl))
  f216 := Try.func83.trans (congrArg some (by kernel_rfl))
  f257 := Try.func71.trans (congrArg some (by kernel_rfl))
  f294 := Try.func77.trans (congrArg some (by kernel_rfl))
  f295 := Try.func78.trans (congrArg some (by kernel_rfl))
  f296 := Try.func79.trans (congrArg some (by kernel_rfl))
  f297 := Try.func80.trans (congrArg some (by kernel_rfl))
  f298 := Try.func81.trans (congrArg some (by kernel_rfl))
  f299 := Try.func82.trans (congrArg some (by kernel_rfl))
  f300 := Try.func84.trans (congrArg some (by kernel_rfl))
  f301 := Try.func85.trans (congrArg some (by kernel_rfl))
  f328 := Try.func88.trans (congrArg some (by kernel_rfl))
  f329 := Try.func89.trans (congrArg some (by kernel_rfl))
  f330 := Try.func90.trans (congrArg some (by kernel_rfl))
  f331 := Try.func91.trans (congrArg some (by kernel_rfl))
  f332 := Try.func92.trans (congrArg some (by kernel_rfl))
  f343 := Try.func94.trans (congrArg some (by kernel_rfl))
  t0 := Try.underlying0
  a0 := Try.isAgg0
  z0 := Try.sizeOf0
  v0 := Try.zeroValue0
  t3 := Try.underlying3
  a3 := Try.isAgg3
  z3 := Try.sizeOf3
  v3 := Try.zeroValue3
  t4 := Try.underlying4
  a4 := Try.isAgg4
  z4 := Try.sizeOf4
  v4 := Try.zeroValue4
  t5 := Try.underlying5
  a5 := Try.isAgg5
  z5 := Try.sizeOf5
  v5 := Try.zeroValue5
  t9 := Try.underlying9
  a9 := Try.isAgg9
  z9 := Try.sizeOf9
  v9 := Try.zeroValue9
  t28 := Try.underlying22
  a28 := Try.isAgg22
  z28 := Try.sizeOf22
  v28 := Try.zeroValue22
  t46 := Try.underlying74
  a46 := Try.isAgg74
  z46 := Try.sizeOf74
  v46 := Try.zeroValue74
  t51 := Try.underlying97
  a51 := Try.isAgg97
  z51 := Try.sizeOf97
  v51 := Try.zeroValue97
  t53 := Try.underlying99
  a53 := Try.isAgg99
  z53 := Try.sizeOf99
  v53 := Try.zeroValue99
  t131 := Try.underlying114
  a131 := Try.isAgg114
  z131 := Try.sizeOf114
  v131 := Try.zeroValue114
  t182 := Try.underlying109
  a182 := Try.isAgg109
  z182 := Try.sizeOf109
  v182 := Try.zeroValue109
  t183 := Try.underlying110
  a183 := Try.isAgg110
  z183 := Try.sizeOf110
  v183 := Try.zeroValue110
  t218 := Try.underlying116
  a218 := Try.isAgg116
  z218 := Try.sizeOf116
  v218 := Try.zeroValue116
  t222 := Try.underlying120
  a222 := Try.isAgg120
  z222 := Try.sizeOf120
  v222 := Try.zeroValue120
  t228 := Try.underlying122
  a228 := Try.isAgg122
  z228 := Try.sizeOf122
  v228 := Try.zeroValue122
  t229 := Try.underlying123
  a229 := Try.isAgg123
  z229 := Try.sizeOf123
  v229 := Try.zeroValue123 }
open Go.Sort Go.RowKit in
theorem Try.slices_Sort_int (blk off cap : Nat) (zs : List Int) (w : World) (hH : Holds (Value.int .i64) w blk off zs.toArray) (hblk : blk < w.heap.size) (hsz : zs.length < 4611686018427387904) :
    Calls Try.prog 55 #[.slice (some ⟨blk, off, none⟩) zs.length cap] w fun e w' =>
      e = .returned (.tuple #[]) ∧ ∃ n os, w' = grow (putRow (Value.int .i64) (Sort.ahead w n) blk off (zs.mergeSort fun x y => decide (x ≤ y)).toArray) os := Any.slices_Sort_int Try.lays189 blk off cap zs w hH hblk hsz
def Try.laysNm215_ren : Go.Shelf.Ren := ⟨fun | 15 => 54 | n => n, fun | 22 => 22 | 3 => 3 | 4 => 4 | n => n, fun | n => n⟩
theorem Try.laysNm215 : Go.Proofs.Lays2.n15 Try.prog Try.laysNm215_ren := {
  mixed := by kernel_rfl
  f15 := Try.func54.trans (congrArg some (by kernel_rfl))
  t3 := Try.underlying3
  a3 := Try.isAgg3
  z3 := Try.sizeOf3
  v3 := Try.zeroValue3
  t4 := Try.underlying4
  a4 := Try.isAgg4
  z4 := Try.sizeOf4
  v4 := Try.zeroValue4
  t22 := Try.underlying22
  a22 := Try.isAgg22
  z22 := Try.sizeOf22
  v22 := Try.zeroValue22
  i3 := by kernel_rfl }
open Go.RowKit Go.Lib in
theorem Try.slices_Clone_int (b off n c : Nat) (zs : List Int) (w : World) (hz : n ≤ zs.length) (hbig : n * 8 ≤ 140737488355328) (hc : ∀ j, j < zs.length → w.cell? ⟨b, off + j, none⟩ = some (.int .i64 (zs.getD j 0))) :
    Calls Try.prog 54 #[.slice (some ⟨b, off, none⟩) n c] w fun e w' => ∃ v', e = .returned v' ∧ w'.ownsRow w.heap.size 3 1 v' n ((zs.take n).map (Value.int .i64)) ∧ v' ≠ .slice none 0 0 ∧ Below w.heap.size w w' := Any.slices_Clone_int Try.laysNm215 b off n c zs w hz hbig hc
open Go.RowKit Go.Lib in
theorem Try.slices_Clone_int_nil (n c : Nat) (w : World) :
    Calls Try.prog 54 #[.slice none n c] w fun e w' => e = .returned (.slice none 0 0) ∧ w' = w := Any.slices_Clone_int_nil Try.laysNm215 n c w
open Go.RowKit Go.Lib in
theorem Try.slices_Clone_int_zero (a : Addr) (c : Nat) (w : World) :
    Calls Try.prog 54 #[.slice (some a) 0 c] w fun e w' => ∃ v', e = .returned v' ∧ w'.ownsRow w.heap.size 3 1 v' 0 [] ∧ v' ≠ .slice none 0 0 ∧ Below w.heap.size w w' := Any.slices_Clone_int_zero Try.laysNm215 a c w
def Try.laysNm220_ren : Go.Shelf.Ren := ⟨fun | 20 => 56 | n => n, fun | 22 => 22 | 3 => 3 | 4 => 4 | 0 => 0 | n => n, fun | n => n⟩
theorem Try.laysNm220 : Go.Proofs.Lays2.n20 Try.prog Try.laysNm220_ren := {
  mixed := by kernel_rfl
  f20 := Try.func56.trans (congrArg some (by kernel_rfl))
  t0 := Try.underlying0
  a0 := Try.isAgg0
  z0 := Try.sizeOf0
  v0 := Try.zeroValue0
  t3 := Try.underlying3
  a3 := Try.isAgg3
  z3 := Try.sizeOf3
  v3 := Try.zeroValue3
  t4 := Try.underlying4
  a4 := Try.isAgg4
  z4 := Try.sizeOf4
  v4 := Try.zeroValue4
  t22 := Try.underlying22
  a22 := Try.isAgg22
  z22 := Try.sizeOf22
  v22 := Try.zeroValue22
  i3 := by kernel_rfl }
open Go.RowKit Go.Lib Go.Sort in
theorem Try.slices_Compact_int_arr (blk off cap : Nat) (d : Array Int) (w : World) (hH : Holds encI w blk off d) (hsz : d.size ≤ 9223372036854775807) (hcap : d.size ≤ cap) :
    Calls Try.prog 56 #[.slice (some ⟨blk, off, none⟩) d.size cap] w fun e w' => e = .returned (.slice (some ⟨blk, off, none⟩) (compactUpTo d d.size).length cap) ∧ ∃ q, w' = putRow encI (Sort.ahead w q) blk off (compactUpTo d d.size ++ List.replicate (d.size - (compactUpTo d d.size).length) 0).toArray := Any.slices_Compact_int_arr Try.laysNm220 blk off cap d w hH hsz hcap
open Go.RowKit Go.Lib Go.Sort in
theorem Try.slices_Compact_int (blk off cap : Nat) (zs : List Int) (w : World) (hH : Holds (Value.int .i64) w blk off zs.toArray) (hsz : zs.length ≤ 9223372036854775807) (hcap : zs.length ≤ cap) :
    Calls Try.prog 56 #[.slice (some ⟨blk, off, none⟩) zs.length cap] w fun e w' => e = .returned (.slice (some ⟨blk, off, none⟩) (Lib.compact zs).length cap) ∧ ∃ q, w' = putRow (Value.int .i64) (Sort.ahead w q) blk off (Lib.compact zs ++ List.replicate (zs.length - (Lib.compact zs).length) 0).toArray := Any.slices_Compact_int Try.laysNm220 blk off cap zs w hH hsz hcap
open Go.RowKit Go.Lib Go.Sort in
theorem Try.slices_Compact_int_empty (a : Option Addr) (cap : Nat) (w : World) :
    Calls Try.prog 56 #[.slice a 0 cap] w fun e w' => e = .returned (.slice a 0 cap) ∧ w' = w := Any.slices_Compact_int_empty Try.laysNm220 a cap w
def Try.laysNm237_ren : Go.Shelf.Ren := ⟨fun | 37 => 93 | n => n, fun | 3 => 3 | 4 => 4 | n => n, fun | n => n⟩
theorem Try.laysNm237 : Go.Proofs.Lays2.n37 Try.prog Try.laysNm237_ren := {
  mixed := by kernel_rfl
  f37 := Try.func93.trans (congrArg some (by kernel_rfl))
  t3 := Try.underlying3
  a3 := Try.isAgg3
  z3 := Try.sizeOf3
  v3 := Try.zeroValue3
  t4 := Try.underlying4
  a4 := Try.isAgg4
  z4 := Try.sizeOf4
  v4 := Try.zeroValue4 }
open Go.RowKit Go.Lib in
theorem Try.cmp_isNaN_int2 (x : Int) (w : World) :
    Calls Try.prog 93 #[.int .i64 x] w fun e w' => e = .returned (.bool false) ∧ w' = w := Any.cmp_isNaN_int2 Try.laysNm237 x w
def Try.laysNm231_ren : Go.Shelf.Ren := ⟨fun | 31 => 83 | 37 => 93 | n => n, fun | 3 => 3 | 4 => 4 | n => n, fun | n => n⟩
theorem Try.laysNm231 : Go.Proofs.Lays2.n31 Try.prog Try.laysNm231_ren := {
  mixed := by kernel_rfl
  f31 := Try.func83.trans (congrArg some (by kernel_rfl))
  f37 := Try.func93.trans (congrArg some (by kernel_rfl))
  t3 := Try.underlying3
  a3 := Try.isAgg3
  z3 := Try.sizeOf3
  v3 := Try.zeroValue3
  t4 := Try.underlying4
  a4 := Try.isAgg4
  z4 := Try.sizeOf4
  v4 := Try.zeroValue4 }
open Go.RowKit Go.Lib in
theorem Try.cmp_Less_int2 (x y : Int) (w : World) :
    Calls Try.prog 83 #[.int .i64 x, .int .i64 y] w fun e w' => e = .returned (.bool (decide (x < y))) ∧ w' = w := Any.cmp_Less_int2 Try.laysNm231 x y w
open Go.RowKit Go.Lib Go.Sort in
theorem Try.slices_Compact_int_cells (b off n c : Nat) (zs : List Int) (w : World) (hz : n ≤ zs.length) (hbig : n ≤ 9223372036854775807) (hcap : n ≤ c) (hc : ∀ j, j < zs.length → w.cell? ⟨b, off + j, none⟩ = some (.int .i64 (zs.getD j 0))) (hf : ∀ j, j < n → w.frozen? ⟨b, off + j, none⟩ = false) :
    Calls Try.prog 56 #[.slice (some ⟨b, off, none⟩) n c] w fun e w' => e = .returned (.slice (some ⟨b, off, none⟩) (Lib.compact (zs.take n)).length c) ∧ ∃ q, w' = (w.drewN q).setCells b off ((Lib.compact (zs.take n) ++ List.replicate (n - (Lib.compact (zs.take n)).length) 0).map (Value.int .i64)) := Any.slices_Compact_int_cells Try.laysNm220 b off n c zs w hz hbig hcap hc hf
open Go.RowKit Go.Sort in
theorem Try.slices_Sort_int_none (p : Option Addr) (cap : Nat) (w : World) :
    Calls Try.prog 55 #[.slice p 0 cap] w fun e w' => e = .returned (.tuple #[]) ∧ w' = w := Any.slices_Sort_int_none Try.lays189 p cap w
def Try.laysSlE43_f56_ren : Go.Shelf.Ren := ⟨fun | 43 => 56 | n => n, fun | 22 => 22 | 23 => 3 | 3 => 3 | 4 => 4 | 0 => 0 | n => n, fun | n => n⟩
theorem Try.laysSlE43_f56 : Go.Proofs.SlLaysE.n43 Try.prog Try.laysSlE43_f56_ren := {
  mixed := by kernel_rfl
  f43 := ⟨Try.f56.name, by decide, Try.func56.trans (congrArg some (by kernel_rfl))⟩
  t0 := Try.underlying0
  a0 := Try.isAgg0
  z0 := Try.sizeOf0
  v0 := Try.zeroValue0
  t3 := Try.underlying3
  a3 := Try.isAgg3
  z3 := Try.sizeOf3
  v3 := Try.zeroValue3
  t4 := Try.underlying4
  a4 := Try.isAgg4
  z4 := Try.sizeOf4
  v4 := Try.zeroValue4
  t22 := Try.underlying22
  a22 := Try.isAgg22
  z22 := Try.sizeOf22
  v22 := Try.zeroValue22
  a23 := Try.isAgg3
  z23 := Try.sizeOf3 }
open Go.RowKit Go.Lib Go.Sort in
theorem Try.slices_Compact {α : Type} [Inhabited α] [DecidableEq α] (enc : α → Value) (hO : OneCell enc) (heq : EqlAt Try.prog 3 enc (fun x y => decide (x = y))) (hne : NeqAt Try.prog 3 enc (fun x y => decide (x = y))) (zr : α) (v23 : ∀ w, (zeroValue 3).run Try.prog w = .ok (enc zr) w) (blk off cap : Nat) (d : Array α) (w : World) (hH : Holds enc w blk off d) (hsz : d.size ≤ 9223372036854775807) (hcap : d.size ≤ cap) :
    Calls Try.prog 56 #[.slice (some ⟨blk, off, none⟩) d.size cap] w fun e w' => e = .returned (.slice (some ⟨blk, off, none⟩) (compactUpTo d d.size).length cap) ∧ ∃ q, w' = putRow enc (Sort.ahead w q) blk off (compactUpTo d d.size ++ List.replicate (d.size - (compactUpTo d d.size).length) zr).toArray := AnyE.slices_Compact Try.laysSlE43_f56 enc hO heq hne zr v23 blk off cap d w hH hsz hcap
def Try.laysSlH6_f73_ren : Go.Shelf.Ren := ⟨fun | 6 => 73 | n => n, fun | 22 => 22 | 23 => 3 | 25 => 90 | 3 => 3 | 0 => 0 | 4 => 4 | n => n, fun | n => n⟩
theorem Try.laysSlH6_f73 : Go.Proofs.SlLaysH.n6 Try.prog Try.laysSlH6_f73_ren := {
  mixed := by kernel_rfl
  f6 := ⟨Try.f73.name, by decide, Try.func73.trans (congrArg some (by kernel_rfl))⟩
  t0 := Try.underlying0
  a0 := Try.isAgg0
  z0 := Try.sizeOf0
  v0 := Try.zeroValue0
  t3 := Try.underlying3
  a3 := Try.isAgg3
  z3 := Try.sizeOf3
  v3 := Try.zeroValue3
  t4 := Try.underlying4
  a4 := Try.isAgg4
  z4 := Try.sizeOf4
  v4 := Try.zeroValue4
  t22 := Try.underlying22
  a22 := Try.isAgg22
  z22 := Try.sizeOf22
  v22 := Try.zeroValue22
  a23 := Try.isAgg3
  z23 := Try.sizeOf3
  t25 := Try.underlying90
  a25 := Try.isAgg90
  z25 := Try.sizeOf90
  v25 := Try.zeroValue90 }
open Go.RowKit Go.Lib in
theorem Try.slices_IndexFunc {α : Type} [Inhabited α] (enc : α → Value) (p : α → Bool) (g : Nat) (lb : Array Value) (eg : ∀ args w, (callFunc g args).run Try.prog w = .ok (.enter g args) w) (b off n c : Nat) (zs : List α) (w : World) (hp : PredAt Try.prog g lb enc p w) (hz : n ≤ zs.length) (hbig : n ≤ 9223372036854775807) (hc : ∀ j, j < zs.length → w.cell? ⟨b, off + j, none⟩ = some (enc zs[j]!)) :
    Calls Try.prog 73 #[.slice (some ⟨b, off, none⟩) n c, .func (.func g) #[] lb] w fun e w' => e = .returned (.int .i64 (Lib.idxBy (fun _ y => p y) (zs.take n) default)) ∧ ∃ q, w' = w.drewN q := AnyE.slices_IndexFunc Try.laysSlH6_f73 enc p g lb eg b off n c zs w hp hz hbig hc
open Go.RowKit Go.Lib in
theorem Try.slices_IndexFunc_empty {α : Type} [Inhabited α] (a : Option Addr) (c : Nat) (fv : Value) (w : World) :
    Calls Try.prog 73 #[.slice a 0 c, fv] w fun e w' => e = .returned (.int .i64 (-1)) ∧ w' = w := AnyE.slices_IndexFunc_empty Try.laysSlH6_f73 a c fv w
def Try.laysSlH8_f59_ren : Go.Shelf.Ren := ⟨fun | 8 => 59 | 6 => 73 | n => n, fun | 22 => 22 | 23 => 3 | 25 => 90 | 4 => 4 | 3 => 3 | 0 => 0 | n => n, fun | n => n⟩
theorem Try.laysSlH8_f59 : Go.Proofs.SlLaysH.n8 Try.prog Try.laysSlH8_f59_ren := {
  mixed := by kernel_rfl
  f6 := ⟨Try.f73.name, by decide, Try.func73.trans (congrArg some (by kernel_rfl))⟩
  f8 := ⟨Try.f59.name, by decide, Try.func59.trans (congrArg some (by kernel_rfl))⟩
  t0 := Try.underlying0
  a0 := Try.isAgg0
  z0 := Try.sizeOf0
  v0 := Try.zeroValue0
  t3 := Try.underlying3
  a3 := Try.isAgg3
  z3 := Try.sizeOf3
  v3 := Try.zeroValue3
  t4 := Try.underlying4
  a4 := Try.isAgg4
  z4 := Try.sizeOf4
  v4 := Try.zeroValue4
  t22 := Try.underlying22
  a22 := Try.isAgg22
  z22 := Try.sizeOf22
  v22 := Try.zeroValue22
  a23 := Try.isAgg3
  z23 := Try.sizeOf3
  t25 := Try.underlying90
  a25 := Try.isAgg90
  z25 := Try.sizeOf90
  v25 := Try.zeroValue90 }
open Go.RowKit Go.Lib in
theorem Try.slices_ContainsFunc {α : Type} [Inhabited α] (enc : α → Value) (p : α → Bool) (g : Nat) (lb : Array Value) (eg : ∀ args w, (callFunc g args).run Try.prog w = .ok (.enter g args) w) (b off n c : Nat) (zs : List α) (w : World) (hp : PredAt Try.prog g lb enc p w) (hz : n ≤ zs.length) (hbig : n ≤ 9223372036854775807) (hc : ∀ j, j < zs.length → w.cell? ⟨b, off + j, none⟩ = some (enc zs[j]!)) :
    Calls Try.prog 59 #[.slice (some ⟨b, off, none⟩) n c, .func (.func g) #[] lb] w fun e w' => e = .returned (.bool ((zs.take n).any p)) ∧ ∃ q, w' = w.drewN q := AnyE.slices_ContainsFunc Try.laysSlH8_f59 enc p g lb eg b off n c zs w hp hz hbig hc
open Go.RowKit Go.Lib in
theorem Try.slices_ContainsFunc_empty {α : Type} [Inhabited α] (a : Option Addr) (c : Nat) (fv : Value) (w : World) :
    Calls Try.prog 59 #[.slice a 0 c, fv] w fun e w' => e = .returned (.bool false) ∧ w' = w := AnyE.slices_ContainsFunc_empty Try.laysSlH8_f59 a c fv w
def Try.laysSlH10_f57_ren : Go.Shelf.Ren := ⟨fun | 10 => 57 | 6 => 73 | n => n, fun | 22 => 22 | 23 => 3 | 25 => 90 | 3 => 3 | 4 => 4 | 0 => 0 | n => n, fun | n => n⟩
theorem Try.laysSlH10_f57 : Go.Proofs.SlLaysH.n10 Try.prog Try.laysSlH10_f57_ren := {
  mixed := by kernel_rfl
  f6 := ⟨Try.f73.name, by decide, Try.func73.trans (congrArg some (by kernel_rfl))⟩
  f10 := ⟨Try.f57.name, by decide, Try.func57.trans (congrArg some (by kernel_rfl))⟩
  t0 := Try.underlying0
  a0 := Try.isAgg0
  z0 := Try.sizeOf0
  v0 := Try.zeroValue0
  t3 := Try.underlying3
  a3 := Try.isAgg3
  z3 := Try.sizeOf3
  v3 := Try.zeroValue3
  t4 := Try.underlying4
  a4 := Try.isAgg4
  z4 := Try.sizeOf4
  v4 := Try.zeroValue4
  t22 := Try.underlying22
  a22 := Try.isAgg22
  z22 := Try.sizeOf22
  v22 := Try.zeroValue22
  a23 := Try.isAgg3
  z23 := Try.sizeOf3
  t25 := Try.underlying90
  a25 := Try.isAgg90
  z25 := Try.sizeOf90
  v25 := Try.zeroValue90 }
open Go.RowKit Go.Lib Go.Sort in
theorem Try.slices_DeleteFunc {α : Type} [Inhabited α] (enc : α → Value) (hO : OneCell enc) (p : α → Bool) (g : Nat) (lb : Array Value) (eg : ∀ args w, (callFunc g args).run Try.prog w = .ok (.enter g args) w) (zr : α) (v23 : ∀ w, (zeroValue 3).run Try.prog w = .ok (enc zr) w) (blk off cap : Nat) (d : Array α) (w : World) (hp : PredAt Try.prog g lb enc p w) (hpo : PredOver Try.prog g lb enc p blk off d.size w) (hH : Holds enc w blk off d) (hsz : d.size ≤ 9223372036854775807) (hcap : d.size ≤ cap) :
    Calls Try.prog 57 #[.slice (some ⟨blk, off, none⟩) d.size cap, .func (.func g) #[] lb] w fun e w' => e = .returned (.slice (some ⟨blk, off, none⟩) (d.toList.filter fun x => !p x).length cap) ∧ ∃ q, w' = putRow enc (Sort.ahead w q) blk off ((d.toList.filter fun x => !p x) ++ List.replicate (d.size - (d.toList.filter fun x => !p x).length) zr).toArray := AnyE.slices_DeleteFunc Try.laysSlH10_f57 enc hO p g lb eg zr v23 blk off cap d w hp hpo hH hsz hcap
end Go.Proofs

/- Rows of whole numbers of the call's own: cloned, sorted, made compact, thinned. -/
namespace Go.Proofs.Ytbjpjjokamaliaa.A
open Go.RowKit Go.Proofs.YtbjpjjokamaliaaW.PrintWords Go.Sort Go.Lib

/-- A row's world behind a store of a whole row. -/
theorem own_put {W : World} {base g n cap q : Nat} {os : Array Obj} {xs ys : List Int} (h : Kd.R (Kd.int .i64) 3 W base (fun _ => True) (.slice (some ⟨g, 0, none⟩) n cap) xs) (hl : ys.length = xs.length) :
    Kd.R (Kd.int .i64) 3 (grow (putRow (Value.int .i64) (Sort.ahead W q) g 0 ys.toArray) os) base (fun _ => True) (.slice (some ⟨g, 0, none⟩) n cap) ys ∧ W.grownBy (grow (putRow (Value.int .i64) (Sort.ahead W q) g 0 ys.toArray) os) (some g) := by
  have ho := Kd.own_of_R h
  rcases ho.2 with ⟨h0, _⟩ | ⟨g', cap', cur, hv, hg, hb, h1, h2, h3, h4⟩
  · cases h0
  · cases hv
    have := ownsRow_sortedI (os := os) (n := q) (ts := ys) (ss := xs) hl hg hb h1 h2 h3
    refine ⟨Kd.R_of_own (by rw [hl]; exact this) (fun _ _ => trivial), grownBy_sortedI _⟩
theorem own_holds {W : World} {base g n cap : Nat} {xs : List Int} (h : Kd.R (Kd.int .i64) 3 W base (fun _ => True) (.slice (some ⟨g, 0, none⟩) n cap) xs) : Holds (Value.int .i64) W g 0 xs.toArray := by
  rcases (Kd.own_of_R h).2 with ⟨h0, _⟩ | ⟨g', cap', cur, hv, hg, hb, h1, h2, h3, h4⟩
  · cases h0
  · cases hv
    exact holds_of_blockI hb (by simpa [encs] using h4)
theorem own_form {W : World} {base : Nat} {v : Value} {xs : List Int} (h : Kd.R (Kd.int .i64) 3 W base (fun _ => True) v xs) (h0 : 0 < xs.length) : ∃ g cap, v = .slice (some ⟨g, 0, none⟩) xs.length cap ∧ base ≤ g ∧ g < W.heap.size ∧ xs.length ≤ cap := by
  have ho := Kd.own_of_R h
  rcases ho.2 with ⟨_, h1⟩ | ⟨g', cap', cur, hv, hg, hb, h1, h2, h3, h4⟩
  · omega
  · exact ⟨g', cap', hv, hg, blk_lt hb, h1⟩

theorem clone_any {A : Option Addr} {c : Nat} {l : List Int} {w : World} (hr : Kd.C (Kd.int .i64) w A l.length l) (hl : l.length ≤ 1000) :
    Calls Try.prog 54 #[.slice A l.length c] w fun e w' => ∃ v, e = .returned v ∧ Kd.R (Kd.int .i64) 3 w' w.heap.size (fun _ => True) v l ∧ Below w.heap.size w w' := by
  by_cases h0 : l.length = 0
  · have hnil : l = [] := List.length_eq_zero_iff.1 h0
    subst hnil
    cases A with
    | none => exact (Try.slices_Clone_int_nil _ c w).mono fun e w' ⟨h1, h2⟩ => ⟨_, h1, Kd.R_nil _ _ _ _ _, by rw [h2]; exact Below.refl _ _⟩
    | some a => exact (Try.slices_Clone_int_zero a c w).mono fun e w' ⟨v, h1, h2, _, h3⟩ => ⟨v, h1, Kd.R_of_own h2 (fun _ _ => trivial), h3⟩
  · obtain ⟨ad, hA, hcell⟩ : ∃ ad, A = some ad ∧ ∀ i : Nat, i < l.length → w.cell? (ad.add i) = some (.int .i64 (l.getD i 0)) := by
      obtain ⟨ad, e, _⟩ := Kd.at_int hr 0 (by omega) (by omega)
      refine ⟨ad, e, fun i hi => ?_⟩
      obtain ⟨ad', e', hc⟩ := Kd.at_int hr (i : Int) (by omega) (by omega)
      rw [e] at e'
      cases e'
      have e : Go.Proofs.YtbjpjjokamaliaaW.PrintWords.rd l (i : Int) = l.getD i 0 := by simp [Go.Proofs.YtbjpjjokamaliaaW.PrintWords.rd]
      rw [← e]
      exact hc
    subst hA
    have hsp : ad.spot = none := by
      have := hcell 0 (by omega)
      unfold World.cell? at this
      split at this
      · split at this
        · cases this
        · rename_i hs
          cases hsp : ad.spot with
          | none => rfl
          | some s => exact absurd (by show (ad.add 0).spot.isSome = true; simp [Addr.add, hsp]) hs
      · cases this
    obtain ⟨b, o, s⟩ := ad
    simp only at hsp
    subst hsp
    have := Try.slices_Clone_int b o l.length c l w (Nat.le_refl _) (by omega) (fun j hj => by
      have h1 := hcell j hj
      have e : (⟨b, o, none⟩ : Addr).add j = ⟨b, o + j, none⟩ := by
        unfold Addr.add
        split
        · subst_vars; rfl
        · rfl
      rw [e] at h1
      exact h1)
    rw [List.take_length] at this
    exact this.mono fun e w' ⟨v, h1, h2, _, h3⟩ => ⟨v, h1, Kd.R_of_own h2 (fun _ _ => trivial), h3⟩

/-- Sorted. -/
def sortI (l : List Int) : List Int := l.mergeSort fun x y => decide (x ≤ y)
theorem sortI_len (l : List Int) : (sortI l).length = l.length := List.length_mergeSort _
theorem sort_any {v : Value} {base : Nat} {xs : List Int} {w : World} (h : Kd.R (Kd.int .i64) 3 w base (fun _ => True) v xs) (hl : xs.length ≤ 1000) :
    Calls Try.prog 55 #[v] w fun e w' => e = .returned (.tuple #[]) ∧ Kd.R (Kd.int .i64) 3 w' base (fun _ => True) v (sortI xs) ∧ w.grownBy w' v.ownBlock := by
  by_cases h0 : 0 < xs.length
  · obtain ⟨g, cap, rfl, hg, hlt, hc⟩ := own_form h h0
    refine (Try.slices_Sort_int g 0 cap xs w (own_holds h) hlt (by omega)).mono ?_
    rintro e w' ⟨rfl, n, os, rfl⟩
    exact ⟨rfl, own_put h (sortI_len xs)⟩
  · have hnil : xs = [] := List.length_eq_zero_iff.1 (by omega)
    subst hnil
    obtain ⟨A, c, rfl, _, _⟩ := Kd.R_reads h
    refine (Try.slices_Sort_int_none A c w).mono ?_
    rintro e w' ⟨rfl, rfl⟩
    exact ⟨rfl, by simpa [sortI] using h, World.grownBy.refl _ _⟩

theorem compact_len (xs : List Int) : (Lib.compact xs).length ≤ xs.length := by
  unfold Lib.compact Lib.compactUpTo
  rw [List.length_map]
  have := List.length_filter_le (keeps xs.toArray) (List.range xs.length)
  rwa [List.length_range] at this
theorem compact_any {v : Value} {base : Nat} {xs : List Int} {w : World} (h : Kd.R (Kd.int .i64) 3 w base (fun _ => True) v xs) (hl : xs.length ≤ 1000) :
    Calls Try.prog 56 #[v] w fun e w' => ∃ v', e = .returned v' ∧ Kd.R (Kd.int .i64) 3 w' base (fun _ => True) v' (Lib.compact xs) ∧ w.grownBy w' v.ownBlock ∧ v'.ownBlock = v.ownBlock := by
  by_cases h0 : 0 < xs.length
  · obtain ⟨g, cap, rfl, hg, hlt, hc⟩ := own_form h h0
    refine (Try.slices_Compact_int g 0 cap xs w (own_holds h) (by omega) hc).mono ?_
    rintro e w' ⟨rfl, n, rfl⟩
    have hle : (Lib.compact xs).length ≤ xs.length := compact_len xs
    have := own_put (q := n) (os := #[]) (ys := Lib.compact xs ++ List.replicate (xs.length - (Lib.compact xs).length) 0) h (by simp; omega)
    rw [grow_empty] at this
    have h2 := Kd.R_take (m := (Lib.compact xs).length) this.1 (by simp)
    rw [List.take_left] at h2
    exact ⟨_, rfl, h2, this.2, rfl⟩
  · have hnil : xs = [] := List.length_eq_zero_iff.1 (by omega)
    subst hnil
    obtain ⟨A, c, rfl, _, _⟩ := Kd.R_reads h
    refine (Try.slices_Compact_int_empty A c w).mono ?_
    rintro e w' ⟨rfl, rfl⟩
    exact ⟨_, rfl, h, World.grownBy.refl _ _, rfl⟩
end Go.Proofs.Ytbjpjjokamaliaa.A

/- Rows of whole numbers of the call's own: thinned by a predicate that may make memory of its own. -/
namespace Go.Proofs.Ytbjpjjokamaliaa.A
open Go.RowKit Go.Proofs.YtbjpjjokamaliaaW.PrintWords

/-- The first place at which a predicate holds. -/
def IsFirst (p : Int → Bool) (l : List Int) (i : Int) : Prop := (i = -1 ∧ ∀ j, j < l.length → p (l.getD j 0) = false) ∨ ∃ k : Nat, k < l.length ∧ i = k ∧ p (l.getD k 0) = true ∧ ∀ j, j < k → p (l.getD j 0) = false

set_option maxHeartbeats 2000000 in
theorem IndexFirst_int (g : Nat) (lb : Array Value) (p : Int → Bool) (eg : ∀ args w, (callFunc g args).run Try.prog w = .ok (.enter g args) w)
    (A : Option Addr) (n c : Nat) (l : List Int) (w : World) (hr : Kd.C (Kd.int .i64) w A n l) (hp : PredB g lb (fun x => .int .i64 x) p l w) :
    Calls Try.prog 73 #[.slice A n c, .func (.func g) #[] lb] w fun e w' => (∃ i : Int, e = .returned (.int .i64 i) ∧ Aside0 (IsFirst p l i)) ∧ Below w.heap.size w w' := by
  have hlen : l.length = n := hr.1
  have hmax : n ≤ 9223372036854775807 := hr.2.1
  have HR := Aside0.mk hr
  have HP := Aside0.mk hp
  have HL := Aside0.mk hlen
  clear hr hp hlen
  go_enter Try.func73, Try.ntmps73
  go_wp2
  go_loopg [5, 8] n (fun gg _ s8 wr => ∃ kk : Nat, kk ≤ n ∧ n - kk ≤ gg ∧ s8 = .int .i64 kk ∧ Aside0 (Below w.heap.size w wr) ∧ Aside0 (∀ j, j < kk → p (l.getD j 0) = false))
  case atStart => exact ⟨0, Nat.zero_le _, by omega, rfl, ⟨Below.refl _ w⟩, ⟨fun j hj => absurd hj (Nat.not_lt_zero _)⟩⟩
  case round =>
    obtain ⟨kk, hkk, hg, rfl, BW, AF⟩ := hrel
    by_cases hlt : kk < n
    · have hltz : (kk : Int) < (n : Int) := by omega
      obtain ⟨ad, rfl, hcell⟩ := Kd.at_int (Kd.C_below HR.out BW.out) (kk : Int) (by omega) (by omega)
      rw [Int.toNat_natCast] at hcell
      have hcall := HP.out wr (l.getD kk 0) (getD_mem 0 (by rw [HL.out]; exact hlt)) BW.out
      have hrd : rd l (kk : Int) = l.getD kk 0 := by simp [rd]
      rw [hrd] at hcell
      clear hrd
      generalize hy : l.getD kk 0 = y at hcell hcall
      have B := Aside0.mk hy
      clear hy
      cases hq : p y with
      | true =>
        have HQ := Aside0.mk hq
        rw [hq] at hcall
        clear hq
        go_wp2_with (go_at_fn g; refine hcall.mono ?_; rintro e w' ⟨rfl, hb'⟩)
        go_ret
        exact ⟨⟨kk, rfl, ⟨.inr ⟨kk, by rw [HL.out]; exact hlt, rfl, by rw [B.out]; exact HQ.out, AF.out⟩⟩⟩, hb'⟩
      | false =>
        have HQ := Aside0.mk hq
        rw [hq] at hcall
        clear hq
        go_wp2_with (go_at_fn g; refine hcall.mono ?_; rintro e w' ⟨rfl, hb'⟩)
        go_roundg (n - (kk + 1))
        case measure => omega
        case rel =>
          refine ⟨kk + 1, by omega, by omega, by go_num, ⟨hb'⟩, ⟨fun j hj => ?_⟩⟩
          by_cases e : j = kk
          · subst e
            rw [B.out]; exact HQ.out
          · exact AF.out j (by omega)
    · have hltz : ¬ (kk : Int) < (n : Int) := by omega
      have HK := Aside0.mk (show kk = n by omega)
      clear hlt
      go_wp2
      go_ret
      exact ⟨⟨-1, rfl, ⟨.inl ⟨rfl, fun j hj => AF.out j (by rw [HK.out, ← HL.out]; exact hj)⟩⟩⟩, BW.out⟩

/-- A predicate that reads nothing of block bk, and only makes memory. -/
def PredK (bk g : Nat) (lb : Array Value) (p : Int → Bool) (l : List Int) (w : World) : Prop :=
  ∀ (W : World) (x : Int), x ∈ l → Keep bk w W → Calls Try.prog g (#[.int .i64 x] ++ lb) W fun e w' => e = .returned (.bool (p x)) ∧ Below W.heap.size W w'
theorem PredK.below {bk g : Nat} {lb : Array Value} {p : Int → Bool} {l : List Int} {w : World} (h : PredK bk g lb p l w) : PredB g lb (fun x => .int .i64 x) p l w :=
  fun W x hx hb => (h W x hx (Keep.of_below hb)).mono fun _ _ ⟨h1, h2⟩ => ⟨h1, below_then hb hb.size h2⟩

/-- What is held while a row is thinned. -/
structure DelS (xs : List Int) (p : Int → Bool) (g cap base : Nat) (w wr : World) (i j : Nat) (ys : List Int) : Prop where
  row : Kd.R (Kd.int .i64) 3 wr base (fun _ => True) (.slice (some ⟨g, 0, none⟩) xs.length cap) ys
  len : ys.length = xs.length
  head : ys.take i = (xs.take j).filter fun x => !p x
  tail : ∀ t, j ≤ t → t < xs.length → ys.getD t 0 = xs.getD t 0
  lt : i < j
  le : j ≤ xs.length
  keep : Keep g w wr
theorem filter_take_succ (xs : List Int) (f : Int → Bool) (j : Nat) (h : j < xs.length) : (xs.take (j + 1)).filter f = (xs.take j).filter f ++ (if f (xs.getD j 0) = true then [xs.getD j 0] else []) := by
  rw [List.take_succ_eq_append_getElem h, List.filter_append, List.getD_eq_getElem?_getD, List.getElem?_eq_getElem h]
  simp [List.filter_cons]
theorem DelS.start {xs : List Int} {p : Int → Bool} {g cap base : Nat} {w wr : World} {k : Nat} (hr : Kd.R (Kd.int .i64) 3 wr base (fun _ => True) (.slice (some ⟨g, 0, none⟩) xs.length cap) xs) (hk : k < xs.length) (hp : p (xs.getD k 0) = true) (ha : ∀ j, j < k → p (xs.getD j 0) = false) (hw : Keep g w wr) : DelS xs p g cap base w wr k (k + 1) xs := by
  refine ⟨hr, rfl, ?_, fun _ _ _ => rfl, by omega, hk, hw⟩
  rw [filter_take_succ xs _ k hk, if_neg (by rw [hp]; simp), List.append_nil]
  symm
  rw [List.filter_eq_self]
  intro x hx
  obtain ⟨i, hi, rfl⟩ := List.getElem_of_mem hx
  have hi2 : i < k := by rw [List.length_take] at hi; omega
  have := ha i hi2
  rw [List.getElem_take]
  rw [List.getD_eq_getElem?_getD, List.getElem?_eq_getElem (by omega)] at this
  simpa using this
theorem DelS.next {xs : List Int} {p : Int → Bool} {g cap base : Nat} {w wr w2 : World} {i j : Nat} {ys : List Int} (h : DelS xs p g cap base w wr i j ys) (hb : Below wr.heap.size wr w2) : DelS xs p g cap base w w2 i j ys :=
  ⟨Kd.R_below h.row hb, h.len, h.head, h.tail, h.lt, h.le, h.keep.trans (Keep.of_below hb)⟩
theorem DelS.skip {xs : List Int} {p : Int → Bool} {g cap base : Nat} {w wr : World} {i j : Nat} {ys : List Int} (h : DelS xs p g cap base w wr i j ys) (hj : j < xs.length) (hp : p (xs.getD j 0) = true) : DelS xs p g cap base w wr i (j + 1) ys :=
  ⟨h.row, h.len, by rw [h.head, filter_take_succ xs _ j hj, if_neg (by rw [hp]; simp), List.append_nil], fun t ht hl => h.tail t (by omega) hl, by have := h.lt; omega, hj, h.keep⟩
theorem DelS.put {xs : List Int} {p : Int → Bool} {g cap base : Nat} {w wr : World} {i j : Nat} {ys : List Int} (h : DelS xs p g cap base w wr i j ys) (hj : j < xs.length) (hp : p (xs.getD j 0) = false) : DelS xs p g cap base w (wr.setCell ⟨g, i, none⟩ (.int .i64 (xs.getD j 0))) (i + 1) (j + 1) (ys.set i (xs.getD j 0)) := by
  have hlt := h.lt
  have hr := Kd.R_putg (enc := fun x => .int .i64 x) h.row (i : Int) (xs.getD j 0)
  rw [Int.toNat_natCast] at hr
  refine ⟨hr.1, by rw [List.length_set]; exact h.len, ?_, fun t ht hl => ?_, by omega, hj, ?_⟩
  · have hil : i < ys.length := by rw [h.len]; omega
    rw [filter_take_succ xs _ j hj, if_pos (by rw [hp]; rfl), ← h.head, List.take_succ_eq_append_getElem (by rw [List.length_set]; exact hil), List.getElem_set_self, List.take_set_of_le (Nat.le_refl _)]
  · rw [List.getD_eq_getElem?_getD, List.getElem?_set_ne (by omega), ← List.getD_eq_getElem?_getD]
    exact h.tail t (by omega) hl
  · have hg := hr.2
    exact h.keep.trans ⟨hg.os, hg.tape, hg.output, hg.size, fun k hk hne => hg.block k hk (fun e => hne (by cases e; rfl))⟩
theorem DelS.done {xs : List Int} {p : Int → Bool} {g cap base : Nat} {w wr : World} {i : Nat} {ys : List Int} (h : DelS xs p g cap base w wr i xs.length ys) (vs : List Value) (hv : vs.length = xs.length - i) :
    Kd.R (Kd.int .i64) 3 (wr.setCells g i vs) base (fun _ => True) (.slice (some ⟨g, 0, none⟩) i cap) (xs.filter fun x => !p x) ∧ Keep g w (wr.setCells g i vs) ∧ i = (xs.filter fun x => !p x).length := by
  have hlt := h.lt
  have hh := h.head
  rw [List.take_length] at hh
  have hi : i = (xs.filter fun x => !p x).length := by
    rw [← hh, List.length_take, h.len]; omega
  refine ⟨?_, ?_, hi⟩
  · rw [← hh]
    rcases (Kd.own_of_R h.row).2 with ⟨h0, _⟩ | ⟨g', cap', cur, hv', hg, hb, h1, h2, h3, h4⟩
    · cases h0
    · simp only [Value.slice.injEq, Option.some.injEq, Addr.mk.injEq] at hv'
      obtain ⟨⟨rfl, _⟩, _, rfl⟩ := hv'
      rw [h.len] at h1 h4
      obtain ⟨cur', c1, c2, c3⟩ := setCells_row vs i wr cur hb (by rw [h3, hv]; omega)
      have hlen : (ys.take i).length = i := by rw [List.length_take, h.len]; omega
      refine Kd.R_of_own ⟨by simp [encs], .inr ⟨g, cap, cur', by rw [hlen], hg, c1, by rw [hlen]; omega, h2, by rw [c2, h3], ?_⟩⟩ (fun _ _ => trivial)
      rw [hlen, Nat.mul_one, c3, List.append_assoc, List.take_append_of_le_length (by rw [List.length_take, Array.length_toList, h3]; omega), List.take_take, Nat.min_self]
      have : (cur.toList.take (xs.length * 1)).take i = (encs (Value.int .i64) ys).take i := by rw [h4]
      rw [Nat.mul_one, List.take_take, Nat.min_eq_left (by omega)] at this
      rw [this]
      simp [encs]
  · obtain ⟨s1, s2, s3, s4⟩ := setCells_same g vs i wr
    exact h.keep.trans ⟨s1, s2, s3, by rw [s4]; exact Nat.le_refl _, fun k _ hk => setCells_far vs i k hk⟩

theorem first_cases (f : Nat → Bool) : ∀ n, (∀ j, j < n → f j = false) ∨ ∃ k, k < n ∧ f k = true ∧ ∀ j, j < k → f j = false
  | 0 => .inl fun j hj => absurd hj (Nat.not_lt_zero _)
  | n + 1 => by
    rcases first_cases f n with h | ⟨k, h1, h2, h3⟩
    · cases hf : f n with
      | false =>
        refine .inl fun j hj => ?_
        by_cases e : j = n
        · rw [e]; exact hf
        · exact h j (by omega)
      | true => exact .inr ⟨n, by omega, hf, h⟩
    · exact .inr ⟨k, by omega, h2, h3⟩
theorem zero3 : ∀ w, (zeroValue 3).run Try.prog w = .ok (.int .i64 0) w := fun w => by kernel_rfl

set_option maxRecDepth 100000 in
set_option maxHeartbeats 4000000 in
theorem DeleteFunc_int (bk cap : Nat) (g : Nat) (lb : Array Value) (p : Int → Bool) (eg : ∀ args w, (callFunc g args).run Try.prog w = .ok (.enter g args) w) (xs : List Int) (base : Nat) (w : World)
    (hr : Kd.R (Kd.int .i64) 3 w base (fun _ => True) (.slice (some ⟨bk, 0, none⟩) xs.length cap) xs) (hl : xs.length ≤ 1000) (hp : PredK bk g lb p xs w) :
    Calls Try.prog 57 #[.slice (some ⟨bk, 0, none⟩) xs.length cap, .func (.func g) #[] lb] w fun e w' => e = .returned (.slice (some ⟨bk, 0, none⟩) (xs.filter fun x => !p x).length cap) ∧ Kd.R (Kd.int .i64) 3 w' base (fun _ => True) (.slice (some ⟨bk, 0, none⟩) (xs.filter fun x => !p x).length cap) (xs.filter fun x => !p x) ∧ Keep bk w w' := by
  have HR := Aside0.mk hr
  have HP := Aside0.mk hp
  have hcap : xs.length ≤ cap := (Kd.R_reads' hr).2.1
  have HC := Aside0.mk (Kd.R_reads' hr).2.2
  have HI := Aside0.mk (IndexFirst_int g lb p eg _ xs.length cap xs w (Kd.R_reads' hr).2.2 hp.below)
  obtain ⟨n, hn⟩ : ∃ n, xs.length = n := ⟨_, rfl⟩
  have HN := Aside0.mk hn
  obtain ⟨F, hF⟩ : ∃ F, (xs.filter fun x => !p x).length = F := ⟨_, rfl⟩
  have HF := Aside0.mk hF
  rw [hF]
  rw [hn] at HI hl hcap ⊢
  clear hr hp hn hF
  have hcl : ∀ (W : World) (i j : Nat) (ys : List Int), i < j → j ≤ n → DelS xs p bk cap base w W i j ys → ∀ ty, (Builtin.clear_ #[22] ty #[.slice (some ⟨bk, i, none⟩) (n - i) (cap - i)]).run Try.prog W = .ok (.tuple #[]) (W.setCells bk i (List.replicate (n - i) (.int .i64 0))) := by
    intro W i j ys hij hjn hS ty
    have hlen := hS.len
    rw [HN.out] at hlen
    have hc : ∀ t : Nat, t < n → W.cell? ⟨bk, t, none⟩ = some (.int .i64 (ys.getD t 0)) ∧ W.frozen? ⟨bk, t, none⟩ = false := by
      intro t ht
      have := Kd.R_celln (enc := fun x => .int .i64 x) 0 hS.row (t : Int) (by omega) (by rw [HN.out]; omega)
      simpa [rdOf] using this
    exact Lib.run_clear_slice W 22 3 ty _ Try.underlying22 zero3 rfl rfl bk i _ _ (by omega) (fun t ht => by rw [(hc (i + t) (by omega)).1]; rfl) (fun t ht => (hc (i + t) (by omega)).2)
  have HCL := Aside0.mk hcl
  clear hcl
  rcases first_cases (fun j => p (xs.getD j 0)) n with hall | ⟨k, hk, hpk, hbef⟩
  · have HI2 : Aside0 (Calls Try.prog 73 #[.slice (some ⟨bk, 0, none⟩) n cap, .func (.func g) #[] lb] w fun e w' => e = .returned (.int .i64 (-1)) ∧ Below w.heap.size w w') := by
      refine ⟨HI.out.mono ?_⟩
      rintro e w' ⟨⟨i, rfl, ⟨hi⟩⟩, hb⟩
      rcases hi with ⟨rfl, _⟩ | ⟨k, hk, _, hpk, _⟩
      · exact ⟨rfl, hb⟩
      · have := hall k (by rw [← HN.out]; exact hk)
        rw [hpk] at this; cases this
    have HE : Aside0 ((xs.filter fun x => !p x) = xs) := by
      refine ⟨List.filter_eq_self.2 fun x hx => ?_⟩
      obtain ⟨j, hj, rfl⟩ := List.getElem_of_mem hx
      have := hall j (by rw [← HN.out]; exact hj)
      simp only [List.getD_eq_getElem?_getD, List.getElem?_eq_getElem hj] at this
      simpa using this
    clear HI hall
    go_enter Try.func57, Try.ntmps57
    go_wp2_with (go_at_call 73; refine HI2.out.mono ?_; rintro e w1 ⟨rfl, hb1⟩; have HB1 := Aside0.mk hb1; clear hb1)
    go_ret
    have hFn : F = n := by rw [← HF.out, HE.out, HN.out]
    subst hFn
    rw [HE.out]
    have := HR.out
    rw [HN.out] at this
    exact ⟨rfl, Kd.R_below this HB1.out, Keep.of_below HB1.out⟩
  · have HI2 : Aside0 (Calls Try.prog 73 #[.slice (some ⟨bk, 0, none⟩) n cap, .func (.func g) #[] lb] w fun e w' => e = .returned (.int .i64 k) ∧ Below w.heap.size w w') := by
      refine ⟨HI.out.mono ?_⟩
      rintro e w' ⟨⟨i, rfl, ⟨hi⟩⟩, hb⟩
      rcases hi with ⟨rfl, ha⟩ | ⟨k', hk', rfl, hpk', hb'⟩
      · have := ha k (by rw [HN.out]; exact hk)
        rw [this] at hpk; cases hpk
      · have e : k' = k := by
          rcases Nat.lt_trichotomy k' k with h | h | h
          · have := hbef k' h; rw [this] at hpk'; cases hpk'
          · exact h
          · have := hb' k h; rw [this] at hpk; cases hpk
        subst e
        exact ⟨rfl, hb⟩
    have HPK := Aside0.mk hpk
    have HBF := Aside0.mk hbef
    have hkn : ((k : Int) == -1) = false := by rw [beq_eq_false_iff_ne]; omega
    clear HI hpk hbef
    go_enter Try.func57, Try.ntmps57
    go_wp2_with (go_at_call 73; refine HI2.out.mono ?_; rintro e w1 ⟨rfl, hb1⟩; have HB1 := Aside0.mk hb1; clear hb1)
    have HS : Aside0 (DelS xs p bk cap base w w1 k (k + 1) xs) := ⟨DelS.start (Kd.R_below HR.out HB1.out) (by rw [HN.out]; exact hk) HPK.out HBF.out (Keep.of_below HB1.out)⟩
    clear hkn
    go_loopg [5, 6, 7] n (fun gg v5 v6 _ wr => ∃ (i j : Nat) (ys : List Int), v5 = .int .i64 i ∧ v6 = .int .i64 j ∧ j ≤ n ∧ n - j ≤ gg ∧ Aside0 (DelS xs p bk cap base w wr i j ys))
    case atStart => exact ⟨k, k + 1, xs, rfl, by go_num, by omega, by omega, HS⟩
    case round =>
      clear HS HB1
      obtain ⟨i, j, ys, rfl, rfl, hj, hgg, HS⟩ := hrel
      have hij := HS.out.lt
      by_cases hlt : j < n
      · have hltz : (j : Int) < (n : Int) := by omega
        have cj := Kd.R_celln (enc := fun x => .int .i64 x) 0 HS.out.row (j : Int) (by omega) (by rw [HN.out]; omega)
        have ci := Kd.R_celln (enc := fun x => .int .i64 x) 0 HS.out.row (i : Int) (by omega) (by rw [HN.out]; omega)
        rw [Int.toNat_natCast] at cj ci
        obtain ⟨cj, _⟩ := cj
        obtain ⟨ci, fi⟩ := ci
        have e1 : rdOf 0 ys (j : Int) = xs.getD j 0 := by
          have : rdOf 0 ys (j : Int) = ys.getD j 0 := by simp [rdOf]
          rw [this]
          exact HS.out.tail j (Nat.le_refl _) (by rw [HN.out]; exact hlt)
        rw [e1] at cj
        clear e1
        generalize rdOf 0 ys (i : Int) = old at ci
        have hcall := HP.out wr (xs.getD j 0) (getD_mem 0 (by rw [HN.out]; exact hlt)) HS.out.keep
        obtain ⟨u, hu⟩ : ∃ u, xs.getD j 0 = u := ⟨_, rfl⟩
        have HU := Aside0.mk hu
        rw [hu] at cj hcall
        have hiz : (i : Int) < (n : Int) := by omega
        clear hu
        cases hq : p u with
        | false =>
          have HQ : Aside0 (p (xs.getD j 0) = false) := ⟨by rw [HU.out]; exact hq⟩
          rw [hq] at hcall
          clear hq
          go_wp2_with (go_at_fn g; refine hcall.mono ?_; rintro e w2 ⟨rfl, hb2⟩; have HS2 := Aside0.mk (HS.out.next hb2); obtain ⟨bc, bf⟩ := bcell hb2; have ci2 := pw_cell_below hb2 ci; have fi2 : w2.frozen? ⟨bk, i, none⟩ = false := (bf bk i (World.block_lt_of_cell? wr _ ci)).trans fi; clear hb2 bc bf hcall cj ci fi)
          go_roundg (n - (j + 1))
          case measure => omega
          case rel =>
            refine ⟨i + 1, j + 1, ys.set i u, by go_num, by go_num, by omega, Nat.le_refl _, ⟨?_⟩⟩
            have := HS2.out.put (by rw [HN.out]; exact hlt) HQ.out
            rw [HU.out] at this
            exact this
        | true =>
          have HQ : Aside0 (p (xs.getD j 0) = true) := ⟨by rw [HU.out]; exact hq⟩
          rw [hq] at hcall
          clear hq
          go_wp2_with (go_at_fn g; refine hcall.mono ?_; rintro e w2 ⟨rfl, hb2⟩; have HS2 := Aside0.mk (HS.out.next hb2); clear hb2 hcall cj ci fi)
          go_roundg (n - (j + 1))
          case measure => omega
          case rel => exact ⟨i, j + 1, ys, rfl, by go_num, by omega, Nat.le_refl _, ⟨HS2.out.skip (by rw [HN.out]; exact hlt) HQ.out⟩⟩
      · have hltz : ¬ (j : Int) < (n : Int) := by omega
        have hcl := HCL.out wr i j ys hij hj HS.out
        have hjn : j = n := by omega
        have HJ := Aside0.mk hjn
        clear hjn hlt
        have hin : (i : Int) ≤ n := by omega
        go_wp2_with fail
        go_ret
        have hd := HS.out
        rw [HJ.out] at hd
        have hd2 : DelS xs p bk cap base w wr i xs.length ys := by rw [HN.out]; exact hd
        obtain ⟨d1, d2, d3⟩ := hd2.done (List.replicate (n - i) (.int .i64 0)) (by rw [List.length_replicate, HN.out])
        rw [HF.out] at d3
        subst d3
        exact ⟨rfl, d1, d2⟩

set_option maxRecDepth 100000 in
theorem DeleteFunc_empty (A : Option Addr) (c : Nat) (fv : Value) (w : World) : Calls Try.prog 57 #[.slice A 0 c, fv] w fun e w' => e = .returned (.slice A 0 c) ∧ w = w' := by
  go_enter Try.func57, Try.ntmps57
  go_wp2_with (go_at_call 73; refine (Try.slices_IndexFunc_empty (α := Int) A c fv w).mono ?_; rintro e w1 ⟨rfl, rfl⟩)
  go_ret
  exact ⟨rfl, rfl⟩
theorem delete_any {v : Value} {base : Nat} {xs : List Int} {w : World} (g : Nat) (lb : Array Value) (p : Int → Bool) (eg : ∀ args w, (callFunc g args).run Try.prog w = .ok (.enter g args) w)
    (h : Kd.R (Kd.int .i64) 3 w base (fun _ => True) v xs) (hl : xs.length ≤ 1000) (hb : base ≤ w.heap.size) (hp : ∀ bk, v.ownBlock = some bk → PredK bk g lb p xs w) :
    Calls Try.prog 57 #[v, .func (.func g) #[] lb] w fun e w' => ∃ v', e = .returned v' ∧ Kd.R (Kd.int .i64) 3 w' base (fun _ => True) v' (xs.filter fun x => !p x) ∧ Below base w w' := by
  by_cases h0 : 0 < xs.length
  · obtain ⟨bk, cap, rfl, hg, hlt, hc⟩ := own_form h h0
    refine (DeleteFunc_int bk cap g lb p eg xs base w h hl (hp bk rfl)).mono ?_
    rintro e w' ⟨rfl, h1, h2⟩
    exact ⟨_, rfl, h1, h2.below hg hb⟩
  · have hnil : xs = [] := List.length_eq_zero_iff.1 (by omega)
    subst hnil
    obtain ⟨A, c, rfl, _, _⟩ := Kd.R_reads h
    refine (DeleteFunc_empty A c _ w).mono ?_
    rintro e w' ⟨rfl, rfl⟩
    exact ⟨_, rfl, h, Below.refl _ _⟩
end Go.Proofs.Ytbjpjjokamaliaa.A

/- Least, as it is called. -/
namespace Go.Proofs.Ytbjpjjokamaliaa.A
open Go.RowKit Go.Proofs.YtbjpjjokamaliaaW.PrintWords

/-- Is y another line, all of whose spots x has? -/
def inside (x y : Int) : Bool := (y != x) && decide (less y.toNat x.toNat = 0)
/-- Is there another line that x contains? -/
def holdsOther (l : List Int) (x : Int) : Bool := l.any (inside x)
def leastL (l : List Int) : List Int := (Lib.compact (sortI l)).filter fun x => !holdsOther l x

theorem enters58 : ∀ args w, (callFunc 58 args).run Try.prog w = .ok (.enter 58 args) w := enters_of Try.func58 (by kernel_rfl) rfl
theorem enters60 : ∀ args w, (callFunc 60 args).run Try.prog w = .ok (.enter 60 args) w := enters_of Try.func60 (by kernel_rfl) rfl

theorem andNotZ {m : Nat} (h9 : m ≤ 9) {x y : Int} (hx : 1 ≤ x ∧ x < 2 ^ m) (hy : 1 ≤ y ∧ y < 2 ^ m) : (bits .andNot .i64 y x == 0) = decide (less y.toNat x.toNat = 0) := by
  obtain ⟨a, rfl⟩ := Int.eq_ofNat_of_zero_le (show 0 ≤ x by omega)
  obtain ⟨b, rfl⟩ := Int.eq_ofNat_of_zero_le (show 0 ≤ y by omega)
  have e : ((2 ^ m : Nat) : Int) = (2 : Int) ^ m := by simp
  have ha : a < 2 ^ m := by have := hx.2; omega
  have hb : b < 2 ^ m := by have := hy.2; omega
  rw [andNot64 b a (lt62 hb (by omega)) (lt62 ha (by omega)), Bool.eq_iff_iff]
  simp

set_option maxHeartbeats 800000 in
theorem least2_pred {m : Nat} (h9 : m ≤ 9) {l : List Int} (hl : okL m l) {x : Int} (hx : 1 ≤ x ∧ x < 2 ^ m) (g : Nat) (w : World) (hc : w.cell? ⟨g, 0, none⟩ = some (.int .i64 x)) :
    PredB 60 #[.pointer (some ⟨g, 0, none⟩)] (fun y => .int .i64 y) (inside x) l w := by
  intro W y hy hb
  have hcW := pw_cell_below hb hc
  have HB := Aside0.mk hb
  have e := andNotZ h9 hx (hl y hy)
  obtain ⟨r, hr⟩ : ∃ r, inside x y = r := ⟨_, rfl⟩
  have HR := Aside0.mk hr
  rw [hr]
  clear hb hc hy hx hr
  show Calls Try.prog 60 #[.int .i64 y, .pointer (some ⟨g, 0, none⟩)] W fun e w' => e = .returned (.bool r) ∧ Below w.heap.size w w'
  unfold inside at HR
  by_cases h : y = x
  · have b0 : (y != x) = false := bne_eq_false_iff_eq.mpr h
    have HV : Aside0 (r = false) := ⟨by rw [← HR.out, b0]; rfl⟩
    clear e h
    go_enter Try.func60, Try.ntmps60
    go_wp2
    go_ret
    exact ⟨by rw [HV.out]; rfl, HB.out⟩
  · have b0 : (y != x) = true := bne_iff_ne.mpr h
    have HV : Aside0 (r = (bits .andNot .i64 y x == 0)) := ⟨by rw [← HR.out, b0, e]; rfl⟩
    clear e h
    go_enter Try.func60, Try.ntmps60
    go_wp2
    go_ret
    exact ⟨by rw [HV.out]; rfl, HB.out⟩

/-- What the inner test reads, and where it lies. -/
def p58 (l : List Int) (x : Int) : Bool := holdsOther l x
set_option maxRecDepth 100000 in
set_option maxHeartbeats 800000 in
theorem least1_pred {m : Nat} (h9 : m ≤ 9) {l : List Int} (hl : okL m l) {A : Option Addr} {c : Nat} (xs : List Int) (hxs : okL m xs) (bk g : Nat) (w : World) (hg : g ≠ bk) (hc : w.cell? ⟨g, 0, none⟩ = some (.slice A l.length c)) (hr : ∀ W, Keep bk w W → Kd.C (Kd.int .i64) W A l.length l) :
    PredK bk 58 #[.pointer (some ⟨g, 0, none⟩)] (p58 l) xs w := by
  intro W x hx hk
  have hcW := keep_cell hk (a := ⟨g, 0, none⟩) hg hc
  have HR := Aside0.mk (hr W hk)
  have HX := Aside0.mk (hxs x hx)
  have HL := Aside0.mk hl
  obtain ⟨r, hr2⟩ : ∃ r, p58 l x = r := ⟨_, rfl⟩
  have HRR := Aside0.mk hr2
  have e60 := enters60
  rw [hr2]
  clear hc hk hr hx hxs hl hr2
  show Calls Try.prog 58 #[.int .i64 x, .pointer (some ⟨g, 0, none⟩)] W fun e w' => e = .returned (.bool r) ∧ Below W.heap.size W w'
  have hc2 : (W.alloc (.cells #[.int .i64 x] 3)).cell? ⟨g, 0, none⟩ = some (.slice A l.length c) := pw_cell_below (below_alloc (Below.refl _ _) _) hcW
  go_enter Try.func58, Try.ntmps58
  go_wp2_with (go_at_call 59; refine (ContainsFunc_int 60 #[.pointer (some ⟨W.heap.size, 0, none⟩)] (inside x) enters60 A l.length c l _ (Kd.C_alloc HR.out _) (least2_pred h9 HL.out HX.out _ _ (by simp))).mono ?_; rintro e w2 ⟨rfl, hb2⟩; have HB2 := Aside0.mk (below_then (below_alloc (Below.refl W.heap.size W) _) (below_alloc (Below.refl _ _) _).size hb2); clear hb2)
  go_ret
  exact ⟨by rw [← HRR.out]; rfl, HB2.out⟩

theorem cell_grown {W W1 : World} {row : Option Nat} (hg : W.grownBy W1 row) {a : Addr} {v : Value} (hc : W.cell? a = some v) (hne : some a.block ≠ row) : W1.cell? a = some v :=
  (World.cell?_of_block (w := W) (hg.block a.block (World.block_lt_of_cell? W a hc) hne)).trans hc
theorem mem_compact {x : Int} {l : List Int} (h : x ∈ Lib.compact l) : x ∈ l := by
  unfold Lib.compact Lib.compactUpTo at h
  obtain ⟨i, hi, rfl⟩ := List.mem_map.1 h
  have hi2 := List.mem_range.1 (List.mem_filter.1 hi).1
  rw [getElem!_pos l.toArray i (by simpa using hi2)]
  simp
theorem mem_sortI {x : Int} {l : List Int} : x ∈ sortI l ↔ x ∈ l := by
  unfold sortI
  exact (List.mergeSort_perm l _).mem_iff

set_option maxRecDepth 100000 in
set_option maxHeartbeats 800000 in
theorem Least_err (m : Int) (A : Option Addr) (c : Nat) (l : List Int) (w : World) (hr : Kd.C (Kd.int .i64) w A l.length l) (he : okF m l ≠ 0) :
    Calls Try.prog 33 #[.int .i64 m, .slice A l.length c] w fun e w' => (∃ v0_ : Value, e = .returned (.tuple #[v0_, .int .i64 (okF m l)]) ∧ Kd.R (Kd.int .i64) 3 w' w.heap.size (fun _ => True) v0_ []) ∧ Below w.heap.size w w' := by
  have HR := Aside0.mk hr
  have HE := Aside0.mk he
  obtain ⟨E, hE⟩ : ∃ E, okF m l = E := ⟨_, rfl⟩
  rw [hE] at he ⊢
  have HV := Aside0.mk hE
  have hg : (E != 0) = true := by rw [bne_iff_ne]; exact he
  clear hr hE he
  go_enter Try.func33, Try.ntmps33
  go_wp2_with (go_at_call 41; refine (read_bad m A c l _ _ (Kd.C_alloc HR.out _) rfl HE.out).mono ?_; rw [HV.out]; rintro e w' ⟨rfl, hb'⟩; have HB := Aside0.mk (below_then (below_alloc (Below.refl w.heap.size w) _) (below_alloc (Below.refl _ _) _).size hb'); clear hb')
  go_ret2
  exact ⟨⟨_, rfl, Kd.R_nil _ _ _ _ _⟩, below_alloc HB.out _⟩

set_option maxRecDepth 100000 in
set_option maxHeartbeats 1600000 in
theorem Least_good (m : Nat) (A : Option Addr) (c : Nat) (l : List Int) (w : World) (hr : Kd.C (Kd.int .i64) w A l.length l) (he : okF m l = 0) :
    Calls Try.prog 33 #[.int .i64 m, .slice A l.length c] w fun e w' => (∃ v0_ : Value, e = .returned (.tuple #[v0_, .int .i64 0]) ∧ Kd.R (Kd.int .i64) 3 w' w.heap.size (fun _ => True) v0_ (leastL l)) ∧ Below w.heap.size w w' := by
  have HR := Aside0.mk hr
  have HE := Aside0.mk he
  have h9 : m ≤ 9 := by have := okF_m he; omega
  have h12 : l.length ≤ 1000 := by have := okF_len he; omega
  clear hr he
  go_enter Try.func33, Try.ntmps33
  go_wp2_with (first
    | (go_at_call 41; refine (read_ok m A c l _ (Kd.C_alloc HR.out _) HE.out).mono ?_; rintro e w1 ⟨rfl, hb1⟩; have HB1 := Aside0.mk (below_then (below_alloc (Below.refl w.heap.size w) _) (below_alloc (Below.refl _ _) _).size hb1); have HG := Aside0.mk (pw_cell_below hb1 (show (w.alloc (.cells #[.slice A l.length c] 22)).cell? ⟨w.heap.size, 0, none⟩ = some (.slice A l.length c) by simp)); have HS1 := Aside0.mk (show w.heap.size + 1 ≤ w1.heap.size by have := hb1.size; simp at this; omega); clear hb1)
    | (go_at_call 54; refine (clone_any (Kd.C_below HR.out (below_alloc HB1.out _)) h12).mono ?_; rintro e w2 ⟨v2, rfl, hr2, hb2⟩; have HR2 := Aside0.mk (Kd.R_lower hr2 (base' := w.heap.size + 1) (by have := HS1.out; simp; omega)); have HG2 := Aside0.mk (pw_cell_below hb2 (pw_cell_below (below_alloc (Below.refl _ _) _) HG.out)); have HB2 := Aside0.mk (below_then (below_alloc HB1.out _) (below_alloc HB1.out _).size hb2); clear hr2 hb2)
    | (go_at_call 55; refine (sort_any HR2.out h12).mono ?_; rintro e w3 ⟨rfl, hr3, hg3⟩; have HR3 := Aside0.mk hr3; have HG3 := Aside0.mk (cell_grown hg3 HG2.out (fun e => Nat.lt_irrefl w.heap.size (Kd.R_base HR2.out _ e.symm))); have HB3 := Aside0.mk (HB2.out.grown hg3 HB2.out.size (fun k hk => by have := Kd.R_base HR2.out k hk; omega)); clear hr3 hg3)
    | (go_at_call 56; refine (compact_any HR3.out (by rw [sortI_len]; exact h12)).mono ?_; rintro e w4 ⟨v4, rfl, hr4, hg4, hv4⟩; have HR4 := Aside0.mk hr4; have HG4 := Aside0.mk (cell_grown hg4 HG3.out (fun e => Nat.lt_irrefl w.heap.size (Kd.R_base HR3.out _ e.symm))); have HB4 := Aside0.mk (HB3.out.grown hg4 HB3.out.size (fun k hk => by have := Kd.R_base HR3.out k hk; omega)); clear hr4 hg4)
    | (go_at_call 57; refine (delete_any 58 _ (p58 l) enters58 HR4.out (by have := compact_len (sortI l); rw [sortI_len] at this; omega) (World.block_lt_of_cell? _ _ HG4.out) (fun bk hbk => least1_pred h9 (okF_L HE.out) _ (fun x hx => okF_L HE.out x (mem_sortI.1 (mem_compact hx))) bk w.heap.size _ (fun e => by have h := Kd.R_base HR4.out _ hbk; rw [← e] at h; exact Nat.lt_irrefl _ h) HG4.out (fun W hW => keep_off HB4.out (by have := Kd.R_base HR4.out _ hbk; omega) HR.out hW))).mono ?_; rintro e w5 ⟨v5, rfl, hr5, hb5⟩; have HR5 := Aside0.mk hr5; have HB5 := Aside0.mk (HB4.out.trans (hb5.mono (by omega))); clear hr5 hb5))
  go_ret2
  exact ⟨⟨_, rfl, Kd.R_lower HR5.out (by omega)⟩, HB5.out⟩

def ambush_Least.f (a0 : Int) (l1 : List Int) : Option (List Int × Int) :=
  some (if okF a0 l1 = 0 then (leastL l1, 0) else ([], okF a0 l1))
theorem ambush_Least.calls (a0 : Int) (A1 : Option Addr) (c1 : Nat) (l1 : List Int) (r1 : List Int) (r2 : Int) (w : World) (hr1 : Kd.C (Kd.int .i64) w A1 l1.length l1) (_hc1 : l1.length ≤ c1) (h : ambush_Least.f a0 l1 = some (r1, r2)) :
    Calls Try.prog 33 #[.int .i64 a0, .slice A1 l1.length c1] w fun e w' => ∃ v0_ : Value, e = .returned (.tuple #[v0_, .int .i64 r2]) ∧ Kd.R (Kd.int .i64) 3 w' w.heap.size (fun _ => True) v0_ r1 ∧ Below w.heap.size w w' := by
  unfold ambush_Least.f at h
  by_cases h0 : okF a0 l1 = 0
  · rw [if_pos h0] at h
    have h1 := (okF_m h0).1
    obtain ⟨m, rfl⟩ : ∃ m : Nat, a0 = m := ⟨a0.toNat, by omega⟩
    cases h
    exact (Least_good m A1 c1 l1 w hr1 h0).mono fun _ _ ⟨⟨v, e, hR⟩, hB⟩ => ⟨v, e, hR, hB⟩
  · rw [if_neg h0] at h
    cases h
    exact (Least_err a0 A1 c1 l1 w hr1 h0).mono fun _ _ ⟨⟨v, e, hR⟩, hB⟩ => ⟨v, e, hR, hB⟩
end Go.Proofs.Ytbjpjjokamaliaa.A

-- Printed by hprint.py (this claim's own program, over the kit's print.py) out of the translation and contracts by hand. Not trusted: Lean checks it.
namespace Go.Proofs.Ytbjpjjokamaliaa.PAmbushGuards
open Go.Proofs.Ytbjpjjokamaliaa.A Go.Proofs.Ytbjpjjokamaliaa.B
open Go.RowKit Go.Proofs.YtbjpjjokamaliaaW.PrintWords Go.Proofs.YtbjpjjokamaliaaW.PrintLast Go.Proofs.YtbjpjjokamaliaaW.PrintMore
attribute [local go_sem] max2_int min2_int max_two min_two max_three min_three max_four min_four   -- for this text's walks alone
set_option linter.unusedVariables false
set_option linter.unusedSimpArgs false



def errW : Option Int → Value
  | none => .nilIface
  | some c => .iface 0 (.int .i64 c)
theorem errW_none : errW none = .nilIface := rfl
theorem errW_some (c : Int) : errW (some c) = .iface 0 (.int .i64 c) := rfl

theorem info3 : (Try.prog.info? 3).map (fun i => (i.zero, i.size, i.bytes)) = some (some (.int .i64 0), 1, 8) := by kernel_rfl
-- the values' own types
def rd_L1 (xs : List (List Int)) (i : Int) : (List Int) := xs.getD i.toNat ([] : List Int)
theorem at_L1 {w : World} {A : Option Addr} {n : Nat} {xs : List (List Int)} (h : Kd.C (Kd.slice 3 (Kd.int .i64)) w A n xs) (i : Int) (h0 : 0 ≤ i) (h1 : i < n) : ∃ ad A0 c0, A = some ad ∧ w.cell? (ad.add i.toNat) = some (.slice A0 (rd_L1 xs i).length c0) ∧ (rd_L1 xs i).length ≤ c0 ∧ (Kd.int .i64).C w A0 (rd_L1 xs i).length (rd_L1 xs i) := by
  obtain ⟨ad, c, e, _, hK, hc0⟩ := Kd.C_get h ([] : List Int) i h0 h1
  have hc : ∀ j u, c[j]? = some u → w.cell? (ad.add (i.toNat * 1 + j)) = some u := hc0
  obtain ⟨A0, c0, rfl, l0, g0⟩ := hK
  exact ⟨ad, A0, c0, e, by have hq := hc 0 _ rfl; rwa [Nat.mul_one, Nat.add_zero] at hq, l0, g0⟩

end Go.Proofs.Ytbjpjjokamaliaa.PAmbushGuards

-- Printed by hprint.py (this claim's own program, over the kit's print.py) out of the translation and contracts by hand. Not trusted: Lean checks it.
namespace Go.Proofs.Ytbjpjjokamaliaa.PAmbushGuards
open Go.Proofs.Ytbjpjjokamaliaa.A Go.Proofs.Ytbjpjjokamaliaa.B
open Go.RowKit Go.Proofs.YtbjpjjokamaliaaW.PrintWords Go.Proofs.YtbjpjjokamaliaaW.PrintLast Go.Proofs.YtbjpjjokamaliaaW.PrintMore
attribute [local go_sem] max2_int min2_int max_two min_two max_three min_three max_four min_four   -- for this text's walks alone
set_option linter.unusedVariables false
set_option linter.unusedSimpArgs false

/-! ### drovewaylaw04_few: function 11 -/
def drovewaylaw04_few.f (l0 : List Int) (a1 : ByteArray) (a2 : ByteArray) : Option (Bool) := if (l0.length : Int) ≤ 40 then (if (a1.size : Int) ≤ 40 then (some (decide ((a2.size : Int) ≤ 40))) else (some false)) else (some false)
set_option maxHeartbeats 8000000 in
set_option maxRecDepth 100000 in
theorem drovewaylaw04_few.calls (A0 : Option Addr) (c0 : Nat) (l0 : List Int) (a1 : ByteArray) (a2 : ByteArray) (r : Bool) (w : World) (hr0 : Kd.C (Kd.int .i64) w A0 l0.length l0) (hc0 : l0.length ≤ c0) (h : drovewaylaw04_few.f l0 a1 a2 = some r) :
    Calls Try.prog 11 #[.slice A0 l0.length c0, .string a1, .string a2] w fun e w' => e = .returned (.bool r) ∧ Drawn0 w w' := by
  have HR0 := Aside0.mk hr0
  have HC0 := Aside0.mk hc0
  clear hr0 hc0
  have H : (if (l0.length : Int) ≤ 40 then (if (a1.size : Int) ≤ 40 then (some (decide ((a2.size : Int) ≤ 40))) else (some false)) else (some false)) = some r := h
  clear h
  by_cases c4 : (l0.length : Int) ≤ 40
  · rw [if_pos c4] at H
    have c4b0 : decide ((l0.length : Int) ≤ 40) = true := decide_eq_true c4
    have c4b1 : decide (l0.length ≤ 40) = true := decide_eq_true (by omega)
    clear c4
    by_cases c5 : (a1.size : Int) ≤ 40
    · rw [if_pos c5] at H
      have c5b0 : decide ((a1.size : Int) ≤ 40) = true := decide_eq_true c5
      have c5b1 : decide (a1.size ≤ 40) = true := decide_eq_true (by omega)
      clear c5
      obtain rfl := Option.some.inj H
      go_enter Try.func11, Try.ntmps11
      go_wp2
      go_ret
      exact ⟨by first | rfl | (simp; done) | (simp [*]; done), by repeat (first | exact Drawn0.refl _ | apply Drawn0.step)⟩
    · rw [if_neg c5] at H
      have c5b0 : decide ((a1.size : Int) ≤ 40) = false := decide_eq_false c5
      have c5b1 : decide (a1.size ≤ 40) = false := decide_eq_false (by omega)
      clear c5
      obtain rfl := Option.some.inj H
      go_enter Try.func11, Try.ntmps11
      go_wp2
      go_ret
      exact ⟨by first | rfl | (simp; done) | (simp [*]; done), by repeat (first | exact Drawn0.refl _ | apply Drawn0.step)⟩
  · rw [if_neg c4] at H
    have c4b0 : decide ((l0.length : Int) ≤ 40) = false := decide_eq_false c4
    have c4b1 : decide (l0.length ≤ 40) = false := decide_eq_false (by omega)
    clear c4
    obtain rfl := Option.some.inj H
    go_enter Try.func11, Try.ntmps11
    go_wp2
    go_ret
    exact ⟨by first | rfl | (simp; done) | (simp [*]; done), by repeat (first | exact Drawn0.refl _ | apply Drawn0.step)⟩

-- by hand: function 12 (drovewaylaw04_alive)

-- by hand: function 19 (ambush_Guards)

-- by hand: function 20 (ambush_Needs)

-- by hand: function 33 (ambush_Least)

-- by hand: function 34 (drovewayref04_Guards)

/-! ### drovewaylaw04_same: function 35 -/
def drovewaylaw04_same.l0 : Nat → List Int → List Int → Int → Option (Bool)
  | 0, _, _, _ => none
  | k + 1, x0, x1, x5 => if x5 < (x0.length : Int) then (if 0 ≤ x5 then (if x5 < (x1.length : Int) then (if (rd x0 x5) = (rd x1 x5) then (drovewaylaw04_same.l0 k x0 x1 (wrap64 (x5 + 1))) else (some false)) else (none)) else (none)) else (some true)
def drovewaylaw04_same.f (k : Nat) (l0 : List Int) (l1 : List Int) : Option (Bool) := if (l0.length : Int) = (l1.length : Int) then (drovewaylaw04_same.l0 k l0 l1 0) else (some false)
theorem drovewaylaw04_same.mono_l : ∀ k, (∀ y0 y1 y2, LeO (drovewaylaw04_same.l0 k y0 y1 y2) (drovewaylaw04_same.l0 (k + 1) y0 y1 y2))
  | 0 => fun _ _ _ r h => by simp [drovewaylaw04_same.l0] at h
  | k + 1 => by
    have ih0 := drovewaylaw04_same.mono_l k
    · intro y0 y1 y2
      unfold drovewaylaw04_same.l0
      repeat' first
      | (with_reducible exact ih0 _ _ _)
      | (with_reducible exact LeO.refl _)
      | (with_reducible exact LeO.none _)
      | (with_reducible refine LeO.ite ?_ ?_)
      | (with_reducible refine LeO.bind ?_ (fun _ => ?_))
      | exact ih0 _ _ _
      | exact LeO.none _
      | refine LeO.ite ?_ ?_
      | refine LeO.bind ?_ (fun _ => ?_)
theorem drovewaylaw04_same.mono : ∀ a0 a1 k, LeO (drovewaylaw04_same.f k a0 a1) (drovewaylaw04_same.f (k + 1) a0 a1) := by
  intro a0 a1 k
  have ih0 := drovewaylaw04_same.mono_l k
  unfold drovewaylaw04_same.f
  repeat' first
      | (with_reducible exact ih0 _ _ _)
      | (with_reducible exact LeO.refl _)
      | (with_reducible exact LeO.none _)
      | (with_reducible refine LeO.ite ?_ ?_)
      | (with_reducible refine LeO.bind ?_ (fun _ => ?_))
      | exact ih0 _ _ _
      | exact LeO.none _
      | refine LeO.ite ?_ ?_
      | refine LeO.bind ?_ (fun _ => ?_)
set_option maxHeartbeats 8000000 in
set_option maxRecDepth 100000 in
theorem drovewaylaw04_same.calls (k : Nat) (A0 : Option Addr) (c0 : Nat) (l0 : List Int) (A1 : Option Addr) (c1 : Nat) (l1 : List Int) (r : Bool) (w : World) (hr0 : Kd.C (Kd.int .i64) w A0 l0.length l0) (hc0 : l0.length ≤ c0) (hr1 : Kd.C (Kd.int .i64) w A1 l1.length l1) (hc1 : l1.length ≤ c1) (h : drovewaylaw04_same.f k l0 l1 = some r) :
    Calls Try.prog 35 #[.slice A0 l0.length c0, .slice A1 l1.length c1] w fun e w' => e = .returned (.bool r) ∧ Drawn0 w w' := by
  have HR0 := Aside0.mk hr0
  have HC0 := Aside0.mk hc0
  clear hr0 hc0
  have HR1 := Aside0.mk hr1
  have HC1 := Aside0.mk hc1
  clear hr1 hc1
  have H : (if (l0.length : Int) = (l1.length : Int) then (drovewaylaw04_same.l0 k l0 l1 0) else (some false)) = some r := h
  clear h
  by_cases c3 : (l0.length : Int) = (l1.length : Int)
  · rw [if_pos c3] at H
    have c3b0 : ((l0.length : Int) == (l1.length : Int)) = true := beq_iff_eq.mpr c3
    have c3b1 : ((l0.length : Int) != (l1.length : Int)) = false := bne_eq_false_iff_eq.mpr c3
    have c3b2 : (l0.length == l1.length) = true := by first | simpa using c3 | (simp at c3 ⊢; omega)
    clear c3
    have H' := Aside0.mk H
    clear H
    go_enter Try.func35, Try.ntmps35
    go_wp2
    repeat (go_quiet (fail); try go_wp2)
    go_loopg [5] k (fun kq v5 w' => ∃ (x5_1 : Int), v5 = .int .i64 x5_1 ∧ Aside0 (drovewaylaw04_same.l0 kq l0 l1 x5_1 = some r) ∧ Aside0 (kq ≤ k) ∧ Drawn0 w w')
    case atStart => exact ⟨(0), (by first | rfl | (simp; done) | (simp [*]; done) | (simp; exact beq_not_bne _ _)), H', ⟨Nat.le_refl _⟩, by repeat (first | exact Drawn0.refl _ | apply Drawn0.step)⟩
    case round =>
      clear H'
      try clear c1
      try clear p2
      try clear c3
      try clear c3b0
      try clear c3b1
      try clear c3b2
      obtain ⟨x5_1, rfl, HA, HK1, ⟨m1, rfl⟩⟩ := hrel
      cases gk with
      | zero => exact absurd HA.out (by simp [drovewaylaw04_same.l0])
      | succ k1 =>
        have H := HA.out
        clear HA
        simp only [drovewaylaw04_same.l0] at H
        by_cases c4 : x5_1 < (l0.length : Int)
        · rw [if_pos c4] at H
          have c4b0 : decide (x5_1 < (l0.length : Int)) = true := decide_eq_true c4
          clear c4
          by_cases c5 : 0 ≤ x5_1
          · rw [if_pos c5] at H
            have c5b0 : decide (0 ≤ x5_1) = true := decide_eq_true c5
            clear c5
            by_cases c6 : x5_1 < (l1.length : Int)
            · rw [if_pos c6] at H
              have c6b0 : decide (x5_1 < (l1.length : Int)) = true := decide_eq_true c6
              clear c6
              by_cases c7 : (rd l0 x5_1) = (rd l1 x5_1)
              · rw [if_pos c7] at H
                have c7b0 : ((rd l0 x5_1) == (rd l1 x5_1)) = true := beq_iff_eq.mpr c7
                have c7b1 : ((rd l0 x5_1) != (rd l1 x5_1)) = false := bne_eq_false_iff_eq.mpr c7
                clear c7
                have H' := Aside0.mk H
                clear H
                have p101 : 0 ≤ (x5_1 : Int) := of_decide_eq_true (by first | (with_reducible assumption) | assumption)
                have q101 : x5_1 < (l0.length : Int) := of_decide_eq_true (by first | (with_reducible assumption) | assumption)
                obtain ⟨ad101, e101, hx101_0⟩ := Kd.at_int HR0.out x5_1 p101 q101
                cases e101
                replace p101 := eq_true p101
                replace q101 := eq_true q101
                have p102 : 0 ≤ (x5_1 : Int) := of_decide_eq_true (by first | (with_reducible assumption) | assumption)
                have q102 : x5_1 < (l1.length : Int) := of_decide_eq_true (by first | (with_reducible assumption) | assumption)
                obtain ⟨ad102, e102, hx102_0⟩ := Kd.at_int HR1.out x5_1 p102 q102
                cases e102
                replace p102 := eq_true p102
                replace q102 := eq_true q102
                go_wp2
                repeat (go_quiet (fail); try go_wp2)
                go_roundg k1
                case measure => have := HK1.out; omega
                case rel => exact ⟨(wrap64 (x5_1 + 1)), (by first | rfl | (simp; done) | (simp [*]; done) | (simp; exact beq_not_bne _ _)), H', ⟨by have := HK1.out; omega⟩, by repeat (first | exact Drawn0.refl _ | apply Drawn0.step)⟩
              · rw [if_neg c7] at H
                have c7b0 : ((rd l0 x5_1) == (rd l1 x5_1)) = false := beq_eq_false_iff_ne.mpr c7
                have c7b1 : ((rd l0 x5_1) != (rd l1 x5_1)) = true := bne_iff_ne.mpr c7
                obtain rfl := Option.some.inj H
                have p101 : 0 ≤ (x5_1 : Int) := of_decide_eq_true (by first | (with_reducible assumption) | assumption)
                have q101 : x5_1 < (l0.length : Int) := of_decide_eq_true (by first | (with_reducible assumption) | assumption)
                obtain ⟨ad101, e101, hx101_0⟩ := Kd.at_int HR0.out x5_1 p101 q101
                cases e101
                replace p101 := eq_true p101
                replace q101 := eq_true q101
                have p102 : 0 ≤ (x5_1 : Int) := of_decide_eq_true (by first | (with_reducible assumption) | assumption)
                have q102 : x5_1 < (l1.length : Int) := of_decide_eq_true (by first | (with_reducible assumption) | assumption)
                obtain ⟨ad102, e102, hx102_0⟩ := Kd.at_int HR1.out x5_1 p102 q102
                cases e102
                replace p102 := eq_true p102
                replace q102 := eq_true q102
                go_wp2
                repeat (go_quiet (fail); try go_wp2)
                go_ret
                exact ⟨by first | rfl | (simp; done) | (simp [*]; done), by repeat (first | exact Drawn0.refl _ | apply Drawn0.step)⟩
            · rw [if_neg c6] at H
              exact absurd H (by simp)
          · rw [if_neg c5] at H
            exact absurd H (by simp)
        · rw [if_neg c4] at H
          have c4b0 : decide (x5_1 < (l0.length : Int)) = false := decide_eq_false c4
          clear c4
          obtain rfl := Option.some.inj H
          go_wp2
          repeat (go_quiet (fail); try go_wp2)
          go_ret
          exact ⟨by first | rfl | (simp; done) | (simp [*]; done), by repeat (first | exact Drawn0.refl _ | apply Drawn0.step)⟩
  · rw [if_neg c3] at H
    have c3b0 : ((l0.length : Int) == (l1.length : Int)) = false := beq_eq_false_iff_ne.mpr c3
    have c3b1 : ((l0.length : Int) != (l1.length : Int)) = true := bne_iff_ne.mpr c3
    have c3b2 : (l0.length == l1.length) = false := by first | simpa using c3 | (simp at c3 ⊢; omega)
    obtain rfl := Option.some.inj H
    go_enter Try.func35, Try.ntmps35
    go_wp2
    repeat (go_quiet (fail); try go_wp2)
    go_ret
    exact ⟨by first | rfl | (simp; done) | (simp [*]; done), by repeat (first | exact Drawn0.refl _ | apply Drawn0.step)⟩

-- by hand: function 36 (drovewayref04_Needs)

/-! ### drovewayref04_Field: function 17 -/
mutual
def drovewayref04_Field.j0 : Nat → Int → List Int → Bool → Option (Int)
  | 0, _, _, _ => none
  | k + 1, x0, x1, x11 => if x11 = true then (some 2) else (if (x1.length : Int) > 12 then (some 3) else (drovewayref04_Field.l0 k x0 x1 0))
def drovewayref04_Field.l0 : Nat → Int → List Int → Int → Option (Int)
  | 0, _, _, _ => none
  | k + 1, x0, x1, x5 => if x5 < (x1.length : Int) then (if 0 ≤ x5 then (if (rd x1 x5) < 1 then (some 2) else (if 0 ≤ x0 then (if (rd x1 x5) ≥ (shl .i64 1 x0) then (some 2) else (drovewayref04_Field.l0 k x0 x1 (wrap64 (x5 + 1)))) else (none))) else (none)) else (some 0)
end
def drovewayref04_Field.f (k : Nat) (a0 : Int) (l1 : List Int) : Option (Int) := if a0 < 1 then (drovewayref04_Field.j0 k a0 l1 true) else (drovewayref04_Field.j0 k a0 l1 (decide (a0 > 9)))
theorem drovewayref04_Field.mono_l : ∀ k, (∀ y0 y1 y2, LeO (drovewayref04_Field.j0 k y0 y1 y2) (drovewayref04_Field.j0 (k + 1) y0 y1 y2)) ∧ (∀ y0 y1 y2, LeO (drovewayref04_Field.l0 k y0 y1 y2) (drovewayref04_Field.l0 (k + 1) y0 y1 y2))
  | 0 => ⟨fun _ _ _ r h => by simp [drovewayref04_Field.j0] at h, fun _ _ _ r h => by simp [drovewayref04_Field.l0] at h⟩
  | k + 1 => by
    obtain ⟨ih0, ih1⟩ := drovewayref04_Field.mono_l k
    refine ⟨?_, ?_⟩
    · intro y0 y1 y2
      unfold drovewayref04_Field.j0
      repeat' first
      | (with_reducible exact ih0 _ _ _)
      | (with_reducible exact ih1 _ _ _)
      | (with_reducible exact LeO.refl _)
      | (with_reducible exact LeO.none _)
      | (with_reducible refine LeO.ite ?_ ?_)
      | (with_reducible refine LeO.bind ?_ (fun _ => ?_))
      | exact ih0 _ _ _
      | exact ih1 _ _ _
      | exact LeO.none _
      | refine LeO.ite ?_ ?_
      | refine LeO.bind ?_ (fun _ => ?_)
    · intro y0 y1 y2
      unfold drovewayref04_Field.l0
      repeat' first
      | (with_reducible exact ih0 _ _ _)
      | (with_reducible exact ih1 _ _ _)
      | (with_reducible exact LeO.refl _)
      | (with_reducible exact LeO.none _)
      | (with_reducible refine LeO.ite ?_ ?_)
      | (with_reducible refine LeO.bind ?_ (fun _ => ?_))
      | exact ih0 _ _ _
      | exact ih1 _ _ _
      | exact LeO.none _
      | refine LeO.ite ?_ ?_
      | refine LeO.bind ?_ (fun _ => ?_)
theorem drovewayref04_Field.mono : ∀ a0 a1 k, LeO (drovewayref04_Field.f k a0 a1) (drovewayref04_Field.f (k + 1) a0 a1) := by
  intro a0 a1 k
  obtain ⟨ih0, ih1⟩ := drovewayref04_Field.mono_l k
  unfold drovewayref04_Field.f
  repeat' first
      | (with_reducible exact ih0 _ _ _)
      | (with_reducible exact ih1 _ _ _)
      | (with_reducible exact LeO.refl _)
      | (with_reducible exact LeO.none _)
      | (with_reducible refine LeO.ite ?_ ?_)
      | (with_reducible refine LeO.bind ?_ (fun _ => ?_))
      | exact ih0 _ _ _
      | exact ih1 _ _ _
      | exact LeO.none _
      | refine LeO.ite ?_ ?_
      | refine LeO.bind ?_ (fun _ => ?_)
set_option maxHeartbeats 8000000 in
set_option maxRecDepth 100000 in
theorem drovewayref04_Field.calls (k : Nat) (a0 : Int) (A1 : Option Addr) (c1 : Nat) (l1 : List Int) (r : Int) (w : World) (hr1 : Kd.C (Kd.int .i64) w A1 l1.length l1) (hc1 : l1.length ≤ c1) (h : drovewayref04_Field.f k a0 l1 = some r) :
    Calls Try.prog 17 #[.int .i64 a0, .slice A1 l1.length c1] w fun e w' => e = .returned (.int .i64 r) ∧ Drawn0 w w' := by
  have HR1 := Aside0.mk hr1
  have HC1 := Aside0.mk hc1
  clear hr1 hc1
  have H : (if a0 < 1 then (drovewayref04_Field.j0 k a0 l1 true) else (drovewayref04_Field.j0 k a0 l1 (decide (a0 > 9)))) = some r := h
  clear h
  have HC3 := Aside0.mk H
  clear H
  go_enter Try.func17, Try.ntmps17
  go_upto_region 1 with (fail)
  repeat (go_quiet (fail); go_upto_region 1 with (fail))
  go_cut [11] (fun v11 wc => ∃ (kq : Nat) (x11_2 : Bool), v11 = .bool x11_2 ∧ Aside0 (drovewayref04_Field.j0 kq a0 l1 x11_2 = some r) ∧ Aside0 (kq ≤ k) ∧ Drawn0 w wc)
  case first =>
    have H := HC3.out
    clear HC3
    by_cases c4 : a0 < 1
    · rw [if_pos c4] at H
      have c4b0 : decide (a0 < 1) = true := decide_eq_true c4
      clear c4
      (first | rw [c4b0] | (simp only [i64_w, i32_w]; rw [c4b0]) | skip)
      have H' := Aside0.mk H
      clear H
      go_wp2
      repeat (go_quiet (fail); try go_wp2)
      go_meet
      case rel => exact ⟨_, (true), (by first | rfl | (simp; done) | (simp [*]; done) | (simp; exact beq_not_bne _ _)), H', ⟨by first | omega | exact Nat.le_refl _⟩, by repeat (first | exact Drawn0.refl _ | apply Drawn0.step)⟩
    · rw [if_neg c4] at H
      have c4b0 : decide (a0 < 1) = false := decide_eq_false c4
      clear c4
      (first | rw [c4b0] | (simp only [i64_w, i32_w]; rw [c4b0]) | skip)
      have H' := Aside0.mk H
      clear H
      go_wp2
      repeat (go_quiet (fail); try go_wp2)
      go_meet
      case rel => exact ⟨_, (decide (a0 > 9)), (by first | rfl | (simp; done) | (simp [*]; done) | (simp; exact beq_not_bne _ _)), H', ⟨by first | omega | exact Nat.le_refl _⟩, by repeat (first | exact Drawn0.refl _ | apply Drawn0.step)⟩
  case rest =>
    clear HC3
    try clear c1
    try clear p2
    try clear c4
    try clear c4b0
    obtain ⟨kq, x11_2, rfl, HA, HJ2, ⟨mc2, rfl⟩⟩ := hcut
    cases kq with
    | zero => exact absurd HA.out (by simp [drovewayref04_Field.j0])
    | succ kj2 =>
      have H := HA.out
      clear HA
      simp only [drovewayref04_Field.j0] at H
      by_cases c5 : x11_2 = true
      · subst c5
        have H1 : (some 2) = some r := by rw [if_pos rfl] at H; exact H
        clear H
        have H := H1
        clear H1
        obtain rfl := Option.some.inj H
        go_wp2
        repeat (go_quiet (fail); try go_wp2)
        go_ret
        exact ⟨by first | rfl | (simp; done) | (simp [*]; done), by repeat (first | exact Drawn0.refl _ | apply Drawn0.step)⟩
      · replace c5 := Bool.eq_false_iff.mpr c5
        subst c5
        have H1 : (if (l1.length : Int) > 12 then (some 3) else (drovewayref04_Field.l0 kj2 a0 l1 0)) = some r := by rw [if_neg (show ¬ (false = true) by decide)] at H; exact H
        clear H
        have H := H1
        clear H1
        by_cases c6 : (l1.length : Int) > 12
        · rw [if_pos c6] at H
          have c6b0 : decide (12 < (l1.length : Int)) = true := decide_eq_true c6
          have c6b1 : decide (12 < l1.length) = true := decide_eq_true (by omega)
          clear c6
          obtain rfl := Option.some.inj H
          go_wp2
          repeat (go_quiet (fail); try go_wp2)
          go_ret
          exact ⟨by first | rfl | (simp; done) | (simp [*]; done), by repeat (first | exact Drawn0.refl _ | apply Drawn0.step)⟩
        · rw [if_neg c6] at H
          have c6b0 : decide (12 < (l1.length : Int)) = false := decide_eq_false c6
          have c6b1 : decide (12 < l1.length) = false := decide_eq_false (by omega)
          clear c6
          have H' := Aside0.mk H
          clear H
          go_wp2
          repeat (go_quiet (fail); try go_wp2)
          go_loopg [5] kj2 (fun kq v5 w' => ∃ (x5_2 : Int), v5 = .int .i64 x5_2 ∧ Aside0 (drovewayref04_Field.l0 kq a0 l1 x5_2 = some r) ∧ Aside0 (kq ≤ kj2) ∧ Drawn0 w w')
          case atStart => exact ⟨(0), (by first | rfl | (simp; done) | (simp [*]; done) | (simp; exact beq_not_bne _ _)), H', ⟨Nat.le_refl _⟩, by repeat (first | exact Drawn0.refl _ | apply Drawn0.step)⟩
          case round =>
            clear H'
            try clear c1
            try clear c2
            try clear p2
            try clear c4
            try clear c4b0
            try clear c5
            try clear c6
            try clear c6b0
            try clear c6b1
            try clear p2
            obtain ⟨x5_2, rfl, HA, HK2, ⟨m2, rfl⟩⟩ := hrel
            cases gk with
            | zero => exact absurd HA.out (by simp [drovewayref04_Field.l0])
            | succ k2 =>
              have H := HA.out
              clear HA
              simp only [drovewayref04_Field.l0] at H
              by_cases c7 : x5_2 < (l1.length : Int)
              · rw [if_pos c7] at H
                have c7b0 : decide (x5_2 < (l1.length : Int)) = true := decide_eq_true c7
                clear c7
                by_cases c8 : 0 ≤ x5_2
                · rw [if_pos c8] at H
                  have c8b0 : decide (0 ≤ x5_2) = true := decide_eq_true c8
                  clear c8
                  by_cases c9 : (rd l1 x5_2) < 1
                  · rw [if_pos c9] at H
                    have c9b0 : decide ((rd l1 x5_2) < 1) = true := decide_eq_true c9
                    clear c9
                    obtain rfl := Option.some.inj H
                    have p103 : 0 ≤ (x5_2 : Int) := of_decide_eq_true (by first | (with_reducible assumption) | assumption)
                    have q103 : x5_2 < (l1.length : Int) := of_decide_eq_true (by first | (with_reducible assumption) | assumption)
                    obtain ⟨ad103, e103, hx103_0⟩ := Kd.at_int HR1.out x5_2 p103 q103
                    cases e103
                    replace p103 := eq_true p103
                    replace q103 := eq_true q103
                    go_wp2
                    repeat (go_quiet (fail); try go_wp2)
                    go_ret
                    exact ⟨by first | rfl | (simp; done) | (simp [*]; done), by repeat (first | exact Drawn0.refl _ | apply Drawn0.step)⟩
                  · rw [if_neg c9] at H
                    have c9b0 : decide ((rd l1 x5_2) < 1) = false := decide_eq_false c9
                    clear c9
                    by_cases c10 : 0 ≤ a0
                    · rw [if_pos c10] at H
                      have c10b0 := eq_true c10
                      have c10b1 : decide (0 ≤ a0) = true := decide_eq_true c10
                      clear c10
                      obtain ⟨ji11, hji11⟩ : ∃ j_ : Int, (shl .i64 1 a0) = j_ := ⟨_, rfl⟩
                      replace H : (if (rd l1 x5_2) ≥ (ji11) then (some 2) else (drovewayref04_Field.l0 k2 a0 l1 (wrap64 (x5_2 + 1)))) = some r := by first | (rw [hji11] at H; exact H) | (simp only [hji11] at H ⊢; exact H)
                      have hji11_ : (IntKind.i64.wrap (1 * 2 ^ min a0.toNat 64)) = ji11 := hji11
                      have hji11z : a0 ≤ 64 → (IntKind.i64.wrap (1 * 2 ^ a0.toNat)) = ji11 := shl_small hji11
                      have hji11u : (IntKind.i64.wrap (2 ^ min a0.toNat 64)) = ji11 := by have h_ := hji11_; rw [Int.one_mul] at h_; exact h_
                      have hji11v : a0 ≤ 64 → (IntKind.i64.wrap (2 ^ a0.toNat)) = ji11 := fun hle_ => by have h_ := hji11z hle_; rw [Int.one_mul] at h_; exact h_
                      have hji11y : (wrap64 (1 * 2 ^ min a0.toNat 64)) = ji11 := (i64_w _).symm.trans hji11_
                      have hji11x : a0 ≤ 64 → (wrap64 (1 * 2 ^ a0.toNat)) = ji11 := fun h_ => (i64_w _).symm.trans (hji11z h_)
                      by_cases c12 : (rd l1 x5_2) ≥ (ji11)
                      · rw [if_pos c12] at H
                        have c12b0 : decide ((ji11) ≤ (rd l1 x5_2)) = true := decide_eq_true c12
                        clear c12
                        obtain rfl := Option.some.inj H
                        have p103 : 0 ≤ (x5_2 : Int) := of_decide_eq_true (by first | (with_reducible assumption) | assumption)
                        have q103 : x5_2 < (l1.length : Int) := of_decide_eq_true (by first | (with_reducible assumption) | assumption)
                        obtain ⟨ad103, e103, hx103_0⟩ := Kd.at_int HR1.out x5_2 p103 q103
                        cases e103
                        replace p103 := eq_true p103
                        replace q103 := eq_true q103
                        have p104 : 0 ≤ (x5_2 : Int) := of_decide_eq_true (by first | (with_reducible assumption) | assumption)
                        have q104 : x5_2 < (l1.length : Int) := of_decide_eq_true (by first | (with_reducible assumption) | assumption)
                        obtain ⟨ad104, e104, hx104_0⟩ := Kd.at_int HR1.out x5_2 p104 q104
                        obtain rfl : ad103 = ad104 := (by injection e104)
                        replace p104 := eq_true p104
                        replace q104 := eq_true q104
                        go_wp2
                        repeat (go_quiet (fail); try go_wp2)
                        go_ret
                        exact ⟨by first | rfl | (simp; done) | (simp only [← hji11] <;> (first | rfl | simp)) | (simp [*]; done), by repeat (first | exact Drawn0.refl _ | apply Drawn0.step)⟩
                      · rw [if_neg c12] at H
                        have c12b0 : decide ((ji11) ≤ (rd l1 x5_2)) = false := decide_eq_false c12
                        clear c12
                        have H' := Aside0.mk H
                        clear H
                        have p103 : 0 ≤ (x5_2 : Int) := of_decide_eq_true (by first | (with_reducible assumption) | assumption)
                        have q103 : x5_2 < (l1.length : Int) := of_decide_eq_true (by first | (with_reducible assumption) | assumption)
                        obtain ⟨ad103, e103, hx103_0⟩ := Kd.at_int HR1.out x5_2 p103 q103
                        cases e103
                        replace p103 := eq_true p103
                        replace q103 := eq_true q103
                        have p104 : 0 ≤ (x5_2 : Int) := of_decide_eq_true (by first | (with_reducible assumption) | assumption)
                        have q104 : x5_2 < (l1.length : Int) := of_decide_eq_true (by first | (with_reducible assumption) | assumption)
                        obtain ⟨ad104, e104, hx104_0⟩ := Kd.at_int HR1.out x5_2 p104 q104
                        obtain rfl : ad103 = ad104 := (by injection e104)
                        replace p104 := eq_true p104
                        replace q104 := eq_true q104
                        go_wp2
                        repeat (go_quiet (fail); try go_wp2)
                        go_roundg k2
                        case measure => have := HJ2.out; have := HK2.out; omega
                        case rel => exact ⟨(wrap64 (x5_2 + 1)), (by first | rfl | (simp; done) | (simp [*]; done) | (simp; exact beq_not_bne _ _)), H', ⟨by have := HJ2.out; have := HK2.out; omega⟩, by repeat (first | exact Drawn0.refl _ | apply Drawn0.step)⟩
                    · rw [if_neg c10] at H
                      exact absurd H (by simp)
                · rw [if_neg c8] at H
                  exact absurd H (by simp)
              · rw [if_neg c7] at H
                have c7b0 : decide (x5_2 < (l1.length : Int)) = false := decide_eq_false c7
                clear c7
                obtain rfl := Option.some.inj H
                go_wp2
                repeat (go_quiet (fail); try go_wp2)
                go_ret
                exact ⟨by first | rfl | (simp; done) | (simp [*]; done), by repeat (first | exact Drawn0.refl _ | apply Drawn0.step)⟩

/-! ### drovewayref04_Least: function 37 -/
mutual
def drovewayref04_Least.l0 : Nat → Int → List Int → List Int → Int → Option (List Int × Int)
  | 0, _, _, _, _ => none
  | k + 1, x0, x1, x7, x8 => if 0 ≤ x0 then (if x8 < (shl .i64 1 x0) then (drovewayref04_Least.l1 k x0 x1 x7 x8 false true 0) else (some (x7, 0))) else (none)
def drovewayref04_Least.l1 : Nat → Int → List Int → List Int → Int → Bool → Bool → Int → Option (List Int × Int)
  | 0, _, _, _, _, _, _, _ => none
  | k + 1, x0, x1, x7, x8, x9, x10, x11 => if x11 < (x1.length : Int) then (if x9 = true then (if x10 = true then (if 0 ≤ x11 then (if (rd x1 x11) = x8 then (drovewayref04_Least.l1 k x0 x1 x7 x8 true true (wrap64 (x11 + 1))) else (drovewayref04_Least.l1 k x0 x1 x7 x8 true ((Go.bits .andNot .i64 (rd x1 x11) x8) != 0) (wrap64 (x11 + 1)))) else (none)) else (drovewayref04_Least.l1 k x0 x1 x7 x8 true false (wrap64 (x11 + 1)))) else (if 0 ≤ x11 then (if x10 = true then (if (rd x1 x11) = x8 then (drovewayref04_Least.l1 k x0 x1 x7 x8 ((rd x1 x11) == x8) true (wrap64 (x11 + 1))) else (drovewayref04_Least.l1 k x0 x1 x7 x8 ((rd x1 x11) == x8) ((Go.bits .andNot .i64 (rd x1 x11) x8) != 0) (wrap64 (x11 + 1)))) else (drovewayref04_Least.l1 k x0 x1 x7 x8 ((rd x1 x11) == x8) false (wrap64 (x11 + 1)))) else (none))) else (if x9 = true then (if x10 = true then (if x7.length < 17592186044416 then (drovewayref04_Least.l0 k x0 x1 (x7 ++ [x8]) (wrap64 (x8 + 1))) else (none)) else (drovewayref04_Least.l0 k x0 x1 x7 (wrap64 (x8 + 1)))) else (drovewayref04_Least.l0 k x0 x1 x7 (wrap64 (x8 + 1))))
end
def drovewayref04_Least.f (k : Nat) (a0 : Int) (l1 : List Int) : Option (List Int × Int) := (drovewayref04_Field.f k a0 l1).bind fun t105 => (if t105 = 0 then (drovewayref04_Least.l0 k a0 l1 ([] : List Int) 1) else (some (([] : List Int), t105)))
theorem drovewayref04_Least.mono_l : ∀ k, (∀ y0 y1 y2 y3, LeO (drovewayref04_Least.l0 k y0 y1 y2 y3) (drovewayref04_Least.l0 (k + 1) y0 y1 y2 y3)) ∧ (∀ y0 y1 y2 y3 y4 y5 y6, LeO (drovewayref04_Least.l1 k y0 y1 y2 y3 y4 y5 y6) (drovewayref04_Least.l1 (k + 1) y0 y1 y2 y3 y4 y5 y6))
  | 0 => ⟨fun _ _ _ _ r h => by simp [drovewayref04_Least.l0] at h, fun _ _ _ _ _ _ _ r h => by simp [drovewayref04_Least.l1] at h⟩
  | k + 1 => by
    obtain ⟨ih0, ih1⟩ := drovewayref04_Least.mono_l k
    refine ⟨?_, ?_⟩
    · intro y0 y1 y2 y3
      unfold drovewayref04_Least.l0
      repeat' first
      | (with_reducible exact ih0 _ _ _ _)
      | (with_reducible exact ih1 _ _ _ _ _ _ _)
      | (with_reducible exact drovewayref04_Field.mono _ _ _)
      | (with_reducible exact LeO.refl _)
      | (with_reducible exact LeO.none _)
      | (with_reducible refine LeO.ite ?_ ?_)
      | (with_reducible refine LeO.bind ?_ (fun _ => ?_))
      | exact ih0 _ _ _ _
      | exact ih1 _ _ _ _ _ _ _
      | exact drovewayref04_Field.mono _ _ _
      | exact LeO.none _
      | refine LeO.ite ?_ ?_
      | refine LeO.bind ?_ (fun _ => ?_)
    · intro y0 y1 y2 y3 y4 y5 y6
      unfold drovewayref04_Least.l1
      repeat' first
      | (with_reducible exact ih0 _ _ _ _)
      | (with_reducible exact ih1 _ _ _ _ _ _ _)
      | (with_reducible exact drovewayref04_Field.mono _ _ _)
      | (with_reducible exact LeO.refl _)
      | (with_reducible exact LeO.none _)
      | (with_reducible refine LeO.ite ?_ ?_)
      | (with_reducible refine LeO.bind ?_ (fun _ => ?_))
      | exact ih0 _ _ _ _
      | exact ih1 _ _ _ _ _ _ _
      | exact drovewayref04_Field.mono _ _ _
      | exact LeO.none _
      | refine LeO.ite ?_ ?_
      | refine LeO.bind ?_ (fun _ => ?_)
theorem drovewayref04_Least.mono : ∀ a0 a1 k, LeO (drovewayref04_Least.f k a0 a1) (drovewayref04_Least.f (k + 1) a0 a1) := by
  intro a0 a1 k
  obtain ⟨ih0, ih1⟩ := drovewayref04_Least.mono_l k
  unfold drovewayref04_Least.f
  repeat' first
      | (with_reducible exact ih0 _ _ _ _)
      | (with_reducible exact ih1 _ _ _ _ _ _ _)
      | (with_reducible exact drovewayref04_Field.mono _ _ _)
      | (with_reducible exact LeO.refl _)
      | (with_reducible exact LeO.none _)
      | (with_reducible refine LeO.ite ?_ ?_)
      | (with_reducible refine LeO.bind ?_ (fun _ => ?_))
      | exact ih0 _ _ _ _
      | exact ih1 _ _ _ _ _ _ _
      | exact drovewayref04_Field.mono _ _ _
      | exact LeO.none _
      | refine LeO.ite ?_ ?_
      | refine LeO.bind ?_ (fun _ => ?_)
set_option maxHeartbeats 8000000 in
set_option maxRecDepth 100000 in
theorem drovewayref04_Least.calls (k : Nat) (a0 : Int) (A1 : Option Addr) (c1 : Nat) (l1 : List Int) (r1 : List Int) (r2 : Int) (w : World) (hr1 : Kd.C (Kd.int .i64) w A1 l1.length l1) (hc1 : l1.length ≤ c1) (h : drovewayref04_Least.f k a0 l1 = some (r1, r2)) :
    Calls Try.prog 37 #[.int .i64 a0, .slice A1 l1.length c1] w fun e w' => ∃ v0_ : Value, e = .returned (.tuple #[v0_, .int .i64 r2]) ∧ Kd.R (Kd.int .i64) 3 w' w.heap.size (fun _ => True) v0_ r1 ∧ Below w.heap.size w w' := by
  have HR1 := Aside0.mk hr1
  have HC1 := Aside0.mk hc1
  clear hr1 hc1
  have HB := Aside0.mk (Below.refl w.heap.size w)
  have H : ((drovewayref04_Field.f k a0 l1).bind fun t105 => (if t105 = 0 then (drovewayref04_Least.l0 k a0 l1 ([] : List Int) 1) else (some (([] : List Int), t105)))) = some (r1, r2) := h
  clear h
  replace H := Option.bind_eq_some_iff.mp H
  obtain ⟨t105, A30, H⟩ := H
  replace H : (if t105 = 0 then (drovewayref04_Least.l0 k a0 l1 ([] : List Int) 1) else (some (([] : List Int), t105))) = some (r1, r2) := H
  have A3 := Aside0.mk A30
  clear A30
  by_cases c4 : t105 = 0
  · rw [if_pos c4] at H
    have c4b0 : (t105 == 0) = true := beq_iff_eq.mpr c4
    have c4b1 : (t105 != 0) = false := bne_eq_false_iff_eq.mpr c4
    clear c4
    have H' := Aside0.mk H
    clear H
    go_enter Try.func37, Try.ntmps37
    go_wp2_with (first | ((with_reducible refine gate_callee (f := 17) rfl ?_); refine goesL_ (some 14) rfl rfl Try.func17 (by kernel_rfl) rfl #[.int .i64 a0, .slice A1 l1.length c1] rfl (by (try simp only [List.map_toArray, List.map_cons, List.map_nil]); first | done | rfl | (simp only [List.length_drop, List.length_take]; rfl)) ?_; (with_reducible refine (drovewayref04_Field.calls k a0 _ _ l1 t105 _ ?side1 ?side2 A3.out).mono ?_); (case side1 => repeat (first | exact HR1.out | (with_reducible refine Kd.C_alloc ?_ _) | (with_reducible refine Kd.C_drewN ?_ _) | (with_reducible refine Kd.C_drew ?_))); (case side2 => exact HC1.out); rintro e w' ⟨rfl, ⟨nd, rfl⟩⟩; refine ⟨_, rfl, ?_⟩))
    go_loopg [7, 8] k (fun kq v7 v8 w' => ∃ (x7_1 : List Int) (x8_1 : Int), v8 = .int .i64 x8_1 ∧ Aside0 (drovewayref04_Least.l0 kq a0 l1 x7_1 x8_1 = some (r1, r2)) ∧ Aside0 (kq ≤ k) ∧ Aside0 (Kd.R (Kd.int .i64) 3 w' w.heap.size (fun _ => True) v7 x7_1) ∧ Aside0 (Below w.heap.size w w'))
    case atStart => exact ⟨(([] : List Int)), (1), (by first | rfl | (simp; done) | (simp [*]; done) | (simp; exact beq_not_bne _ _)), H', ⟨Nat.le_refl _⟩, ⟨by first | exact Kd.R_nil _ _ _ _ _ | exact Kd.N_nil _ _ _ _ _ | exact Kd.V_nil _ _ _ _ _ | exact Kd.Q_nil _ _ _ _ _ | exact Kd.S_nil _ _ _ _ _⟩, ⟨by repeat (first | (with_reducible first | exact HB.out | apply below_alloc | apply pw_below_drewN | apply below_drew1) | exact HB.out)⟩⟩
    case round =>
      clear H'
      try clear c1
      try clear p2
      try clear c3
      try clear c4
      try clear c4b0
      try clear c4b1
      obtain ⟨x7_1, x8_1, rfl, HA, HK1, HO_7, HB⟩ := hrel
      cases gk with
      | zero => exact absurd HA.out (by simp [drovewayref04_Least.l0])
      | succ k1 =>
        have H := HA.out
        clear HA
        simp only [drovewayref04_Least.l0] at H
        by_cases c5 : 0 ≤ a0
        · rw [if_pos c5] at H
          have c5b0 := eq_true c5
          have c5b1 : decide (0 ≤ a0) = true := decide_eq_true c5
          clear c5
          obtain ⟨ji6, hji6⟩ : ∃ j_ : Int, (shl .i64 1 a0) = j_ := ⟨_, rfl⟩
          replace H : (if x8_1 < (ji6) then (drovewayref04_Least.l1 k1 a0 l1 x7_1 x8_1 false true 0) else (some (x7_1, 0))) = some (r1, r2) := by first | (rw [hji6] at H; exact H) | (simp only [hji6] at H ⊢; exact H)
          have hji6_ : (IntKind.i64.wrap (1 * 2 ^ min a0.toNat 64)) = ji6 := hji6
          have hji6z : a0 ≤ 64 → (IntKind.i64.wrap (1 * 2 ^ a0.toNat)) = ji6 := shl_small hji6
          have hji6u : (IntKind.i64.wrap (2 ^ min a0.toNat 64)) = ji6 := by have h_ := hji6_; rw [Int.one_mul] at h_; exact h_
          have hji6v : a0 ≤ 64 → (IntKind.i64.wrap (2 ^ a0.toNat)) = ji6 := fun hle_ => by have h_ := hji6z hle_; rw [Int.one_mul] at h_; exact h_
          have hji6y : (wrap64 (1 * 2 ^ min a0.toNat 64)) = ji6 := (i64_w _).symm.trans hji6_
          have hji6x : a0 ≤ 64 → (wrap64 (1 * 2 ^ a0.toNat)) = ji6 := fun h_ => (i64_w _).symm.trans (hji6z h_)
          by_cases c7 : x8_1 < (ji6)
          · rw [if_pos c7] at H
            have c7b0 : decide (x8_1 < (ji6)) = true := decide_eq_true c7
            clear c7
            have H' := Aside0.mk H
            clear H
            go_wp2
            go_loopg [9, 10, 11] k1 (fun kq v9 v10 v11 w' => ∃ (x9_2 : Bool) (x10_2 : Bool) (x11_2 : Int), v9 = .bool x9_2 ∧ v10 = .bool x10_2 ∧ v11 = .int .i64 x11_2 ∧ Aside0 (drovewayref04_Least.l1 kq a0 l1 x7_1 x8_1 x9_2 x10_2 x11_2 = some (r1, r2)) ∧ Aside0 (kq ≤ k1) ∧ Aside0 (Kd.R (Kd.int .i64) 3 w' w.heap.size (fun _ => True) u7 x7_1) ∧ Aside0 (Below w.heap.size w w'))
            case atStart => exact ⟨(false), (true), (0), (by first | rfl | (simp; done) | (simp [*]; done) | (simp; exact beq_not_bne _ _)), (by first | rfl | (simp; done) | (simp [*]; done)), (by first | rfl | (simp; done) | (simp [*]; done)), H', ⟨Nat.le_refl _⟩, ⟨by (with_reducible repeat (first | apply Kd.R_alloc | apply Kd.R_drewN | apply Kd.R_drew)); exact HO_7.out⟩, ⟨by repeat (first | (with_reducible first | exact HB.out | apply below_alloc | apply pw_below_drewN | apply below_drew1) | exact HB.out)⟩⟩
            case round =>
              clear H'
              try clear c1
              try clear p2
              try clear c3
              try clear c4
              try clear c4b0
              try clear c4b1
              try clear c5
              try clear c5b0
              try clear c5b1
              try clear p6
              try clear c7
              try clear c7b0
              try clear p2
              obtain ⟨x9_2, x10_2, x11_2, rfl, rfl, rfl, HA, HK2, HO_7, HB⟩ := hrel
              cases gk with
              | zero => exact absurd HA.out (by simp [drovewayref04_Least.l1])
              | succ k2 =>
                have H := HA.out
                clear HA
                simp only [drovewayref04_Least.l1] at H
                by_cases c8 : x11_2 < (l1.length : Int)
                · rw [if_pos c8] at H
                  have c8b0 : decide (x11_2 < (l1.length : Int)) = true := decide_eq_true c8
                  clear c8
                  by_cases c9 : x9_2 = true
                  · subst c9
                    have H1 : (if x10_2 = true then (if 0 ≤ x11_2 then (if (rd l1 x11_2) = x8_1 then (drovewayref04_Least.l1 k2 a0 l1 x7_1 x8_1 true true (wrap64 (x11_2 + 1))) else (drovewayref04_Least.l1 k2 a0 l1 x7_1 x8_1 true ((Go.bits .andNot .i64 (rd l1 x11_2) x8_1) != 0) (wrap64 (x11_2 + 1)))) else (none)) else (drovewayref04_Least.l1 k2 a0 l1 x7_1 x8_1 true false (wrap64 (x11_2 + 1)))) = some (r1, r2) := by rw [if_pos rfl] at H; exact H
                    clear H
                    have H := H1
                    clear H1
                    by_cases c10 : x10_2 = true
                    · subst c10
                      have H1 : (if 0 ≤ x11_2 then (if (rd l1 x11_2) = x8_1 then (drovewayref04_Least.l1 k2 a0 l1 x7_1 x8_1 true true (wrap64 (x11_2 + 1))) else (drovewayref04_Least.l1 k2 a0 l1 x7_1 x8_1 true ((Go.bits .andNot .i64 (rd l1 x11_2) x8_1) != 0) (wrap64 (x11_2 + 1)))) else (none)) = some (r1, r2) := by rw [if_pos rfl] at H; exact H
                      clear H
                      have H := H1
                      clear H1
                      by_cases c11 : 0 ≤ x11_2
                      · rw [if_pos c11] at H
                        have c11b0 : decide (0 ≤ x11_2) = true := decide_eq_true c11
                        clear c11
                        by_cases c12 : (rd l1 x11_2) = x8_1
                        · rw [if_pos c12] at H
                          have c12b0 : ((rd l1 x11_2) == x8_1) = true := beq_iff_eq.mpr c12
                          have c12b1 : ((rd l1 x11_2) != x8_1) = false := bne_eq_false_iff_eq.mpr c12
                          clear c12
                          have H' := Aside0.mk H
                          clear H
                          have p106 : 0 ≤ (x11_2 : Int) := of_decide_eq_true (by first | (with_reducible assumption) | assumption)
                          have q106 : x11_2 < (l1.length : Int) := of_decide_eq_true (by first | (with_reducible assumption) | assumption)
                          obtain ⟨ad106, e106, hx106_0⟩ := Kd.at_int HR1.out x11_2 p106 q106
                          cases e106
                          replace hx106_0 := (HB.out.cell (World.block_lt_of_cell? w _ hx106_0)).trans hx106_0
                          replace p106 := eq_true p106
                          replace q106 := eq_true q106
                          go_wp2
                          go_roundg k2
                          case measure => have := HK1.out; have := HK2.out; omega
                          case rel => exact ⟨(true), (true), (wrap64 (x11_2 + 1)), (by first | rfl | (simp; done) | (simp [*]; done) | (simp; exact beq_not_bne _ _)), (by first | rfl | (simp; done) | (simp [*]; done)), (by first | rfl | (simp; done) | (simp [*]; done)), H', ⟨by have := HK1.out; have := HK2.out; omega⟩, ⟨by (with_reducible repeat (first | apply Kd.R_alloc | apply Kd.R_drewN | apply Kd.R_drew)); exact HO_7.out⟩, ⟨by repeat (first | (with_reducible first | exact HB.out | apply below_alloc | apply pw_below_drewN | apply below_drew1) | exact HB.out)⟩⟩
                        · rw [if_neg c12] at H
                          have c12b0 : ((rd l1 x11_2) == x8_1) = false := beq_eq_false_iff_ne.mpr c12
                          have c12b1 : ((rd l1 x11_2) != x8_1) = true := bne_iff_ne.mpr c12
                          have H' := Aside0.mk H
                          clear H
                          have p106 : 0 ≤ (x11_2 : Int) := of_decide_eq_true (by first | (with_reducible assumption) | assumption)
                          have q106 : x11_2 < (l1.length : Int) := of_decide_eq_true (by first | (with_reducible assumption) | assumption)
                          obtain ⟨ad106, e106, hx106_0⟩ := Kd.at_int HR1.out x11_2 p106 q106
                          cases e106
                          replace hx106_0 := (HB.out.cell (World.block_lt_of_cell? w _ hx106_0)).trans hx106_0
                          replace p106 := eq_true p106
                          replace q106 := eq_true q106
                          have p107 : 0 ≤ (x11_2 : Int) := of_decide_eq_true (by first | (with_reducible assumption) | assumption)
                          have q107 : x11_2 < (l1.length : Int) := of_decide_eq_true (by first | (with_reducible assumption) | assumption)
                          obtain ⟨ad107, e107, hx107_0⟩ := Kd.at_int HR1.out x11_2 p107 q107
                          obtain rfl : ad106 = ad107 := (by injection e107)
                          replace hx107_0 := (HB.out.cell (World.block_lt_of_cell? w _ hx107_0)).trans hx107_0
                          replace p107 := eq_true p107
                          replace q107 := eq_true q107
                          go_wp2
                          go_roundg k2
                          case measure => have := HK1.out; have := HK2.out; omega
                          case rel => exact ⟨(true), (((Go.bits .andNot .i64 (rd l1 x11_2) x8_1) != 0)), (wrap64 (x11_2 + 1)), (by first | rfl | (simp; done) | (simp [*]; done) | (simp; exact beq_not_bne _ _)), (by first | rfl | (simp; done) | (simp [*]; done)), (by first | rfl | (simp; done) | (simp [*]; done)), H', ⟨by have := HK1.out; have := HK2.out; omega⟩, ⟨by (with_reducible repeat (first | apply Kd.R_alloc | apply Kd.R_drewN | apply Kd.R_drew)); exact HO_7.out⟩, ⟨by repeat (first | (with_reducible first | exact HB.out | apply below_alloc | apply pw_below_drewN | apply below_drew1) | exact HB.out)⟩⟩
                      · rw [if_neg c11] at H
                        exact absurd H (by simp)
                    · replace c10 := Bool.eq_false_iff.mpr c10
                      subst c10
                      have H1 : (drovewayref04_Least.l1 k2 a0 l1 x7_1 x8_1 true false (wrap64 (x11_2 + 1))) = some (r1, r2) := by rw [if_neg (show ¬ (false = true) by decide)] at H; exact H
                      clear H
                      have H := H1
                      clear H1
                      have H' := Aside0.mk H
                      clear H
                      go_wp2
                      go_roundg k2
                      case measure => have := HK1.out; have := HK2.out; omega
                      case rel => exact ⟨(true), (false), (wrap64 (x11_2 + 1)), (by first | rfl | (simp; done) | (simp [*]; done) | (simp; exact beq_not_bne _ _)), (by first | rfl | (simp; done) | (simp [*]; done)), (by first | rfl | (simp; done) | (simp [*]; done)), H', ⟨by have := HK1.out; have := HK2.out; omega⟩, ⟨by (with_reducible repeat (first | apply Kd.R_alloc | apply Kd.R_drewN | apply Kd.R_drew)); exact HO_7.out⟩, ⟨by repeat (first | (with_reducible first | exact HB.out | apply below_alloc | apply pw_below_drewN | apply below_drew1) | exact HB.out)⟩⟩
                  · replace c9 := Bool.eq_false_iff.mpr c9
                    subst c9
                    have H1 : (if 0 ≤ x11_2 then (if x10_2 = true then (if (rd l1 x11_2) = x8_1 then (drovewayref04_Least.l1 k2 a0 l1 x7_1 x8_1 ((rd l1 x11_2) == x8_1) true (wrap64 (x11_2 + 1))) else (drovewayref04_Least.l1 k2 a0 l1 x7_1 x8_1 ((rd l1 x11_2) == x8_1) ((Go.bits .andNot .i64 (rd l1 x11_2) x8_1) != 0) (wrap64 (x11_2 + 1)))) else (drovewayref04_Least.l1 k2 a0 l1 x7_1 x8_1 ((rd l1 x11_2) == x8_1) false (wrap64 (x11_2 + 1)))) else (none)) = some (r1, r2) := by rw [if_neg (show ¬ (false = true) by decide)] at H; exact H
                    clear H
                    have H := H1
                    clear H1
                    by_cases c13 : 0 ≤ x11_2
                    · rw [if_pos c13] at H
                      have c13b0 : decide (0 ≤ x11_2) = true := decide_eq_true c13
                      clear c13
                      by_cases c14 : x10_2 = true
                      · subst c14
                        have H1 : (if (rd l1 x11_2) = x8_1 then (drovewayref04_Least.l1 k2 a0 l1 x7_1 x8_1 ((rd l1 x11_2) == x8_1) true (wrap64 (x11_2 + 1))) else (drovewayref04_Least.l1 k2 a0 l1 x7_1 x8_1 ((rd l1 x11_2) == x8_1) ((Go.bits .andNot .i64 (rd l1 x11_2) x8_1) != 0) (wrap64 (x11_2 + 1)))) = some (r1, r2) := by rw [if_pos rfl] at H; exact H
                        clear H
                        have H := H1
                        clear H1
                        by_cases c15 : (rd l1 x11_2) = x8_1
                        · rw [if_pos c15] at H
                          have c15b0 : ((rd l1 x11_2) == x8_1) = true := beq_iff_eq.mpr c15
                          have c15b1 : ((rd l1 x11_2) != x8_1) = false := bne_eq_false_iff_eq.mpr c15
                          clear c15
                          have H' := Aside0.mk H
                          clear H
                          have p108 : 0 ≤ (x11_2 : Int) := of_decide_eq_true (by first | (with_reducible assumption) | assumption)
                          have q108 : x11_2 < (l1.length : Int) := of_decide_eq_true (by first | (with_reducible assumption) | assumption)
                          obtain ⟨ad108, e108, hx108_0⟩ := Kd.at_int HR1.out x11_2 p108 q108
                          cases e108
                          replace hx108_0 := (HB.out.cell (World.block_lt_of_cell? w _ hx108_0)).trans hx108_0
                          replace p108 := eq_true p108
                          replace q108 := eq_true q108
                          have p109 : 0 ≤ (x11_2 : Int) := of_decide_eq_true (by first | (with_reducible assumption) | assumption)
                          have q109 : x11_2 < (l1.length : Int) := of_decide_eq_true (by first | (with_reducible assumption) | assumption)
                          obtain ⟨ad109, e109, hx109_0⟩ := Kd.at_int HR1.out x11_2 p109 q109
                          obtain rfl : ad108 = ad109 := (by injection e109)
                          replace hx109_0 := (HB.out.cell (World.block_lt_of_cell? w _ hx109_0)).trans hx109_0
                          replace p109 := eq_true p109
                          replace q109 := eq_true q109
                          go_wp2
                          go_roundg k2
                          case measure => have := HK1.out; have := HK2.out; omega
                          case rel => exact ⟨(((rd l1 x11_2) == x8_1)), (true), (wrap64 (x11_2 + 1)), (by first | rfl | (simp; done) | (simp [*]; done) | (simp; exact beq_not_bne _ _)), (by first | rfl | (simp; done) | (simp [*]; done)), (by first | rfl | (simp; done) | (simp [*]; done)), H', ⟨by have := HK1.out; have := HK2.out; omega⟩, ⟨by (with_reducible repeat (first | apply Kd.R_alloc | apply Kd.R_drewN | apply Kd.R_drew)); exact HO_7.out⟩, ⟨by repeat (first | (with_reducible first | exact HB.out | apply below_alloc | apply pw_below_drewN | apply below_drew1) | exact HB.out)⟩⟩
                        · rw [if_neg c15] at H
                          have c15b0 : ((rd l1 x11_2) == x8_1) = false := beq_eq_false_iff_ne.mpr c15
                          have c15b1 : ((rd l1 x11_2) != x8_1) = true := bne_iff_ne.mpr c15
                          have H' := Aside0.mk H
                          clear H
                          have p108 : 0 ≤ (x11_2 : Int) := of_decide_eq_true (by first | (with_reducible assumption) | assumption)
                          have q108 : x11_2 < (l1.length : Int) := of_decide_eq_true (by first | (with_reducible assumption) | assumption)
                          obtain ⟨ad108, e108, hx108_0⟩ := Kd.at_int HR1.out x11_2 p108 q108
                          cases e108
                          replace hx108_0 := (HB.out.cell (World.block_lt_of_cell? w _ hx108_0)).trans hx108_0
                          replace p108 := eq_true p108
                          replace q108 := eq_true q108
                          have p109 : 0 ≤ (x11_2 : Int) := of_decide_eq_true (by first | (with_reducible assumption) | assumption)
                          have q109 : x11_2 < (l1.length : Int) := of_decide_eq_true (by first | (with_reducible assumption) | assumption)
                          obtain ⟨ad109, e109, hx109_0⟩ := Kd.at_int HR1.out x11_2 p109 q109
                          obtain rfl : ad108 = ad109 := (by injection e109)
                          replace hx109_0 := (HB.out.cell (World.block_lt_of_cell? w _ hx109_0)).trans hx109_0
                          replace p109 := eq_true p109
                          replace q109 := eq_true q109
                          have p110 : 0 ≤ (x11_2 : Int) := of_decide_eq_true (by first | (with_reducible assumption) | assumption)
                          have q110 : x11_2 < (l1.length : Int) := of_decide_eq_true (by first | (with_reducible assumption) | assumption)
                          obtain ⟨ad110, e110, hx110_0⟩ := Kd.at_int HR1.out x11_2 p110 q110
                          obtain rfl : ad108 = ad110 := (by injection e110)
                          replace hx110_0 := (HB.out.cell (World.block_lt_of_cell? w _ hx110_0)).trans hx110_0
                          replace p110 := eq_true p110
                          replace q110 := eq_true q110
                          go_wp2
                          go_roundg k2
                          case measure => have := HK1.out; have := HK2.out; omega
                          case rel => exact ⟨(((rd l1 x11_2) == x8_1)), (((Go.bits .andNot .i64 (rd l1 x11_2) x8_1) != 0)), (wrap64 (x11_2 + 1)), (by first | rfl | (simp; done) | (simp [*]; done) | (simp; exact beq_not_bne _ _)), (by first | rfl | (simp; done) | (simp [*]; done)), (by first | rfl | (simp; done) | (simp [*]; done)), H', ⟨by have := HK1.out; have := HK2.out; omega⟩, ⟨by (with_reducible repeat (first | apply Kd.R_alloc | apply Kd.R_drewN | apply Kd.R_drew)); exact HO_7.out⟩, ⟨by repeat (first | (with_reducible first | exact HB.out | apply below_alloc | apply pw_below_drewN | apply below_drew1) | exact HB.out)⟩⟩
                      · replace c14 := Bool.eq_false_iff.mpr c14
                        subst c14
                        have H1 : (drovewayref04_Least.l1 k2 a0 l1 x7_1 x8_1 ((rd l1 x11_2) == x8_1) false (wrap64 (x11_2 + 1))) = some (r1, r2) := by rw [if_neg (show ¬ (false = true) by decide)] at H; exact H
                        clear H
                        have H := H1
                        clear H1
                        have H' := Aside0.mk H
                        clear H
                        have p108 : 0 ≤ (x11_2 : Int) := of_decide_eq_true (by first | (with_reducible assumption) | assumption)
                        have q108 : x11_2 < (l1.length : Int) := of_decide_eq_true (by first | (with_reducible assumption) | assumption)
                        obtain ⟨ad108, e108, hx108_0⟩ := Kd.at_int HR1.out x11_2 p108 q108
                        cases e108
                        replace hx108_0 := (HB.out.cell (World.block_lt_of_cell? w _ hx108_0)).trans hx108_0
                        replace p108 := eq_true p108
                        replace q108 := eq_true q108
                        go_wp2
                        go_roundg k2
                        case measure => have := HK1.out; have := HK2.out; omega
                        case rel => exact ⟨(((rd l1 x11_2) == x8_1)), (false), (wrap64 (x11_2 + 1)), (by first | rfl | (simp; done) | (simp [*]; done) | (simp; exact beq_not_bne _ _)), (by first | rfl | (simp; done) | (simp [*]; done)), (by first | rfl | (simp; done) | (simp [*]; done)), H', ⟨by have := HK1.out; have := HK2.out; omega⟩, ⟨by (with_reducible repeat (first | apply Kd.R_alloc | apply Kd.R_drewN | apply Kd.R_drew)); exact HO_7.out⟩, ⟨by repeat (first | (with_reducible first | exact HB.out | apply below_alloc | apply pw_below_drewN | apply below_drew1) | exact HB.out)⟩⟩
                    · rw [if_neg c13] at H
                      exact absurd H (by simp)
                · rw [if_neg c8] at H
                  have c8b0 : decide (x11_2 < (l1.length : Int)) = false := decide_eq_false c8
                  clear c8
                  by_cases c16 : x9_2 = true
                  · subst c16
                    have H1 : (if x10_2 = true then (if x7_1.length < 17592186044416 then (drovewayref04_Least.l0 k2 a0 l1 (x7_1 ++ [x8_1]) (wrap64 (x8_1 + 1))) else (none)) else (drovewayref04_Least.l0 k2 a0 l1 x7_1 (wrap64 (x8_1 + 1)))) = some (r1, r2) := by rw [if_pos rfl] at H; exact H
                    clear H
                    have H := H1
                    clear H1
                    by_cases c17 : x10_2 = true
                    · subst c17
                      have H1 : (if x7_1.length < 17592186044416 then (drovewayref04_Least.l0 k2 a0 l1 (x7_1 ++ [x8_1]) (wrap64 (x8_1 + 1))) else (none)) = some (r1, r2) := by rw [if_pos rfl] at H; exact H
                      clear H
                      have H := H1
                      clear H1
                      by_cases c18 : x7_1.length < 17592186044416
                      · rw [if_pos c18] at H
                        have LMc18 := Aside0.mk c18
                        clear c18
                        obtain ⟨y111, hy111⟩ : ∃ y_ : List Int, y_ = (x7_1 ++ [x8_1]) := ⟨_, rfl⟩
                        replace H : (drovewayref04_Least.l0 k2 a0 l1 y111 (wrap64 (x8_1 + 1))) = some (r1, r2) := by first | (rw [hy111]; with_reducible exact H) | (have H2_ := (Option.bind_some _ _).symm.trans H; rw [hy111]; with_reducible exact H2_) | (have H2_ := (Option.bind_some _ _).symm.trans H; with_reducible exact H2_) | with_reducible exact H | (rw [hy111]; exact H) | exact H
                        have Ny111 := Aside0.mk hy111
                        clear hy111
                        have H' := Aside0.mk H
                        clear H
                        go_wp2_with (first | ((with_reducible refine gate_builtin (b := .append) (xs := #[.tmp 61, .tmp 63]) rfl ?_); at_builtin; refine Kd.R_append (Kd.int .i64) (w0 := w) w.heap.size rfl (.tmp 61) (.tmp 63) 22 3 (.int .i64 0) 8 rfl Try.underlying22 info3 rfl (by decide) (by omega) u7 x7_1 x8_1 [.int .i64 x8_1] (fun _ => True) (fun _ => False) rfl rfl ?aP (fun _ hk => hk.elim) ?aF ?aO ?aB ?aS ?aL ?_; (case aP => exact rfl); (case aB => exact (by repeat (first | (with_reducible first | exact HB.out | apply below_alloc | apply pw_below_drewN | apply below_drew1) | exact HB.out))); (case aF => exact (fun _ _ => trivial)); (case aO => exact (by (with_reducible repeat (first | apply Kd.R_alloc | apply Kd.R_drewN | apply Kd.R_drew)); exact HO_7.out)); (case aS => exact (below_size (by repeat (first | (with_reducible first | exact HB.out | apply below_alloc | apply pw_below_drewN | apply below_drew1) | exact HB.out)))); (case aL => have := LMc18.out; omega); intro v112 w19 ho hb hg hat; rw [← Ny111.out] at ho; have n0_ := Aside0.mk (hb); have n1_ := Aside0.mk (ho); clear HB; clear HO_7; have HB := n0_; have HO113 := n1_; clear n0_ n1_; clear ho hb hg hat))
                        go_roundg k2
                        case measure => have := HK1.out; have := HK2.out; omega
                        case rel => exact ⟨(y111), (wrap64 (x8_1 + 1)), (by first | rfl | (simp; done) | (simp [*]; done) | (simp; exact beq_not_bne _ _)), H', ⟨by have := HK1.out; have := HK2.out; omega⟩, ⟨by (with_reducible repeat (first | apply Kd.R_alloc | apply Kd.R_drewN | apply Kd.R_drew)); exact HO113.out⟩, ⟨by repeat (first | (with_reducible first | exact HB.out | apply below_alloc | apply pw_below_drewN | apply below_drew1) | exact HB.out)⟩⟩
                      · rw [if_neg c18] at H
                        exact absurd H (by simp)
                    · replace c17 := Bool.eq_false_iff.mpr c17
                      subst c17
                      have H1 : (drovewayref04_Least.l0 k2 a0 l1 x7_1 (wrap64 (x8_1 + 1))) = some (r1, r2) := by rw [if_neg (show ¬ (false = true) by decide)] at H; exact H
                      clear H
                      have H := H1
                      clear H1
                      have H' := Aside0.mk H
                      clear H
                      go_wp2
                      go_roundg k2
                      case measure => have := HK1.out; have := HK2.out; omega
                      case rel => exact ⟨(x7_1), (wrap64 (x8_1 + 1)), (by first | rfl | (simp; done) | (simp [*]; done) | (simp; exact beq_not_bne _ _)), H', ⟨by have := HK1.out; have := HK2.out; omega⟩, ⟨by (with_reducible repeat (first | apply Kd.R_alloc | apply Kd.R_drewN | apply Kd.R_drew)); exact HO_7.out⟩, ⟨by repeat (first | (with_reducible first | exact HB.out | apply below_alloc | apply pw_below_drewN | apply below_drew1) | exact HB.out)⟩⟩
                  · replace c16 := Bool.eq_false_iff.mpr c16
                    subst c16
                    have H1 : (drovewayref04_Least.l0 k2 a0 l1 x7_1 (wrap64 (x8_1 + 1))) = some (r1, r2) := by rw [if_neg (show ¬ (false = true) by decide)] at H; exact H
                    clear H
                    have H := H1
                    clear H1
                    have H' := Aside0.mk H
                    clear H
                    go_wp2
                    go_roundg k2
                    case measure => have := HK1.out; have := HK2.out; omega
                    case rel => exact ⟨(x7_1), (wrap64 (x8_1 + 1)), (by first | rfl | (simp; done) | (simp [*]; done) | (simp; exact beq_not_bne _ _)), H', ⟨by have := HK1.out; have := HK2.out; omega⟩, ⟨by (with_reducible repeat (first | apply Kd.R_alloc | apply Kd.R_drewN | apply Kd.R_drew)); exact HO_7.out⟩, ⟨by repeat (first | (with_reducible first | exact HB.out | apply below_alloc | apply pw_below_drewN | apply below_drew1) | exact HB.out)⟩⟩
          · rw [if_neg c7] at H
            have c7b0 : decide (x8_1 < (ji6)) = false := decide_eq_false c7
            clear c7
            simp only [Option.some.injEq, Prod.mk.injEq] at H
            obtain ⟨rfl, rfl⟩ := H
            go_wp2
            go_ret2
            exact ⟨_, by first | rfl | (simp [errW_none, errW_some] <;> rfl) | (simp only [← hji6]; first | rfl | (simp [errW_none, errW_some] <;> rfl)) | (simp [*, errW_none, errW_some] <;> rfl), by (with_reducible repeat (first | apply Kd.R_alloc | apply Kd.R_drewN | apply Kd.R_drew)); exact HO_7.out, by repeat (first | (with_reducible first | exact HB.out | apply below_alloc | apply pw_below_drewN | apply below_drew1) | exact HB.out)⟩
        · rw [if_neg c5] at H
          exact absurd H (by simp)
  · rw [if_neg c4] at H
    have c4b0 : (t105 == 0) = false := beq_eq_false_iff_ne.mpr c4
    have c4b1 : (t105 != 0) = true := bne_iff_ne.mpr c4
    simp only [Option.some.injEq, Prod.mk.injEq] at H
    obtain ⟨rfl, rfl⟩ := H
    go_enter Try.func37, Try.ntmps37
    go_wp2_with (first | ((with_reducible refine gate_callee (f := 17) rfl ?_); refine goesL_ (some 14) rfl rfl Try.func17 (by kernel_rfl) rfl #[.int .i64 a0, .slice A1 l1.length c1] rfl (by (try simp only [List.map_toArray, List.map_cons, List.map_nil]); first | done | rfl | (simp only [List.length_drop, List.length_take]; rfl)) ?_; (with_reducible refine (drovewayref04_Field.calls k a0 _ _ l1 t105 _ ?side1 ?side2 A3.out).mono ?_); (case side1 => repeat (first | exact HR1.out | (with_reducible refine Kd.C_alloc ?_ _) | (with_reducible refine Kd.C_drewN ?_ _) | (with_reducible refine Kd.C_drew ?_))); (case side2 => exact HC1.out); rintro e w' ⟨rfl, ⟨nd, rfl⟩⟩; refine ⟨_, rfl, ?_⟩))
    go_ret2
    exact ⟨_, by first | rfl | (simp [errW_none, errW_some] <;> rfl) | (simp [*, errW_none, errW_some] <;> rfl), by first | exact Kd.R_nil _ _ _ _ _ | exact Kd.N_nil _ _ _ _ _ | exact Kd.V_nil _ _ _ _ _ | exact Kd.Q_nil _ _ _ _ _ | exact Kd.S_nil _ _ _ _ _, by repeat (first | (with_reducible first | exact HB.out | apply below_alloc | apply pw_below_drewN | apply below_drew1) | exact HB.out)⟩

end Go.Proofs.Ytbjpjjokamaliaa.PAmbushGuards
