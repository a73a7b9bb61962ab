/- breed.Build, Knot, Joined. -/
import Derived.Test.YtdbbcngmnpejnaaDoorZCl1
import Derived.Lib.SliceRun
import Derived.Test.YtdbbcngmnpejnaaDoorProg
import Derived.Below
import Derived.Deep.Draws
import Derived.Deep.AppendLies
import Derived.Maps.AppendAt
import Derived.OwnWalk
import Derived.Laws.BytesArg
import Derived.Laws.MakeOwn
import Derived.Laws.OwnMore
import Derived.Deep.OwnRows
import Derived.Tactics
import Derived.Lib.ConvBytes
import Derived.Laws.Slices
import Derived.WalkKit
import Derived.KernelRfl
import Derived.RowKit3
import Derived.Deep.LoopGhost
import Derived.Deep.QuietTactic
import Derived.BigQuiet
import Derived.WideLaws
import Derived.Deep.DeepCutAuto
import Derived.Deep.CutBlock
import Derived.Deep.RegionHeld3
import Derived.Laws.Rows
import Derived.Lib.AppendStr
import Derived.ArgAppend
import Derived.Laws.IdiomCopy
import Derived.OrdersHeld
import Derived.Laws.BitsLemmas
import Derived.RowKit
import Derived.Test.YtdbbcngmnpejnaaDoorWWords
import Derived.Test.YtdbbcngmnpejnaaDoorWLast
import Derived.Test.YtdbbcngmnpejnaaDoorWTab
import Derived.Test.YtdbbcngmnpejnaaDoorWRepsOne
import Derived.Test.YtdbbcngmnpejnaaDoorWGuard
/- breed.Build, Knot, Joined. -/
namespace Go.Proofs.YtdbbcngmnpejnaaDoor.B
open Go.Proofs.YtdbbcngmnpejnaaDoor.A
open Go.RowKit Go.Proofs.YtdbbcngmnpejnaaDoorW.PrintWords Go.Proofs.YtdbbcngmnpejnaaDoorW.PrintMore
theorem pow_256 {m : Nat} (h : m ≤ 8) : 2 ^ m ≤ 256 := Nat.pow_le_pow_right (n := 2) (by decide) h
theorem wrap_pow {m : Nat} (h : m ≤ 8) : IntKind.i64.wrap (2 ^ m) = ((2 ^ m : Nat) : Int) := by
  rw [two_cast]
  have := pow_256 h
  generalize 2 ^ m = N at *
  exact wrap64_nat _ (by omega) (by omega)
theorem wrap64_pow {m : Nat} (h : m ≤ 8) : wrap64 (2 ^ m) = ((2 ^ m : Nat) : Int) := by
  rw [two_cast]
  have := pow_256 h
  generalize 2 ^ m = N at *
  unfold wrap64
  omega
theorem errne {E : Int} (h : E ≠ 0) : (E == 0) = false ∧ (E != 0) = true := ⟨by rw [beq_eq_false_iff_ne]; exact h, by rw [bne_iff_ne]; exact h⟩
def buildE (n : Int) (l : List S44) : ByteArray × Int := if askE n l = 0 then (match buildF l 9 (2 ^ n.toNat - 1) with | some t => (strB t.text, 0) | none => (⟨#[]⟩, 10)) else (⟨#[]⟩, askE n l)

set_option maxRecDepth 100000 in
set_option maxHeartbeats 1600000 in
theorem Build_calls (n : Int) (A : Option Addr) (c : Nat) (l : List S44) (W : World) (hr : Kd.C k44 W A l.length l) (hc : l.length ≤ c) (hT : TabAt W) :
    Calls Tryd.prog 17 #[.int .i64 n, .slice A l.length c] W fun e w' => e = .returned (.tuple #[.string (buildE n l).1, .int .i64 (buildE n l).2]) ∧ Below W.heap.size W w' := by
  have HA := Aside0.mk (asked_calls n A c l W hr hc)
  have HR := Aside0.mk hr
  have HT := Aside0.mk hT
  obtain ⟨Z, hZ⟩ : ∃ Z, buildE n l = Z := ⟨_, rfl⟩
  rw [hZ]
  unfold buildE at hZ
  by_cases h0 : askE n l = 0
  · rw [if_pos h0] at hZ
    rw [h0] at HA
    obtain ⟨hn, hl, hok⟩ := askE_zero h0
    obtain ⟨m, rfl⟩ : ∃ m : Nat, n = m := ⟨n.toNat, by omega⟩
    rw [Int.toNat_natCast] at hZ
    have hm8 : m ≤ 8 := by omega
    have h8 : ∀ t ∈ l, Tri8 t := fun t ht => okTri_8 (by omega) (hok t ht)
    have hp := pow_256 hm8
    have hp2 : 2 ≤ 2 ^ m := by
      obtain ⟨m', rfl⟩ : ∃ m', m = m' + 1 := ⟨m - 1, by omega⟩
      have := Nat.two_pow_pos m'
      rw [Nat.pow_succ]; omega
    have HB : Aside0 (∀ w1, Below W.heap.size W w1 → Calls Tryd.prog 44 #[.slice A l.length c, .int .i64 ((2 ^ m - 1 : Nat) : Int)] w1 (TreePost (buildF l 9 (2 ^ m - 1)) w1)) := ⟨fun w1 hb => build_calls A c l h8 (by omega) 9 (2 ^ m - 1) w1 (by omega) (by omega) (by have := pcN_le (2 ^ m - 1) 8; omega) (Kd.C_below HR.out hb) (HT.out.next hb)⟩
    have hw1 := wrap_pow hm8
    have hw2 := wrap64_pow hm8
    have hs : ((2 ^ m - 1 : Nat) : Int) = ((2 ^ m : Nat) : Int) - 1 := by omega
    rw [hs] at HB
    have hZG : ∀ t, buildF l 9 (2 ^ m - 1) = some t → t.Good := fun t h => (build_good h8 9 _ t (by omega) (by omega) h).1
    have hpb : 2 ≤ ((2 ^ m : Nat) : Int) ∧ ((2 ^ m : Nat) : Int) ≤ 256 := by omega
    generalize ((2 ^ m : Nat) : Int) = P at HB hw1 hw2 hpb
    obtain ⟨len, hlen⟩ : ∃ len, l.length = len := ⟨_, rfl⟩
    rw [hlen] at HA HB ⊢
    have HL := Aside0.mk hlen
    clear hr hc hT hn hl hok h8 hlen hs
    cases hb : buildF l 9 (2 ^ m - 1) with
    | none =>
      rw [hb] at hZ HB
      subst hZ
      have HB2 : Aside0 (∀ w1, Below W.heap.size W w1 → Calls Tryd.prog 44 #[.slice A len c, .int .i64 (P - 1)] w1 fun e w' => e = .returned .nilIface ∧ Below w1.heap.size w1 w') := ⟨fun w1 h => (HB.out w1 h).mono (by
        rintro e w' ⟨⟨_, rfl⟩ | ⟨t, v, h, _⟩, hb⟩
        · exact ⟨rfl, hb⟩
        · cases h)⟩
      clear HB hb hp hp2
      go_enter Tryd.func17, Tryd.ntmps17
      go_wp2_with (first
        | (go_at_call 43; go_must (refine HA.out.mono ?_; rintro e w1 ⟨rfl, hb1⟩; have HB1 := Aside0.mk hb1; clear hb1))
        | (go_at_call 44; go_must (refine (HB2.out _ HB1.out).mono ?_; rintro e w2 ⟨rfl, hb2⟩; have HB3 := Aside0.mk (below_then HB1.out HB1.out.size hb2); clear hb2)))
      go_ret2
      exact ⟨rfl, HB3.out⟩
    | some t =>
      rw [hb] at hZ HB
      subst hZ
      have HG := Aside0.mk (hZG t hb)
      have HB2 : Aside0 (∀ w1, Below W.heap.size W w1 → Calls Tryd.prog 44 #[.slice A len c, .int .i64 (P - 1)] w1 fun e w' => ∃ v, e = .returned v ∧ TrV w' (fun b => w1.heap.size ≤ b) v t ∧ Below w1.heap.size w1 w') := ⟨fun w1 h => (HB.out w1 h).mono (by
        rintro e w' ⟨⟨h, _⟩ | ⟨t', v, h, rfl, ht⟩, hb⟩
        · cases h
        · cases h; exact ⟨v, rfl, ht, hb⟩)⟩
      clear HB hb hp hp2 hZG
      show Calls _ _ _ _ fun e w' => e = .returned (.tuple #[.string (strB t.text), .int .i64 0]) ∧ Below W.heap.size W w'
      go_enter Tryd.func17, Tryd.ntmps17
      go_wp2_with (first
        | (go_at_call 43; go_must (refine HA.out.mono ?_; rintro e w1 ⟨rfl, hb1⟩; have HB1 := Aside0.mk hb1; clear hb1))
        | (go_at_call 44; go_must (refine (HB2.out _ HB1.out).mono ?_; rintro e w2 ⟨v2, rfl, htv, hb2⟩; have HB3 := Aside0.mk (below_then HB1.out HB1.out.size hb2); obtain ⟨T, u, K, rfl, hmt, hen, hcall⟩ := text_calls t HG.out _ v2 w2 htv; have HC := Aside0.mk (hcall w2 (Below.refl _ _) (HT.out.next HB3.out)); clear htv hb2 hcall))
        | (go_at_fn K; go_must (refine HC.out.mono ?_; rintro e w3 ⟨rfl, hb3⟩; have HB4 := Aside0.mk (below_then HB3.out HB3.out.size hb3); clear hb3)))
      go_ret2
      exact ⟨rfl, HB4.out⟩
  · rw [if_neg h0] at hZ
    subst hZ
    obtain ⟨e1, e2⟩ := errne h0
    generalize askE n l = E at *
    clear hr hc hT h0
    go_enter Tryd.func17, Tryd.ntmps17
    go_wp2_with (go_at_call 43; go_must (refine HA.out.mono ?_; rintro e w1 ⟨rfl, hb1⟩; have HB1 := Aside0.mk hb1; clear hb1))
    go_ret2
    exact ⟨rfl, HB1.out⟩

/-! ### Knot -/
def knotB (l : List S44) (s : Nat) : Bool := decide (2 < pcN s 8) && decide ((partsF l s).length = 1)
/-- The first set from s on (d of them) that hangs together. -/
def knotF (l : List S44) : Nat → Nat → Option Nat
  | 0, _ => none
  | d + 1, s => if knotB l s = true then some s else knotF l d (s + 1)
def knotE (n : Int) (l : List S44) : Int × Int := if askE n l = 0 then (match knotF l (2 ^ n.toNat) 0 with | some s => ((s : Int), 0) | none => (0, 10)) else (0, askE n l)
theorem joinedF_len (l : List S44) (s : Nat) : (joinedF l s).length = (partsF l s).length := by
  unfold joinedF partsF
  rw [List.length_mergeSort, List.length_map]

set_option maxRecDepth 100000 in
set_option maxHeartbeats 3200000 in
theorem Knot_calls (n : Int) (A : Option Addr) (c : Nat) (l : List S44) (W : World) (hr : Kd.C k44 W A l.length l) (hc : l.length ≤ c) :
    Calls Tryd.prog 19 #[.int .i64 n, .slice A l.length c] W fun e w' => e = .returned (.tuple #[.int .i64 (knotE n l).1, .int .i64 (knotE n l).2]) ∧ Below W.heap.size W w' := by
  have HA := Aside0.mk (asked_calls n A c l W hr hc)
  have HR := Aside0.mk hr
  obtain ⟨Z, hZ⟩ : ∃ Z, knotE n l = Z := ⟨_, rfl⟩
  rw [hZ]
  unfold knotE at hZ
  by_cases h0 : askE n l = 0
  · rw [if_pos h0] at hZ
    rw [h0] at HA
    obtain ⟨hn, hl, hok⟩ := askE_zero h0
    obtain ⟨m, rfl⟩ : ∃ m : Nat, n = m := ⟨n.toNat, by omega⟩
    rw [Int.toNat_natCast] at hZ
    have hm8 : m ≤ 8 := by omega
    have h8 : ∀ t ∈ l, Tri8 t := fun t ht => okTri_8 (by omega) (hok t ht)
    have hp := pow_256 hm8
    have HJ : Aside0 (∀ (s : Nat) w1, s < 256 → Below W.heap.size W w1 → Calls Tryd.prog 48 #[.slice A l.length c, .int .i64 (s : Int)] w1 fun e w' => ∃ v, e = .returned v ∧ Kd.R (Kd.int .i64) 3 w' w1.heap.size (fun _ => True) v (joinedF l s) ∧ Below w1.heap.size w1 w') := ⟨fun s w1 hs hb => joined_calls A c l s hs h8 (by omega) w1 (Kd.C_below HR.out hb)⟩
    have hw1 := wrap_pow hm8
    have hw2 := wrap64_pow hm8
    generalize 2 ^ m = N at hp hw1 hw2 hZ
    obtain ⟨len, hlen⟩ : ∃ len, l.length = len := ⟨_, rfl⟩
    rw [hlen] at HA HJ ⊢
    clear hr hc hn hl hok h8 hlen
    have HZ := Aside0.mk hZ
    clear hZ
    go_enter Tryd.func19, Tryd.ntmps19
    go_upto_region 5 with (go_at_call 43; go_must (refine HA.out.mono ?_; rintro e w1 ⟨rfl, hb1⟩; have HB1 := Aside0.mk hb1; clear hb1))
    go_loopg [7, 16] N (fun gg _ v16 wr => ∃ k : Nat, k ≤ N ∧ N - k ≤ gg ∧ v16 = .int .i64 (k : Int) ∧ Aside0 ((match knotF l (N - k) k with | some s => ((s : Int), (0 : Int)) | none => (0, 10)) = Z) ∧ Aside0 (Below W.heap.size W wr))
    case atStart => exact ⟨0, Nat.zero_le _, by omega, rfl, HZ, HB1⟩
    case round =>
      clear HZ HB1
      obtain ⟨k, hk, hgg, rfl, HZ, HB⟩ := hrel
      by_cases hkn : k < N
      · have hkz : (k : Int) < (N : Int) := by omega
        have hk8 : k < 256 := by omega
        have hwk : IntKind.u64.wrap (k : Int) = (k : Int) := by rw [IntKind.wrap_u64]; omega
        have HK : Aside0 (knotF l (N - k) k = if knotB l k = true then some k else knotF l (N - (k + 1)) (k + 1)) := ⟨by rw [show N - k = (N - (k + 1)) + 1 by omega, knotF]⟩
        have HO : Aside0 (Calls Tryd.prog 47 #[.int .u64 (k : Int)] wr fun e w' => e = .returned (.int .i64 (pcN k 8)) ∧ Below wr.heap.size wr w') := ⟨ones_calls k hk8 wr⟩
        have hpk := pcN_le k 8
        have HKB : Aside0 (knotB l k = (decide (2 < pcN k 8) && decide ((partsF l k).length = 1))) := ⟨rfl⟩
        generalize pcN k 8 = pk at HO hpk HKB
        by_cases h2 : 2 < pk
        · have h2z : (2 : Int) < (pk : Int) := by omega
          have HJL := Aside0.mk (joinedF_len l k)
          by_cases h3 : (partsF l k).length = 1
          · have HZ2 : Aside0 (((k : Int), (0 : Int)) = Z) := ⟨by have := HZ.out; rwa [HK.out, HKB.out, decide_eq_true h2, decide_eq_true h3, Bool.and_true, if_pos rfl] at this⟩
            have hj1 : (joinedF l k).length = 1 := by rw [HJL.out, h3]
            clear h2 h3 HKB HK HZ HJL
            go_upto_region 8 with (first
              | (go_at_call 47; go_must (refine HO.out.mono ?_; rintro e w3 ⟨rfl, hb3⟩; have HB3 := Aside0.mk (below_then HB.out HB.out.size hb3); clear hb3))
              | (go_at_call 48; go_must (refine (HJ.out k _ hk8 HB3.out).mono ?_; rintro e w4 ⟨v4, rfl, hR4, hb4⟩; obtain ⟨A4, c4, rfl, _, _⟩ := Kd.R_reads hR4; have HB4 := Aside0.mk (below_then HB3.out HB3.out.size hb4); clear hR4 hb4)))
            go_wp2
            go_ret2
            exact ⟨by rw [← HZ2.out]; rfl, HB4.out⟩
          · have HZ2 : Aside0 ((match knotF l (N - (k + 1)) (k + 1) with | some s => ((s : Int), (0 : Int)) | none => (0, 10)) = Z) := ⟨by have := HZ.out; rwa [HK.out, HKB.out, decide_eq_false h3, Bool.and_false, if_neg Bool.false_ne_true] at this⟩
            have hj1 : (((joinedF l k).length : Int) == 1) = false := by rw [HJL.out, beq_eq_false_iff_ne]; omega
            clear h2 h3 HKB HK HZ HJL
            generalize hjl : (joinedF l k).length = jl at hj1
            go_wp2_with (first
              | (go_at_call 47; go_must (refine HO.out.mono ?_; rintro e w3 ⟨rfl, hb3⟩; have HB3 := Aside0.mk (below_then HB.out HB.out.size hb3); clear hb3))
              | (go_at_call 48; go_must (refine (HJ.out k _ hk8 HB3.out).mono ?_; rintro e w4 ⟨v4, rfl, hR4, hb4⟩; obtain ⟨A4, c4, rfl, _, _⟩ := Kd.R_reads hR4; rw [hjl]; have HB4 := Aside0.mk (below_then HB3.out HB3.out.size hb4); clear hR4 hb4)))
            go_roundg (N - (k + 1))
            case measure => omega
            case rel => exact ⟨k + 1, by omega, by omega, by go_num, HZ2, HB4⟩
        · have h2z : ¬ (2 : Int) < (pk : Int) := by omega
          have HZ2 : Aside0 ((match knotF l (N - (k + 1)) (k + 1) with | some s => ((s : Int), (0 : Int)) | none => (0, 10)) = Z) := ⟨by have := HZ.out; rwa [HK.out, HKB.out, decide_eq_false h2, Bool.false_and, if_neg Bool.false_ne_true] at this⟩
          clear h2 HKB HK HZ
          go_wp2_with (go_at_call 47; go_must (refine HO.out.mono ?_; rintro e w3 ⟨rfl, hb3⟩; have HB3 := Aside0.mk (below_then HB.out HB.out.size hb3); clear hb3))
          go_roundg (N - (k + 1))
          case measure => omega
          case rel => exact ⟨k + 1, by omega, by omega, by go_num, HZ2, HB3⟩
      · have hkz : ¬ (k : Int) < (N : Int) := by omega
        have HZ2 : Aside0 (((0 : Int), (10 : Int)) = Z) := ⟨by have := HZ.out; rwa [show N - k = 0 by omega, knotF] at this⟩
        go_wp2
        go_ret2
        exact ⟨by rw [← HZ2.out]; rfl, HB.out⟩
  · rw [if_neg h0] at hZ
    subst hZ
    obtain ⟨e1, e2⟩ := errne h0
    generalize askE n l = E at *
    clear hr hc h0
    go_enter Tryd.func19, Tryd.ntmps19
    go_wp2_with (go_at_call 43; go_must (refine HA.out.mono ?_; rintro e w1 ⟨rfl, hb1⟩; have HB1 := Aside0.mk hb1; clear hb1))
    go_ret2
    exact ⟨rfl, HB1.out⟩
end Go.Proofs.YtdbbcngmnpejnaaDoor.B

/- The reader's tree, walked. (Unfinished: the loop has a sorry.) -/
namespace Go.Proofs.YtdbbcngmnpejnaaDoor.B
open Go.Proofs.YtdbbcngmnpejnaaDoor.A
open Go.RowKit Go.Proofs.YtdbbcngmnpejnaaDoorW.PrintWords Go.Proofs.YtdbbcngmnpejnaaDoorW.PrintMore
/-- What the reader hands back: a tree, and what is left; or it tells that all was not well. -/
def RdPost (Z : Option (BT × List UInt8)) (g : Nat) (W : World) (e : Ending) (w' : World) : Prop :=
  ((∃ t L' v, Z = some (t, L') ∧ e = .returned v ∧ TrV w' (fun b => W.heap.size ≤ b) v t ∧ RdAt w' g L' true) ∨
   (Z = none ∧ ∃ v, e = .returned v ∧ (v = .nilIface ∨ ∃ t, TrV w' (fun b => W.heap.size ≤ b) v t ∧ Small t) ∧ ∃ L', RdAt w' g L' false)) ∧ W.grownBy w' (some g)
def RdC (f : Nat) : Prop := ∀ (L : List UInt8) (g : Nat) (W : World), 2 * L.length + 1 ≤ f → RdAt W g L true → TabAt W → g ≠ 1 → Calls Tryd.prog 77 #[.pointer (some ⟨g, 0, none⟩)] W (RdPost (readP f L) g W)
theorem RdAt.cells {W : World} {g : Nat} {L : List UInt8} {b : Bool} (h : RdAt W g L b) : W.cell? ⟨g, 0, none⟩ = some (.string (strB L)) ∧ W.cell? ⟨g, 1, none⟩ = some (.bool b) ∧ W.frozen? ⟨g, 0, none⟩ = false ∧ W.frozen? ⟨g, 1, none⟩ = false := cells2 h
theorem RdAt.lt {W : World} {g : Nat} {L : List UInt8} {b : Bool} (h : RdAt W g L b) : g < W.heap.size := blk_lt h
/-- The reader's flag, put anew. -/
theorem RdAt.put {W : World} {g : Nat} {L : List UInt8} {b : Bool} (h : RdAt W g L b) (b' : Bool) : RdAt (W.setCell ⟨g, 1, none⟩ (.bool b')) g L b' ∧ W.grownBy (W.setCell ⟨g, 1, none⟩ (.bool b')) (some g) :=
  ⟨blk_set h 1 (.bool b'), ⟨rfl, rfl, rfl, by simp [World.setCell], fun k hk hne => Below.heap_setCell W ⟨g, 1, none⟩ _ k (fun e => hne (by rw [e]))⟩⟩

/-- Two steps that turn the reader's block alone. -/
theorem grown_row {W w6 w7 : World} {g : Nat} {row : Option Nat} (h : W.grownBy w6 (some g)) (k : w6.grownBy w7 row) (hrow : ∀ j, row = some j → W.heap.size ≤ j) : W.grownBy w7 (some g) :=
  ⟨k.os.trans h.os, k.tape.trans h.tape, k.output.trans h.output, Nat.le_trans h.size k.size, fun j hj hne => (k.block j (Nat.lt_of_lt_of_le hj h.size) (fun e => by have := hrow j e.symm; omega)).trans (h.block j hj hne)⟩
theorem grown_two {W w1 w2 : World} {g : Nat} (h : W.grownBy w1 (some g)) (k : w1.grownBy w2 (some g)) : W.grownBy w2 (some g) :=
  ⟨k.os.trans h.os, k.tape.trans h.tape, k.output.trans h.output, Nat.le_trans h.size k.size, fun j hj hne => (k.block j (Nat.lt_of_lt_of_le hj h.size) hne).trans (h.block j hj hne)⟩
set_option maxRecDepth 100000 in
set_option maxHeartbeats 1600000 in
/-- A beast. -/
theorem rd_leaf (g : Nat) (c : UInt8) (L : List UInt8) (W : World) (h : RdAt W g (c :: L) true) (i : Nat) (hi : i < 8) (hc : c.toNat = 48 + i) : Calls Tryd.prog 77 #[.pointer (some ⟨g, 0, none⟩)] W (RdPost (some (.leaf i, L)) g W) := by
  have HT := Aside0.mk (take_calls g (c :: L) true W h)
  have hq : takeC (c :: L) = 48 + (i : Int) := by
    show ((c.toNat : Nat) : Int) = _
    omega
  rw [hq, show (true && !(c :: L).isEmpty) = true by simp, List.tail_cons] at HT
  have HI := Aside0.mk hi
  have h1 : (48 : Int) ≤ 48 + (i : Int) := by omega
  have h2 : 48 + (i : Int) ≤ 55 := by omega
  have hw := wrap_two hi
  have hw2 := wrap64_two hi
  have hsub : IntKind.u8.wrap (48 + (i : Int) - 48) = (i : Int) := by rw [IntKind.wrap_u8]; omega
  clear h hq hc
  go_enter Tryd.func77, Tryd.ntmps77
  go_wp2_with (go_at_call 84; go_must (refine HT.out.mono ?_; rintro e w1 ⟨rfl, hr1, hg1⟩; have HR1 := Aside0.mk hr1; have HG1 := Aside0.mk hg1; clear hr1 hg1))
  go_ret
  refine ⟨Or.inl ⟨_, _, _, rfl, rfl, trv_leaf.mpr ?_, HR1.out⟩, HG1.out⟩
  rw [← two_cast]
  rfl
/-- The loop's state: all is well, and some trees have been read; or not. -/
def LoopSt (f : Nat) (Z : Option (BT × List UInt8)) (g : Nat) (W wr : World) (vo : Value) (all : Nat) (left : Nat) : Prop :=
  (∃ (f' : Nat) (L : List UInt8) (xs : List TT), f' ≤ f ∧ 2 * L.length + 2 ≤ f' ∧ L.length + 1 ≤ left ∧ RdAt wr g L true ∧ kT.R 69 wr W.heap.size (fun b => b ≠ g) vo xs ∧ (∀ x ∈ xs, TOk wr (fun b => W.heap.size ≤ b ∧ some b ≠ vo.ownBlock ∧ b ≠ g) x) ∧ ReadL (xs.map (·.2)) all ∧ loopP f' (xs.map (·.2)) all L = Z) ∨
  (Z = none ∧ ∃ L, RdAt wr g L false)
set_option maxRecDepth 100000 in
set_option maxHeartbeats 1600000 in
/-- Nothing is left, or no tree begins there. -/
theorem rd_no (g : Nat) (L : List UInt8) (W : World) (h : RdAt W g L true) (b : Bool) (hb : (true && !L.isEmpty) = b) (q : Int) (hq : takeC L = q) (hd : q < 48 ∨ 55 < q) (h40 : b = true → q ≠ 40) : Calls Tryd.prog 77 #[.pointer (some ⟨g, 0, none⟩)] W (RdPost none g W) := by
  have HT := Aside0.mk (take_calls g L true W h)
  rw [hb, hq] at HT
  generalize L.tail = L2 at HT
  clear h hb hq
  have h48 : (48 ≤ q ∧ ¬ q ≤ 55) ∨ ¬ 48 ≤ q := by omega
  have hq40 : b = true → (q == 40) = false := fun h => by rw [beq_eq_false_iff_ne]; exact h40 h
  clear hd h40
  rcases h48 with ⟨h1, h2⟩ | h1 <;> cases b
  all_goals
    try have hz := hq40 rfl
    clear hq40
    go_enter Tryd.func77, Tryd.ntmps77
    go_upto_region 6 with (go_at_call 84; go_must (refine HT.out.mono ?_; rintro e w1 ⟨rfl, hr1, hg1⟩; have HR1 := Aside0.mk hr1; have HG1 := Aside0.mk hg1; clear hr1 hg1))
    obtain ⟨c0, c1, f0, f1⟩ := HR1.out.cells
    have HP := Aside0.mk (HR1.out.put false)
    go_upto_region 7 with fail
    clear c0 c1 f0 f1
    generalize w1.setCell ⟨g, 1, none⟩ (.bool false) = w2 at HP ⊢
    have HG2 := Aside0.mk (grown_two HG1.out HP.out.2)
    have HR2 := Aside0.mk HP.out.1
    go_loopg [4, 5, 6] 0 (fun gg _ _ _ wr => Aside0 (RdAt wr g L2 false) ∧ Aside0 (W.grownBy wr (some g)))
    case atStart => exact ⟨HR2, HG2⟩
    case round =>
      obtain ⟨HR3, HG3⟩ := hrel
      obtain ⟨d0, d1, _, _⟩ := HR3.out.cells
      go_wp2
      go_ret
      exact ⟨Or.inr ⟨rfl, _, rfl, Or.inl rfl, L2, HR3.out⟩, HG3.out⟩
set_option maxRecDepth 100000 in
set_option maxHeartbeats 3200000 in
/-- A family, from its bracket on. -/
theorem rd_fam (f : Nat) (IH : ∀ f', f' < f → RdC f') (g : Nat) (L : List UInt8) (W : World) (c : UInt8) (hc : c.toNat = 40) (h : RdAt W g (c :: L) true) (hT : TabAt W) (hg1 : g ≠ 1) (hf : 2 * L.length + 2 ≤ f) : Calls Tryd.prog 77 #[.pointer (some ⟨g, 0, none⟩)] W (RdPost (loopP f [] 0 L) g W) := by
  have HTK := Aside0.mk (take_calls g (c :: L) true W h)
  have hq : takeC (c :: L) = 40 := by
    show ((c.toNat : Nat) : Int) = _
    omega
  rw [hq, show (true && !(c :: L).isEmpty) = true by simp, List.tail_cons] at HTK
  have HT := Aside0.mk hT
  have HIH := Aside0.mk IH
  obtain ⟨Z, hZ⟩ : ∃ Z, loopP f [] 0 L = Z := ⟨_, rfl⟩
  rw [hZ]
  have HZ := Aside0.mk hZ
  have HF := Aside0.mk hf
  clear h hq hZ IH hT hc hf
  go_enter Tryd.func77, Tryd.ntmps77
  go_upto_region 6 with (go_at_call 84; go_must (refine HTK.out.mono ?_; rintro e w1 ⟨rfl, hr1, hg1⟩; have HR1 := Aside0.mk hr1; have HG1 := Aside0.mk hg1; clear hr1 hg1))
  obtain ⟨c0, c1, f0, f1⟩ := HR1.out.cells
  have HP := Aside0.mk (HR1.out.put true)
  go_upto_region 7 with fail
  clear c0 c1 f0 f1
  generalize w1.setCell ⟨g, 1, none⟩ (.bool true) = w2 at HP ⊢
  have HG2 := Aside0.mk (grown_two HG1.out HP.out.2)
  have HR2 := Aside0.mk HP.out.1
  clear HG1 HR1 HP
  go_loopg [4, 5, 6] (f + 1) (fun gg v4 v5 _ wr => ∃ (vo : Value) (all left : Nat), vo = v4 ∧ v5 = .int .i64 (all : Int) ∧ all < 256 ∧ left + 1 ≤ gg ∧ Aside0 (LoopSt f Z g W wr vo all left) ∧ Aside0 (W.grownBy wr (some g)))
  case atStart => exact ⟨_, 0, f, rfl, rfl, by decide, Nat.le_refl _, ⟨Or.inl ⟨f, L, [], Nat.le_refl _, HF.out, by have := HF.out; omega, HR2.out, Kd.R_nil _ _ _ _ _, fun x hx => (by cases hx), read_nil, HZ.out⟩⟩, HG2⟩
  case round =>
    clear HG2 HR2
    obtain ⟨vo, all, left, hvo, rfl, hall, hgg, HLS, HG⟩ := hrel
    subst hvo
    rcases HLS.out with ⟨f', L1, xs, hf1, hf2, hl1, hR, hV, hOK, hRD, hZ1⟩ | ⟨hZ1, L1, hR⟩
    · clear HLS
      obtain ⟨f2, rfl⟩ : ∃ f2, f' = f2 + 1 := ⟨f' - 1, by omega⟩
      have HR := Aside0.mk hR
      have HV := Aside0.mk hV
      have HOK := Aside0.mk hOK
      have HRD := Aside0.mk hRD
      have HXB : Aside0 (xs.length ≤ 8) := ⟨by
        have h := asc_len (m := 8) ((xs.map (·.2)).map fun k => low k.set) 0 (by rw [List.pairwise_map]; exact hRD.2.1.imp fun h => h.2) (fun y hy => by
          obtain ⟨k, hk, rfl⟩ := List.mem_map.mp hy
          exact ⟨Nat.zero_le _, low_lt (good_ne (hRD.1 k hk)) (good_256 (hRD.1 k hk))⟩) (by decide)
        rwa [List.length_map, List.length_map] at h⟩
      have HW8 : Aside0 (W.heap.size ≤ wr.heap.size) := ⟨HG.out.size⟩
      have HTR : Aside0 (TabAt wr) := ⟨fun j hj => by
        have h1 := HT.out j hj
        have hl := World.block_lt_of_cell? W _ h1
        exact (World.cell?_of_block (HG.out.block 1 hl (fun e => hg1 (by cases e; rfl)))).trans h1⟩
      have HC := Aside0.mk (HIH.out f2 (by omega) L1 g wr (by omega) hR HTR.out hg1)
      rw [loopP] at hZ1
      obtain ⟨d0, d1, d2, d3⟩ := hR.cells
      clear hR hV hOK hRD
      cases hp : readP f2 L1 with
      | none =>
        rw [hp] at hZ1 HC
        have HZ1 : Aside0 (none = Z) := ⟨hZ1⟩
        have HC2 : Aside0 (Calls Tryd.prog 77 #[.pointer (some ⟨g, 0, none⟩)] wr fun e w' => ∃ v, e = .returned v ∧ (v = .nilIface ∨ ∃ t, TrV w' (fun b => wr.heap.size ≤ b) v t ∧ Small t) ∧ (∃ L', RdAt w' g L' false) ∧ wr.grownBy w' (some g)) := ⟨HC.out.mono (by
          rintro e w' ⟨⟨_, _, _, h, _⟩ | ⟨_, v, rfl, h1, h2⟩, h3⟩
          · cases h
          · exact ⟨v, rfl, h1, h2, h3⟩)⟩
        clear hZ1 hp HC
        go_upto_region 9 with (go_at_call 77; go_must (refine HC2.out.mono ?_; rintro e w5 ⟨v5, rfl, hv5, ⟨L5, hr5⟩, hg5⟩; have HR5 := Aside0.mk hr5; have HG5 := Aside0.mk hg5; clear hr5 hg5))
        clear d0 d1 d2 d3
        obtain ⟨e0, e1, e2, e3⟩ := HR5.out.cells
        rcases hv5 with rfl | ⟨t, ht5, hs5⟩
        · go_wp2
          go_ret
          exact ⟨Or.inr ⟨HZ1.out.symm, _, rfl, Or.inl rfl, L5, HR5.out⟩, grown_two HG.out HG5.out⟩
        · obtain ⟨T, u, rfl, hm⟩ := ht5.ask
          obtain ⟨x, hx2, hxe⟩ := ht5.tok
          have HX2 := Aside0.mk hx2
          have HXE := Aside0.mk hxe
          have HT5 := Aside0.mk ht5
          have HS5 := Aside0.mk hs5
          have hor := low_or hall hs5.2
          have HV5 := Aside0.mk (Kd.R_grown HV.out HG5.out fun k hk e => hk (by cases e; rfl))
          obtain ⟨xl, hxl⟩ : ∃ xl, xs.length = xl := ⟨_, rfl⟩
          have HXL := Aside0.mk hxl
          obtain ⟨A6, c6, hv6, _, _⟩ := Kd.R_reads HV.out
          rw [hxl] at hv6
          subst hv6
          have HP := Aside0.mk (HR5.out.put false)
          have HV6 := Aside0.mk (Kd.R_far HV5.out (p := ⟨g, 1, none⟩) (fun k hk => hk) (.bool false))
          clear ht5 hx2 hxe hxl hs5
          generalize hst : ((t.set : Nat) : Int) = ts at hm hor
          go_upto_region 11 with fail
          clear e0 e1 e2 e3
          generalize w5.setCell ⟨g, 1, none⟩ (.bool false) = w6 at HP HV6 ⊢
          have HLE : Aside0 (W.heap.size ≤ w6.heap.size) := ⟨Nat.le_trans HW8.out (Nat.le_trans HG5.out.size HP.out.2.size)⟩
          have HRO : Aside0 (∀ k, (Value.slice A6 xl c6).ownBlock = some k → k ≠ g) := ⟨HV.out.1⟩
          go_upto_region 13 with (first | (go_at_call 134; go_must (refine (set_beasts _ _).mono ?_; rintro e w9 ⟨rfl, rfl⟩)) | (at_builtin; go_must (refine Kd.R_append kT (w0 := w6) W.heap.size rfl (.tmp 74) (.tmp 76) 79 69 .nilIface 16 rfl Tryd.underlying79 info69 rfl (by decide) (by decide) (.slice A6 xl c6) xs x [.iface T u] (fun b => b ≠ g) (fun _ => False) rfl rfl (by rw [← HXE.out]; rfl) (fun _ hk => hk.elim) (fun k hk => by have := HP.out.1.lt; omega) HV6.out (Below.refl _ _) HLE.out (by have := HXB.out; omega) ?_; intro v7 w7 ho _ hg7 hat7; have HO7 := Aside0.mk ho; have HG7 := Aside0.mk hg7; have HAT7 := Aside0.mk hat7; clear ho hg7 hat7)))
          have HR7 : Aside0 (RdAt w7 g L5 false) := ⟨YtdbbcngmnpejnaaDoorW.PrintWords.blk_grown HP.out.1 HG7.out (fun e => HRO.out g e.symm rfl)⟩
          have HTK7 := Aside0.mk (take_calls g L5 false w7 HR7.out)
          obtain ⟨q, hq⟩ : ∃ q, takeC L5 = q := ⟨_, rfl⟩
          rw [hq, Bool.false_and] at HTK7
          generalize L5.tail = L6 at HTK7
          clear hq
          have HG67 : Aside0 (wr.grownBy w6 (some g)) := ⟨grown_two HG5.out HP.out.2⟩
          by_cases h41 : q = 41
          · have hz : (q == 41) = true := by rw [beq_iff_eq]; exact h41
            clear h41
            obtain ⟨g7, cap7, hv7, _⟩ := Kd.R_form HO7.out (by simp)
            rw [show (xs ++ [x]).length = xl + 1 by rw [List.length_append, List.length_singleton, HXL.out]] at hv7
            subst hv7
            go_upto_region 16 with (go_at_call 84; go_must (refine HTK7.out.mono ?_; rintro e w8 ⟨rfl, hr8, hg8⟩; have HR8 := Aside0.mk hr8; have HG8 := Aside0.mk hg8; clear hr8 hg8))
            obtain ⟨k0, k1, k2, k3⟩ := HR8.out.cells
            have HP8 := Aside0.mk (HR8.out.put false)
            have HV9 := Aside0.mk (Kd.R_far (Kd.R_grown HO7.out HG8.out fun k hk e => hk (by cases e; rfl)) (p := ⟨g, 1, none⟩) (fun k hk => hk) (.bool false))
            go_upto_region 17 with fail
            clear k0 k1 k2 k3
            generalize w8.setCell ⟨g, 1, none⟩ (.bool false) = w9 at HP8 HV9 ⊢
            have hgb : W.heap.size ≤ g7 := Kd.R_base HV9.out g7 rfl
            have hg7g : g7 ≠ g := HV9.out.1 g7 rfl
            have hg71 : g7 ≠ 1 := by
              have h1 := World.block_lt_of_cell? W _ (HT.out 0 (by decide))
              have h2 : (1 : Nat) < W.heap.size := h1
              omega
            have H69 : ∀ k, k < w6.heap.size → some k ≠ (Value.slice A6 xl c6).ownBlock → k ≠ g → w9.heap[k]? = w6.heap[k]? := fun k hk h1 h2 => by
              have e1 := HG7.out.block k hk h1
              have e2 := HG8.out.block k (Nat.lt_of_lt_of_le hk HG7.out.size) (fun e => h2 (by cases e; rfl))
              have e3 := HP8.out.2.block k (Nat.lt_of_lt_of_le hk (Nat.le_trans HG7.out.size HG8.out.size)) (fun e => h2 (by cases e; rfl))
              exact e3.trans (e2.trans e1)
            have H69s : w6.heap.size ≤ w9.heap.size := Nat.le_trans HG7.out.size (Nat.le_trans HG8.out.size HP8.out.2.size)
            have hne7 : ∀ k, k < w6.heap.size → some k ≠ (Value.slice A6 xl c6).ownBlock → k ≠ g7 := fun k hk hn e => by
              rcases HAT7.out with h | ⟨b', h, hb'⟩
              · exact hn (by rw [← h, e]; rfl)
              · have h3 : some g7 = some b' := h
                cases h3; omega
            have H56 : ∀ k, k < w5.heap.size → k ≠ g → w6.heap[k]? = w5.heap[k]? := fun k hk h2 => HP.out.2.block k hk (fun e => h2 (by cases e; rfl))
            have HOK9 : Aside0 (∀ y ∈ xs ++ [x], TOk w9 (fun b => W.heap.size ≤ b ∧ b ≠ g7) y) := ⟨fun y hy => by
              rcases List.mem_append.mp hy with hy | hy
              · refine (HOK.out y hy).move (Nat.le_trans HG67.out.size H69s) (fun b hb hl => ?_) fun b hb hl => ⟨hb.1, hne7 b (Nat.lt_of_lt_of_le hl HG67.out.size) hb.2.1⟩
                exact (H69 b (Nat.lt_of_lt_of_le hl HG67.out.size) hb.2.1 hb.2.2).trans (HG67.out.block b hl fun e => hb.2.2 (by cases e; rfl))
              · rw [List.mem_singleton.mp hy]
                have hx5 : TOk w5 (fun b => wr.heap.size ≤ b) x := ⟨by rw [HXE.out, HX2.out]; exact HT5.out, by rw [HX2.out]; exact HS5.out⟩
                have hap : ∀ b, wr.heap.size ≤ b → some b ≠ (Value.slice A6 xl c6).ownBlock := fun b hb e => by
                  obtain ⟨cs, h⟩ := Kd.R_typed HV.out b e.symm
                  have := YtdbbcngmnpejnaaDoorW.PrintWords.blk_lt h
                  omega
                have hbg : ∀ b, wr.heap.size ≤ b → b ≠ g := fun b hb e => by have := HR.out.lt; omega
                refine hx5.move (Nat.le_trans HP.out.2.size H69s) (fun b hb hl => ?_) fun b hb hl => ⟨Nat.le_trans HW8.out hb, hne7 b (Nat.lt_of_lt_of_le hl HP.out.2.size) (hap b hb)⟩
                exact (H69 b (Nat.lt_of_lt_of_le hl HP.out.2.size) (hap b hb) (hbg b hb)).trans (H56 b hl (hbg b hb))⟩
            have HG9 := Aside0.mk (grown_two (grown_two (grown_row (grown_two HG.out HG67.out) HG7.out fun j hj => Kd.R_base HV6.out j hj) HG8.out) HP8.out.2)
            have HT9 : Aside0 (TabAt w9) := ⟨fun j hj => by
              have h1 := HT.out j hj
              have hl := World.block_lt_of_cell? W _ h1
              exact (World.cell?_of_block (HG9.out.block 1 hl (fun e => hg1 (by cases e; rfl)))).trans h1⟩
            have HVT := Aside0.mk (Kd.R_mono HV9.out (ok' := fun _ => True) fun _ _ => trivial)
            clear H69 H56 hne7 H69s
            rcases Nat.eq_zero_or_pos xl with hx0 | hx0
            · have hxe : xs = [] := List.length_eq_zero_iff.mp (by rw [HXL.out]; exact hx0)
              have hR := HVT.out
              rw [hxe, hx0, List.nil_append] at hR
              have HOF := Aside0.mk (of_one hR)
              have HXO := Aside0.mk (HOK9.out x (by rw [hxe]; simp))
              subst hx0
              clear hxe hR
              go_wp2_with (go_at_call 70; go_must (refine HOF.out.mono ?_; rintro e wa ⟨rfl, rfl⟩))
              go_ret
              exact ⟨Or.inr ⟨HZ1.out.symm, encT x, rfl, Or.inr ⟨x.2, (HXO.out.move (Nat.le_refl _) (fun _ _ _ => rfl) fun b hb _ => hb.1).1, HXO.out.2⟩, L6, HP8.out.1⟩, HG9.out⟩
            · have hlen : (xs ++ [x]).length = xl + 1 := by rw [List.length_append, List.length_singleton, HXL.out]
              have HOF := Aside0.mk (of_many HVT.out hlen.symm (fun y hy => (HOK9.out y hy).move (Nat.le_refl _) (fun _ _ _ => rfl) fun b hb _ => hb.2) HT9.out hg71 (by have := HXB.out; have := HXL.out; omega) (by omega))
              have HLEN := Aside0.mk hlen
              clear hx0 hlen
              go_wp2_with (go_at_call 70; go_must (refine HOF.out.mono ?_; rintro e wa ⟨ys, rfl, hp, hs, hR, hg⟩; have HPY := Aside0.mk hp; have HRY := Aside0.mk hR; have HGY := Aside0.mk hg; clear hp hs hR hg))
              go_ret
              have hsm : Small (.node (ys.map (·.2))) := by
                refine ⟨?_, ?_⟩
                · obtain ⟨i, hi⟩ := ne_bit (HOK9.out x (by simp)).2.1
                  rw [set_node]
                  exact bit_ne (i := i) (sets_bit.mpr ⟨x.2, List.mem_map.mpr ⟨x, HPY.out.mem_iff.mpr (by simp), rfl⟩, hi⟩)
                · rw [set_node]
                  exact sets_lt fun t ht => by
                    obtain ⟨z, hz, rfl⟩ := List.mem_map.mp ht
                    exact (HOK9.out z (HPY.out.mem_iff.mp hz)).2
              exact ⟨Or.inr ⟨HZ1.out.symm, .iface 111 (.agg #[.int .i64 ((BT.sets (ys.map (·.2)) : Nat) : Int), .slice (some ⟨g7, 0, none⟩) (xl + 1) cap7]), rfl, Or.inr ⟨.node (ys.map (·.2)), family_of hgb HRY.out (by rw [HPY.out.length_eq]; exact HLEN.out.symm) HGY.out HOK9.out HPY.out, hsm⟩, L6, YtdbbcngmnpejnaaDoorW.PrintWords.blk_grown HP8.out.1 HGY.out (fun e => hg7g (by cases e; rfl))⟩, grown_row HG9.out HGY.out fun j hj => by cases hj; exact hgb⟩
          · have hz : (q == 41) = false := by rw [beq_eq_false_iff_ne]; exact h41
            by_cases h44 : q = 44
            · have hz2 : (q == 44) = true := by rw [beq_iff_eq]; exact h44
              clear h41 h44
              go_wp2_with (go_at_call 84; go_must (refine HTK7.out.mono ?_; rintro e w8 ⟨rfl, hr8, hg8⟩; have HR8 := Aside0.mk hr8; have HG8 := Aside0.mk hg8; clear hr8 hg8))
              go_roundg 1
              case measure => omega
              case rel => exact ⟨_, all ||| t.set, 0, rfl, rfl, or_256 hall HS5.out.2, Nat.le_refl _, ⟨Or.inr ⟨HZ1.out.symm, L6, HR8.out⟩⟩, ⟨grown_two (grown_row (grown_two HG.out HG67.out) HG7.out fun j hj => Kd.R_base HV6.out j hj) HG8.out⟩⟩
            · have hz2 : (q == 44) = false := by rw [beq_eq_false_iff_ne]; exact h44
              clear h41 h44
              go_upto_region 14 with (go_at_call 84; go_must (refine HTK7.out.mono ?_; rintro e w8 ⟨rfl, hr8, hg8⟩; have HR8 := Aside0.mk hr8; have HG8 := Aside0.mk hg8; clear hr8 hg8))
              obtain ⟨k0, k1, k2, k3⟩ := HR8.out.cells
              have HP8 := Aside0.mk (HR8.out.put false)
              go_wp2
              clear k0 k1 k2 k3
              generalize w8.setCell ⟨g, 1, none⟩ (.bool false) = w9 at HP8 ⊢
              go_roundg 1
              case measure => omega
              case rel => exact ⟨_, all ||| t.set, 0, rfl, rfl, or_256 hall HS5.out.2, Nat.le_refl _, ⟨Or.inr ⟨HZ1.out.symm, L6, HP8.out.1⟩⟩, ⟨grown_two (grown_two (grown_row (grown_two HG.out HG67.out) HG7.out fun j hj => Kd.R_base HV6.out j hj) HG8.out) HP8.out.2⟩⟩
      | some tq =>
        obtain ⟨t, L5⟩ := tq
        rw [hp] at hZ1 HC
        obtain ⟨hgt, hl5⟩ := (read_goods f2).1 _ _ _ hp
        have HGT := Aside0.mk hgt
        have HL5 := Aside0.mk hl5
        have hs5 : Small t := hgt.small
        have HC2 : Aside0 (Calls Tryd.prog 77 #[.pointer (some ⟨g, 0, none⟩)] wr fun e w' => ∃ v, e = .returned v ∧ TrV w' (fun b => wr.heap.size ≤ b) v t ∧ RdAt w' g L5 true ∧ wr.grownBy w' (some g)) := ⟨HC.out.mono (by
          rintro e w' ⟨⟨t', L', v, h, rfl, h1, h2⟩ | ⟨h, _⟩, h3⟩
          · cases h; exact ⟨v, rfl, h1, h2, h3⟩
          · cases h)⟩
        clear hp HC hgt hl5
        dsimp only at hZ1
        have HZ0 := Aside0.mk hZ1
        clear hZ1
        go_upto_region 9 with (go_at_call 77; go_must (refine HC2.out.mono ?_; rintro e w5 ⟨v5, rfl, ht5, hr5, hg5⟩; have HR5 := Aside0.mk hr5; have HG5 := Aside0.mk hg5; clear hr5 hg5))
        clear d0 d1 d2 d3
        obtain ⟨e0, e1, e2, e3⟩ := HR5.out.cells
        obtain ⟨T, u, rfl, hm⟩ := ht5.ask
        obtain ⟨x, hx2, hxe⟩ := ht5.tok
        have HX2 := Aside0.mk hx2
        have HXE := Aside0.mk hxe
        have HT5 := Aside0.mk ht5
        have HS5 := Aside0.mk hs5
        have hor := low_or hall hs5.2
        have hand := and_cast hs5.2 hall
        have HV5 := Aside0.mk (Kd.R_grown HV.out HG5.out fun k hk e => hk (by cases e; rfl))
        obtain ⟨xl, hxl⟩ : ∃ xl, xs.length = xl := ⟨_, rfl⟩
        have HXL := Aside0.mk hxl
        obtain ⟨A6, c6, hv6, _, _⟩ := Kd.R_reads HV.out
        rw [hxl] at hv6
        subst hv6
        clear ht5 hx2 hxe hxl hs5
        have HMAP : Aside0 ((xs ++ [x]).map (·.2) = xs.map (·.2) ++ [t]) := ⟨by rw [List.map_append, List.map_cons, List.map_nil, HX2.out]⟩
        have HT5A : Aside0 (TabAt w5) := ⟨fun j hj => by
          have h1 := HTR.out j hj
          have hl := World.block_lt_of_cell? wr _ h1
          exact (World.cell?_of_block (HG5.out.block 1 hl (fun e => hg1 (by cases e; rfl)))).trans h1⟩
        by_cases ha : t.set &&& all = 0
        · rcases Nat.eq_zero_or_pos xl with hx0 | hx0
          · have hxe : xs = [] := List.length_eq_zero_iff.mp (by rw [HXL.out]; exact hx0)
            have HNX : Aside0 (nextOk (xs.map (·.2)) all t = true) := ⟨by unfold nextOk; rw [decide_eq_true ha, hxe]; rfl⟩
            have HP := Aside0.mk (HR5.out.put true)
            have HV6 := Aside0.mk (Kd.R_far HV5.out (p := ⟨g, 1, none⟩) (fun k hk => hk) (.bool true))
            have haz : (((t.set &&& all : Nat) : Int) == 0) = true := by rw [beq_iff_eq]; omega
            clear ha hxe
            have HX0 := Aside0.mk hx0
            have hxz : ((xl : Int) == 0) = true := by rw [beq_iff_eq]; omega
            clear hx0
            generalize ((t.set &&& all : Nat) : Int) = an at hand haz
            generalize hst : ((t.set : Nat) : Int) = ts at hm hor hand
            go_upto_region 11 with (go_at_call 134; go_must (refine (set_beasts _ _).mono ?_; rintro e w9 ⟨rfl, rfl⟩))
            clear haz hand hxz
            have hx0 := HX0.out
            subst hx0
            clear e0 e1 e2 e3
            generalize w5.setCell ⟨g, 1, none⟩ (.bool true) = w6 at HP HV6 ⊢
            have HLE : Aside0 (W.heap.size ≤ w6.heap.size) := ⟨Nat.le_trans HW8.out (Nat.le_trans HG5.out.size HP.out.2.size)⟩
            have HRO : Aside0 (∀ k, (Value.slice A6 0 c6).ownBlock = some k → k ≠ g) := ⟨HV.out.1⟩
            go_upto_region 13 with (first | (go_at_call 134; go_must (refine (set_beasts _ _).mono ?_; rintro e w9 ⟨rfl, rfl⟩)) | (at_builtin; go_must (refine Kd.R_append kT (w0 := w6) W.heap.size rfl (.tmp 74) (.tmp 76) 79 69 .nilIface 16 rfl Tryd.underlying79 info69 rfl (by decide) (by decide) (.slice A6 0 c6) xs x [.iface T u] (fun b => b ≠ g) (fun _ => False) rfl rfl (by rw [← HXE.out]; rfl) (fun _ hk => hk.elim) (fun k hk => by have := HP.out.1.lt; omega) HV6.out (Below.refl _ _) HLE.out (by have := HXB.out; omega) ?_; intro v7 w7 ho _ hg7 hat7; have HO7 := Aside0.mk ho; have HG7 := Aside0.mk hg7; have HAT7 := Aside0.mk hat7; clear ho hg7 hat7)))
            have HR7 : Aside0 (RdAt w7 g L5 true) := ⟨YtdbbcngmnpejnaaDoorW.PrintWords.blk_grown HP.out.1 HG7.out (fun e => HRO.out g e.symm rfl)⟩
            have HTK7 := Aside0.mk (take_calls g L5 true w7 HR7.out)
            have HG67 : Aside0 (wr.grownBy w6 (some g)) := ⟨grown_two HG5.out HP.out.2⟩
            cases L5 with
            | nil =>
              have HZ1 : Aside0 (none = Z) := ⟨by have h := HZ0.out; rw [if_pos HNX.out] at h; exact h⟩
              obtain ⟨q, hq⟩ : ∃ q, takeC [] = q := ⟨_, rfl⟩
              rw [hq, show (true && !([] : List UInt8).isEmpty) = false from rfl, List.tail_nil] at HTK7
              have hz : (q == 41) = false := by rw [← hq]; rfl
              have hz2 : (q == 44) = false := by rw [← hq]; rfl
              clear hq
              go_upto_region 14 with (go_at_call 84; go_must (refine HTK7.out.mono ?_; rintro e w8 ⟨rfl, hr8, hg8⟩; have HR8 := Aside0.mk hr8; have HG8 := Aside0.mk hg8; clear hr8 hg8))
              obtain ⟨k0, k1, k2, k3⟩ := HR8.out.cells
              have HP8 := Aside0.mk (HR8.out.put false)
              go_wp2
              clear k0 k1 k2 k3
              generalize w8.setCell ⟨g, 1, none⟩ (.bool false) = w9 at HP8 ⊢
              go_roundg 1
              case measure => omega
              case rel => exact ⟨_, all ||| t.set, 0, rfl, rfl, or_256 hall HS5.out.2, Nat.le_refl _, ⟨Or.inr ⟨HZ1.out.symm, [], HP8.out.1⟩⟩, ⟨grown_two (grown_two (grown_row (grown_two HG.out HG67.out) HG7.out fun j hj => Kd.R_base HV6.out j hj) HG8.out) HP8.out.2⟩⟩
            | cons c L6 =>
              rw [show (true && !(c :: L6).isEmpty) = true from rfl, List.tail_cons] at HTK7
              have hlL6 : L6.length + 1 < L1.length := by have := HL5.out; rwa [List.length_cons] at this
              have HLL := Aside0.mk hlL6
              clear hlL6
              by_cases h41 : c.toNat = 41
              · have HZ1 : Aside0 (none = Z) := ⟨by have h := HZ0.out; rw [if_pos HNX.out] at h; dsimp only at h; rw [if_pos h41, if_neg (by rw [List.length_append, List.length_map, HXL.out]; simp)] at h; exact h⟩
                obtain ⟨q, hq⟩ : ∃ q, takeC (c :: L6) = q := ⟨_, rfl⟩
                rw [hq] at HTK7
                have hz : (q == 41) = true := by rw [← hq, beq_iff_eq]; show ((c.toNat : Nat) : Int) = 41; omega
                clear h41 hq
                obtain ⟨g7, cap7, hv7, _⟩ := Kd.R_form HO7.out (by simp)
                rw [show (xs ++ [x]).length = 0 + 1 by rw [List.length_append, List.length_singleton, HXL.out]] at hv7
                subst hv7
                go_upto_region 16 with (go_at_call 84; go_must (refine HTK7.out.mono ?_; rintro e w8 ⟨rfl, hr8, hg8⟩; have HR8 := Aside0.mk hr8; have HG8 := Aside0.mk hg8; clear hr8 hg8))
                obtain ⟨k0, k1, k2, k3⟩ := HR8.out.cells
                have HP8 := Aside0.mk (HR8.out.put false)
                have HV9 := Aside0.mk (Kd.R_far (Kd.R_grown HO7.out HG8.out fun k hk e => hk (by cases e; rfl)) (p := ⟨g, 1, none⟩) (fun k hk => hk) (.bool false))
                go_upto_region 17 with fail
                clear k0 k1 k2 k3
                generalize w8.setCell ⟨g, 1, none⟩ (.bool false) = w9 at HP8 HV9 ⊢
                have hgb : W.heap.size ≤ g7 := Kd.R_base HV9.out g7 rfl
                have hg7g : g7 ≠ g := HV9.out.1 g7 rfl
                have hg71 : g7 ≠ 1 := by
                  have h1 := World.block_lt_of_cell? W _ (HT.out 0 (by decide))
                  have h2 : (1 : Nat) < W.heap.size := h1
                  omega
                have H69 : ∀ k, k < w6.heap.size → some k ≠ (Value.slice A6 0 c6).ownBlock → k ≠ g → w9.heap[k]? = w6.heap[k]? := fun k hk h1 h2 => by
                  have e1 := HG7.out.block k hk h1
                  have e2 := HG8.out.block k (Nat.lt_of_lt_of_le hk HG7.out.size) (fun e => h2 (by cases e; rfl))
                  have e3 := HP8.out.2.block k (Nat.lt_of_lt_of_le hk (Nat.le_trans HG7.out.size HG8.out.size)) (fun e => h2 (by cases e; rfl))
                  exact e3.trans (e2.trans e1)
                have H69s : w6.heap.size ≤ w9.heap.size := Nat.le_trans HG7.out.size (Nat.le_trans HG8.out.size HP8.out.2.size)
                have hne7 : ∀ k, k < w6.heap.size → some k ≠ (Value.slice A6 0 c6).ownBlock → k ≠ g7 := fun k hk hn e => by
                  rcases HAT7.out with h | ⟨b', h, hb'⟩
                  · exact hn (by rw [← h, e]; rfl)
                  · have h3 : some g7 = some b' := h
                    cases h3; omega
                have H56 : ∀ k, k < w5.heap.size → k ≠ g → w6.heap[k]? = w5.heap[k]? := fun k hk h2 => HP.out.2.block k hk (fun e => h2 (by cases e; rfl))
                have HOK9 : Aside0 (∀ y ∈ xs ++ [x], TOk w9 (fun b => W.heap.size ≤ b ∧ b ≠ g7) y) := ⟨fun y hy => by
                  rcases List.mem_append.mp hy with hy | hy
                  · refine (HOK.out y hy).move (Nat.le_trans HG67.out.size H69s) (fun b hb hl => ?_) fun b hb hl => ⟨hb.1, hne7 b (Nat.lt_of_lt_of_le hl HG67.out.size) hb.2.1⟩
                    exact (H69 b (Nat.lt_of_lt_of_le hl HG67.out.size) hb.2.1 hb.2.2).trans (HG67.out.block b hl fun e => hb.2.2 (by cases e; rfl))
                  · rw [List.mem_singleton.mp hy]
                    have hx5 : TOk w5 (fun b => wr.heap.size ≤ b) x := ⟨by rw [HXE.out, HX2.out]; exact HT5.out, by rw [HX2.out]; exact HS5.out⟩
                    have hap : ∀ b, wr.heap.size ≤ b → some b ≠ (Value.slice A6 0 c6).ownBlock := fun b hb e => by
                      obtain ⟨cs, h⟩ := Kd.R_typed HV.out b e.symm
                      have := YtdbbcngmnpejnaaDoorW.PrintWords.blk_lt h
                      omega
                    have hbg : ∀ b, wr.heap.size ≤ b → b ≠ g := fun b hb e => by have := HR.out.lt; omega
                    refine hx5.move (Nat.le_trans HP.out.2.size H69s) (fun b hb hl => ?_) fun b hb hl => ⟨Nat.le_trans HW8.out hb, hne7 b (Nat.lt_of_lt_of_le hl HP.out.2.size) (hap b hb)⟩
                    exact (H69 b (Nat.lt_of_lt_of_le hl HP.out.2.size) (hap b hb) (hbg b hb)).trans (H56 b hl (hbg b hb))⟩
                have HG9 := Aside0.mk (grown_two (grown_two (grown_row (grown_two HG.out HG67.out) HG7.out fun j hj => Kd.R_base HV6.out j hj) HG8.out) HP8.out.2)
                have HT9 : Aside0 (TabAt w9) := ⟨fun j hj => by
                  have h1 := HT.out j hj
                  have hl := World.block_lt_of_cell? W _ h1
                  exact (World.cell?_of_block (HG9.out.block 1 hl (fun e => hg1 (by cases e; rfl)))).trans h1⟩
                have HVT := Aside0.mk (Kd.R_mono HV9.out (ok' := fun _ => True) fun _ _ => trivial)
                clear H69 H56 hne7 H69s
                have hxe : xs = [] := List.length_eq_zero_iff.mp (HXL.out)
                have hR := HVT.out
                rw [hxe, List.nil_append] at hR
                have HOF := Aside0.mk (of_one hR)
                have HXO := Aside0.mk (HOK9.out x (by rw [hxe]; simp))
                clear hxe hR
                go_wp2_with (go_at_call 70; go_must (refine HOF.out.mono ?_; rintro e wa ⟨rfl, rfl⟩))
                go_ret
                exact ⟨Or.inr ⟨HZ1.out.symm, encT x, rfl, Or.inr ⟨x.2, (HXO.out.move (Nat.le_refl _) (fun _ _ _ => rfl) fun b hb _ => hb.1).1, HXO.out.2⟩, L6, HP8.out.1⟩, HG9.out⟩
              · by_cases h44 : c.toNat = 44
                · have HZ1 : Aside0 (loopP f2 (xs.map (·.2) ++ [t]) (all ||| t.set) L6 = Z) := ⟨by have h := HZ0.out; rw [if_pos HNX.out] at h; dsimp only at h; rw [if_neg h41, if_pos h44] at h; exact h⟩
                  obtain ⟨q, hq⟩ : ∃ q, takeC (c :: L6) = q := ⟨_, rfl⟩
                  rw [hq] at HTK7
                  have hz : (q == 41) = false := by rw [← hq, beq_eq_false_iff_ne]; show ((c.toNat : Nat) : Int) ≠ 41; omega
                  have hz2 : (q == 44) = true := by rw [← hq, beq_iff_eq]; show ((c.toNat : Nat) : Int) = 44; omega
                  clear h41 h44 hq
                  go_wp2_with (go_at_call 84; go_must (refine HTK7.out.mono ?_; rintro e w8 ⟨rfl, hr8, hg8⟩; have HR8 := Aside0.mk hr8; have HG8 := Aside0.mk hg8; clear hr8 hg8))
                  have H68 : ∀ k, k < w6.heap.size → some k ≠ (Value.slice A6 0 c6).ownBlock → k ≠ g → w8.heap[k]? = w6.heap[k]? := fun k hk h1 h2 => by
                    have e1 := HG7.out.block k hk h1
                    have e2 := HG8.out.block k (Nat.lt_of_lt_of_le hk HG7.out.size) (fun e => h2 (by cases e; rfl))
                    exact e2.trans e1
                  have H68s : w6.heap.size ≤ w8.heap.size := Nat.le_trans HG7.out.size HG8.out.size
                  have H56 : ∀ k, k < w5.heap.size → k ≠ g → w6.heap[k]? = w5.heap[k]? := fun k hk h2 => HP.out.2.block k hk (fun e => h2 (by cases e; rfl))
                  have hne7 : ∀ k, k < w6.heap.size → some k ≠ (Value.slice A6 0 c6).ownBlock → some k ≠ v7.ownBlock := fun k hk hn e => by
                    rcases HAT7.out with h | ⟨b', h, hb'⟩
                    · exact hn (by rw [← h, e])
                    · rw [h] at e; cases e; omega
                  have HOK8 : Aside0 (∀ y ∈ xs ++ [x], TOk w8 (fun b => W.heap.size ≤ b ∧ some b ≠ v7.ownBlock ∧ b ≠ g) y) := ⟨fun y hy => by
                    rcases List.mem_append.mp hy with hy | hy
                    · refine (HOK.out y hy).move (Nat.le_trans HG67.out.size H68s) (fun b hb hl => ?_) fun b hb hl => ⟨hb.1, hne7 b (Nat.lt_of_lt_of_le hl HG67.out.size) hb.2.1, hb.2.2⟩
                      exact (H68 b (Nat.lt_of_lt_of_le hl HG67.out.size) hb.2.1 hb.2.2).trans (HG67.out.block b hl fun e => hb.2.2 (by cases e; rfl))
                    · rw [List.mem_singleton.mp hy]
                      have hx5 : TOk w5 (fun b => wr.heap.size ≤ b) x := ⟨by rw [HXE.out, HX2.out]; exact HT5.out, by rw [HX2.out]; exact HS5.out⟩
                      have hap : ∀ b, wr.heap.size ≤ b → some b ≠ (Value.slice A6 0 c6).ownBlock := fun b hb e => by
                        obtain ⟨cs, h⟩ := Kd.R_typed HV.out b e.symm
                        have := YtdbbcngmnpejnaaDoorW.PrintWords.blk_lt h
                        omega
                      have hbg : ∀ b, wr.heap.size ≤ b → b ≠ g := fun b hb e => by have := HR.out.lt; omega
                      refine hx5.move (Nat.le_trans HP.out.2.size H68s) (fun b hb hl => ?_) fun b hb hl => ⟨Nat.le_trans HW8.out hb, hne7 b (Nat.lt_of_lt_of_le hl HP.out.2.size) (hap b hb), hbg b hb⟩
                      exact (H68 b (Nat.lt_of_lt_of_le hl HP.out.2.size) (hap b hb) (hbg b hb)).trans (H56 b hl (hbg b hb))⟩
                  have HRD8 : Aside0 (ReadL ((xs ++ [x]).map (·.2)) (all ||| t.set)) := ⟨by rw [HMAP.out]; exact read_next HRD.out HGT.out HNX.out⟩
                  have HZ8 : Aside0 (loopP f2 ((xs ++ [x]).map (·.2)) (all ||| t.set) L6 = Z) := ⟨by rw [HMAP.out]; exact HZ1.out⟩
                  have HR78 := Aside0.mk (Kd.R_grown HO7.out HG8.out fun k hk e => hk (by cases e; rfl))
                  have HGW : Aside0 (W.grownBy w8 (some g)) := ⟨grown_two (grown_row (grown_two HG.out HG67.out) HG7.out fun j hj => Kd.R_base HV6.out j hj) HG8.out⟩
                  clear H68 H56 hne7 H68s
                  have HNUM : Aside0 (f2 ≤ f ∧ 2 * L6.length + 2 ≤ f2 ∧ L6.length + 1 ≤ left - 1 ∧ left - 1 + 1 ≤ left) := ⟨by have := HLL.out; omega⟩
                  go_roundg left
                  case measure => omega
                  case rel => exact ⟨_, all ||| t.set, left - 1, rfl, rfl, or_256 hall HS5.out.2, HNUM.out.2.2.2, ⟨Or.inl ⟨f2, L6, xs ++ [x], HNUM.out.1, HNUM.out.2.1, HNUM.out.2.2.1, HR8.out, HR78.out, HOK8.out, HRD8.out, HZ8.out⟩⟩, HGW⟩
                · have HZ1 : Aside0 (none = Z) := ⟨by have h := HZ0.out; rw [if_pos HNX.out] at h; dsimp only at h; rw [if_neg h41, if_neg h44] at h; exact h⟩
                  obtain ⟨q, hq⟩ : ∃ q, takeC (c :: L6) = q := ⟨_, rfl⟩
                  rw [hq] at HTK7
                  have hz : (q == 41) = false := by rw [← hq, beq_eq_false_iff_ne]; show ((c.toNat : Nat) : Int) ≠ 41; omega
                  have hz2 : (q == 44) = false := by rw [← hq, beq_eq_false_iff_ne]; show ((c.toNat : Nat) : Int) ≠ 44; omega
                  clear h41 h44 hq
                  go_upto_region 14 with (go_at_call 84; go_must (refine HTK7.out.mono ?_; rintro e w8 ⟨rfl, hr8, hg8⟩; have HR8 := Aside0.mk hr8; have HG8 := Aside0.mk hg8; clear hr8 hg8))
                  obtain ⟨k0, k1, k2, k3⟩ := HR8.out.cells
                  have HP8 := Aside0.mk (HR8.out.put false)
                  go_wp2
                  clear k0 k1 k2 k3
                  generalize w8.setCell ⟨g, 1, none⟩ (.bool false) = w9 at HP8 ⊢
                  go_roundg 1
                  case measure => omega
                  case rel => exact ⟨_, all ||| t.set, 0, rfl, rfl, or_256 hall HS5.out.2, Nat.le_refl _, ⟨Or.inr ⟨HZ1.out.symm, L6, HP8.out.1⟩⟩, ⟨grown_two (grown_two (grown_row (grown_two HG.out HG67.out) HG7.out fun j hj => Kd.R_base HV6.out j hj) HG8.out) HP8.out.2⟩⟩
          · obtain ⟨k, hk⟩ : ∃ k, xl = k + 1 := ⟨xl - 1, by omega⟩
            have hkx : k < xl := by omega
            have hk1 : (xl : Int) - 1 = (k : Int) := by omega
            have hx8 : xl ≤ 8 := by have := HXB.out; have := HXL.out; omega
            have hky : k < xs.length := by rw [HXL.out]; exact hkx
            have hxz : ((xl : Int) == 0) = false := by rw [beq_eq_false_iff_ne]; omega
            have haz : (((t.set &&& all : Nat) : Int) == 0) = true := by rw [beq_iff_eq]; omega
            obtain ⟨g6, cap6, hv6, _⟩ := Kd.R_form HV5.out (by have := HXL.out; omega)
            rw [HXL.out] at hv6
            cases hv6
            have hC := (Kd.R_reads' HV5.out).2.2
            obtain ⟨ad, had, hc0⟩ := ReadsOf.at_ (Kd.reads_of_C (d := default) hC) (k : Int) (by omega) (by rw [HXL.out]; omega)
            cases had
            rw [Int.toNat_natCast, show rdOf default xs (k : Int) = xs.getD k default by simp [rdOf], YtdbbcngmnpejnaaDoorW.PrintWords.add_plain] at hc0
            have hmy : xs.getD k default ∈ xs := getD_mem default hky
            have hlast : ((xs.map (·.2)).getLast?.getD default) = (xs.getD k default).2 := by
              rw [List.getLast?_eq_getElem?, List.length_map, HXL.out, show xl - 1 = k by omega, List.getElem?_map, List.getD_eq_getElem?_getD, List.getElem?_eq_getElem hky]
              rfl
            have hTy : TOk w5 (fun _ => True) (xs.getD k default) := (HOK.out _ hmy).move HG5.out.size (fun b hb hl => HG5.out.block b hl (fun e => hb.2.2 (by cases e; rfl))) fun _ _ _ => trivial
            have HLAST := Aside0.mk hlast
            generalize xs.getD k default = y at hc0 hTy HLAST
            have HFL := Aside0.mk (first_calls hTy.2 hTy.1 HT5A.out)
            have HFT := Aside0.mk (first_calls HS5.out HT5.out HT5A.out)
            have HNN : Aside0 (nextOk (xs.map (·.2)) all t = decide (low y.2.set < low t.set)) := ⟨by
              unfold nextOk
              rw [decide_eq_true ha, HLAST.out, show (xs.map (·.2)).isEmpty = false by (cases xs with | nil => simp at hky | cons a b => rfl)]
              rfl⟩
            have hlw1 := low_le8 y.2.set
            have hlw2 := low_le8 t.set
            clear ha hC hmy hlast hTy hky hk
            generalize low y.2.set = la at HFL HNN hlw1
            generalize low t.set = lb at HFT HNN hlw2
            generalize ((t.set &&& all : Nat) : Int) = an at hand haz
            generalize hst : ((t.set : Nat) : Int) = ts at hm hor hand
            by_cases hlt : la < lb
            · have HNX : Aside0 (nextOk (xs.map (·.2)) all t = true) := ⟨by rw [HNN.out, decide_eq_true hlt]⟩
              have HP := Aside0.mk (HR5.out.put true)
              have HV6 := Aside0.mk (Kd.R_far HV5.out (p := ⟨g, 1, none⟩) (fun k hk => hk) (.bool true))
              have hlt2 : ((la : Int) < (lb : Int)) := by omega
              clear HNN
              go_upto_region 11 with (first | (go_at_call 134; go_must (refine (set_beasts _ _).mono ?_; rintro e w9 ⟨rfl, rfl⟩)) | (go_at_call 81; refine HFL.out.mono ?_; rintro e w9 ⟨rfl, rfl⟩) | (go_at_call 81; refine HFT.out.mono ?_; rintro e w9 ⟨rfl, rfl⟩))
              clear haz hand hxz hk1 hkx hc0 hlt hlw1 hlw2 hx8 hlt2
              clear e0 e1 e2 e3
              generalize w5.setCell ⟨g, 1, none⟩ (.bool true) = w6 at HP HV6 ⊢
              have HLE : Aside0 (W.heap.size ≤ w6.heap.size) := ⟨Nat.le_trans HW8.out (Nat.le_trans HG5.out.size HP.out.2.size)⟩
              have HRO : Aside0 (∀ k, (Value.slice (some ⟨g6, 0, none⟩) xl c6).ownBlock = some k → k ≠ g) := ⟨HV.out.1⟩
              go_upto_region 13 with (first | (go_at_call 134; go_must (refine (set_beasts _ _).mono ?_; rintro e w9 ⟨rfl, rfl⟩)) | (at_builtin; go_must (refine Kd.R_append kT (w0 := w6) W.heap.size rfl (.tmp 74) (.tmp 76) 79 69 .nilIface 16 rfl Tryd.underlying79 info69 rfl (by decide) (by decide) (.slice (some ⟨g6, 0, none⟩) xl c6) xs x [.iface T u] (fun b => b ≠ g) (fun _ => False) rfl rfl (by rw [← HXE.out]; rfl) (fun _ hk => hk.elim) (fun k hk => by have := HP.out.1.lt; omega) HV6.out (Below.refl _ _) HLE.out (by have := HXB.out; omega) ?_; intro v7 w7 ho _ hg7 hat7; have HO7 := Aside0.mk ho; have HG7 := Aside0.mk hg7; have HAT7 := Aside0.mk hat7; clear ho hg7 hat7)))
              have HR7 : Aside0 (RdAt w7 g L5 true) := ⟨YtdbbcngmnpejnaaDoorW.PrintWords.blk_grown HP.out.1 HG7.out (fun e => HRO.out g e.symm rfl)⟩
              have HTK7 := Aside0.mk (take_calls g L5 true w7 HR7.out)
              have HG67 : Aside0 (wr.grownBy w6 (some g)) := ⟨grown_two HG5.out HP.out.2⟩
              cases L5 with
              | nil =>
                have HZ1 : Aside0 (none = Z) := ⟨by have h := HZ0.out; rw [if_pos HNX.out] at h; exact h⟩
                obtain ⟨q, hq⟩ : ∃ q, takeC [] = q := ⟨_, rfl⟩
                rw [hq, show (true && !([] : List UInt8).isEmpty) = false from rfl, List.tail_nil] at HTK7
                have hz : (q == 41) = false := by rw [← hq]; rfl
                have hz2 : (q == 44) = false := by rw [← hq]; rfl
                clear hq
                go_upto_region 14 with (go_at_call 84; go_must (refine HTK7.out.mono ?_; rintro e w8 ⟨rfl, hr8, hg8⟩; have HR8 := Aside0.mk hr8; have HG8 := Aside0.mk hg8; clear hr8 hg8))
                obtain ⟨k0, k1, k2, k3⟩ := HR8.out.cells
                have HP8 := Aside0.mk (HR8.out.put false)
                go_wp2
                clear k0 k1 k2 k3
                generalize w8.setCell ⟨g, 1, none⟩ (.bool false) = w9 at HP8 ⊢
                go_roundg 1
                case measure => omega
                case rel => exact ⟨_, all ||| t.set, 0, rfl, rfl, or_256 hall HS5.out.2, Nat.le_refl _, ⟨Or.inr ⟨HZ1.out.symm, [], HP8.out.1⟩⟩, ⟨grown_two (grown_two (grown_row (grown_two HG.out HG67.out) HG7.out fun j hj => Kd.R_base HV6.out j hj) HG8.out) HP8.out.2⟩⟩
              | cons c L6 =>
                rw [show (true && !(c :: L6).isEmpty) = true from rfl, List.tail_cons] at HTK7
                have hlL6 : L6.length + 1 < L1.length := by have := HL5.out; rwa [List.length_cons] at this
                have HLL := Aside0.mk hlL6
                clear hlL6
                by_cases h41 : c.toNat = 41
                · have HZ1 : Aside0 (some (.node (xs.map (·.2) ++ [t]), L6) = Z) := ⟨by have h := HZ0.out; rw [if_pos HNX.out] at h; dsimp only at h; rw [if_pos h41, if_pos (by rw [List.length_append, List.length_map, HXL.out]; simp; omega)] at h; exact h⟩
                  obtain ⟨q, hq⟩ : ∃ q, takeC (c :: L6) = q := ⟨_, rfl⟩
                  rw [hq] at HTK7
                  have hx16 : (1 : Int) < (xl : Int) + 1 := by omega
                  have hz : (q == 41) = true := by rw [← hq, beq_iff_eq]; show ((c.toNat : Nat) : Int) = 41; omega
                  clear h41 hq
                  obtain ⟨g7, cap7, hv7, _⟩ := Kd.R_form HO7.out (by simp)
                  rw [show (xs ++ [x]).length = xl + 1 by rw [List.length_append, List.length_singleton, HXL.out]] at hv7
                  subst hv7
                  go_upto_region 16 with (go_at_call 84; go_must (refine HTK7.out.mono ?_; rintro e w8 ⟨rfl, hr8, hg8⟩; have HR8 := Aside0.mk hr8; have HG8 := Aside0.mk hg8; clear hr8 hg8))
                  obtain ⟨k0, k1, k2, k3⟩ := HR8.out.cells
                  have HP8 := Aside0.mk (HR8.out.put true)
                  have HV9 := Aside0.mk (Kd.R_far (Kd.R_grown HO7.out HG8.out fun k hk e => hk (by cases e; rfl)) (p := ⟨g, 1, none⟩) (fun k hk => hk) (.bool true))
                  go_upto_region 17 with fail
                  clear k0 k1 k2 k3
                  generalize w8.setCell ⟨g, 1, none⟩ (.bool true) = w9 at HP8 HV9 ⊢
                  have hgb : W.heap.size ≤ g7 := Kd.R_base HV9.out g7 rfl
                  have hg7g : g7 ≠ g := HV9.out.1 g7 rfl
                  have hg71 : g7 ≠ 1 := by
                    have h1 := World.block_lt_of_cell? W _ (HT.out 0 (by decide))
                    have h2 : (1 : Nat) < W.heap.size := h1
                    omega
                  have H69 : ∀ k, k < w6.heap.size → some k ≠ (Value.slice (some ⟨g6, 0, none⟩) xl c6).ownBlock → k ≠ g → w9.heap[k]? = w6.heap[k]? := fun k hk h1 h2 => by
                    have e1 := HG7.out.block k hk h1
                    have e2 := HG8.out.block k (Nat.lt_of_lt_of_le hk HG7.out.size) (fun e => h2 (by cases e; rfl))
                    have e3 := HP8.out.2.block k (Nat.lt_of_lt_of_le hk (Nat.le_trans HG7.out.size HG8.out.size)) (fun e => h2 (by cases e; rfl))
                    exact e3.trans (e2.trans e1)
                  have H69s : w6.heap.size ≤ w9.heap.size := Nat.le_trans HG7.out.size (Nat.le_trans HG8.out.size HP8.out.2.size)
                  have hne7 : ∀ k, k < w6.heap.size → some k ≠ (Value.slice (some ⟨g6, 0, none⟩) xl c6).ownBlock → k ≠ g7 := fun k hk hn e => by
                    rcases HAT7.out with h | ⟨b', h, hb'⟩
                    · exact hn (by rw [← h, e]; rfl)
                    · have h3 : some g7 = some b' := h
                      cases h3; omega
                  have H56 : ∀ k, k < w5.heap.size → k ≠ g → w6.heap[k]? = w5.heap[k]? := fun k hk h2 => HP.out.2.block k hk (fun e => h2 (by cases e; rfl))
                  have HOK9 : Aside0 (∀ y ∈ xs ++ [x], TOk w9 (fun b => W.heap.size ≤ b ∧ b ≠ g7) y) := ⟨fun y hy => by
                    rcases List.mem_append.mp hy with hy | hy
                    · refine (HOK.out y hy).move (Nat.le_trans HG67.out.size H69s) (fun b hb hl => ?_) fun b hb hl => ⟨hb.1, hne7 b (Nat.lt_of_lt_of_le hl HG67.out.size) hb.2.1⟩
                      exact (H69 b (Nat.lt_of_lt_of_le hl HG67.out.size) hb.2.1 hb.2.2).trans (HG67.out.block b hl fun e => hb.2.2 (by cases e; rfl))
                    · rw [List.mem_singleton.mp hy]
                      have hx5 : TOk w5 (fun b => wr.heap.size ≤ b) x := ⟨by rw [HXE.out, HX2.out]; exact HT5.out, by rw [HX2.out]; exact HS5.out⟩
                      have hap : ∀ b, wr.heap.size ≤ b → some b ≠ (Value.slice (some ⟨g6, 0, none⟩) xl c6).ownBlock := fun b hb e => by
                        obtain ⟨cs, h⟩ := Kd.R_typed HV.out b e.symm
                        have := YtdbbcngmnpejnaaDoorW.PrintWords.blk_lt h
                        omega
                      have hbg : ∀ b, wr.heap.size ≤ b → b ≠ g := fun b hb e => by have := HR.out.lt; omega
                      refine hx5.move (Nat.le_trans HP.out.2.size H69s) (fun b hb hl => ?_) fun b hb hl => ⟨Nat.le_trans HW8.out hb, hne7 b (Nat.lt_of_lt_of_le hl HP.out.2.size) (hap b hb)⟩
                      exact (H69 b (Nat.lt_of_lt_of_le hl HP.out.2.size) (hap b hb) (hbg b hb)).trans (H56 b hl (hbg b hb))⟩
                  have HG9 := Aside0.mk (grown_two (grown_two (grown_row (grown_two HG.out HG67.out) HG7.out fun j hj => Kd.R_base HV6.out j hj) HG8.out) HP8.out.2)
                  have HT9 : Aside0 (TabAt w9) := ⟨fun j hj => by
                    have h1 := HT.out j hj
                    have hl := World.block_lt_of_cell? W _ h1
                    exact (World.cell?_of_block (HG9.out.block 1 hl (fun e => hg1 (by cases e; rfl)))).trans h1⟩
                  have HVT := Aside0.mk (Kd.R_mono HV9.out (ok' := fun _ => True) fun _ _ => trivial)
                  clear H69 H56 hne7 H69s
                  have hlen : (xs ++ [x]).length = xl + 1 := by rw [List.length_append, List.length_singleton, HXL.out]
                  have HOF := Aside0.mk (of_many HVT.out hlen.symm (fun y hy => (HOK9.out y hy).move (Nat.le_refl _) (fun _ _ _ => rfl) fun b hb _ => hb.2) HT9.out hg71 (by have := HXB.out; have := HXL.out; omega) (by omega))
                  have HLEN := Aside0.mk hlen
                  clear hx0 hlen
                  go_wp2_with (go_at_call 70; go_must (refine HOF.out.mono ?_; rintro e wa ⟨ys, rfl, hp, hs, hR, hg⟩; have HPY := Aside0.mk hp; have HSY := Aside0.mk hs; have HRY := Aside0.mk hR; have HGY := Aside0.mk hg; clear hp hs hR hg))
                  go_ret
                  have hys : ys.map (·.2) = xs.map (·.2) ++ [t] := by
                    rw [← HMAP.out]
                    refine order_one ?_ (by rw [List.pairwise_map]; exact HSY.out) (HPY.out.map _)
                    rw [HMAP.out]
                    exact (read_next HRD.out HGT.out HNX.out).2.1.imp fun h => h.2
                  refine ⟨Or.inl ⟨.node (xs.map (·.2) ++ [t]), L6, .iface 111 (.agg #[.int .i64 ((BT.sets (ys.map (·.2)) : Nat) : Int), .slice (some ⟨g7, 0, none⟩) (xl + 1) cap7]), HZ1.out.symm, rfl, ?_, YtdbbcngmnpejnaaDoorW.PrintWords.blk_grown HP8.out.1 HGY.out (fun e => hg7g (by cases e; rfl))⟩, grown_row HG9.out HGY.out fun j hj => by cases hj; exact hgb⟩
                  rw [← hys]
                  exact family_of hgb HRY.out (by rw [HPY.out.length_eq]; exact HLEN.out.symm) HGY.out HOK9.out HPY.out
                · by_cases h44 : c.toNat = 44
                  · have HZ1 : Aside0 (loopP f2 (xs.map (·.2) ++ [t]) (all ||| t.set) L6 = Z) := ⟨by have h := HZ0.out; rw [if_pos HNX.out] at h; dsimp only at h; rw [if_neg h41, if_pos h44] at h; exact h⟩
                    obtain ⟨q, hq⟩ : ∃ q, takeC (c :: L6) = q := ⟨_, rfl⟩
                    rw [hq] at HTK7
                    have hz : (q == 41) = false := by rw [← hq, beq_eq_false_iff_ne]; show ((c.toNat : Nat) : Int) ≠ 41; omega
                    have hz2 : (q == 44) = true := by rw [← hq, beq_iff_eq]; show ((c.toNat : Nat) : Int) = 44; omega
                    clear h41 h44 hq
                    go_wp2_with (go_at_call 84; go_must (refine HTK7.out.mono ?_; rintro e w8 ⟨rfl, hr8, hg8⟩; have HR8 := Aside0.mk hr8; have HG8 := Aside0.mk hg8; clear hr8 hg8))
                    have H68 : ∀ k, k < w6.heap.size → some k ≠ (Value.slice (some ⟨g6, 0, none⟩) xl c6).ownBlock → k ≠ g → w8.heap[k]? = w6.heap[k]? := fun k hk h1 h2 => by
                      have e1 := HG7.out.block k hk h1
                      have e2 := HG8.out.block k (Nat.lt_of_lt_of_le hk HG7.out.size) (fun e => h2 (by cases e; rfl))
                      exact e2.trans e1
                    have H68s : w6.heap.size ≤ w8.heap.size := Nat.le_trans HG7.out.size HG8.out.size
                    have H56 : ∀ k, k < w5.heap.size → k ≠ g → w6.heap[k]? = w5.heap[k]? := fun k hk h2 => HP.out.2.block k hk (fun e => h2 (by cases e; rfl))
                    have hne7 : ∀ k, k < w6.heap.size → some k ≠ (Value.slice (some ⟨g6, 0, none⟩) xl c6).ownBlock → some k ≠ v7.ownBlock := fun k hk hn e => by
                      rcases HAT7.out with h | ⟨b', h, hb'⟩
                      · exact hn (by rw [← h, e])
                      · rw [h] at e; cases e; omega
                    have HOK8 : Aside0 (∀ y ∈ xs ++ [x], TOk w8 (fun b => W.heap.size ≤ b ∧ some b ≠ v7.ownBlock ∧ b ≠ g) y) := ⟨fun y hy => by
                      rcases List.mem_append.mp hy with hy | hy
                      · refine (HOK.out y hy).move (Nat.le_trans HG67.out.size H68s) (fun b hb hl => ?_) fun b hb hl => ⟨hb.1, hne7 b (Nat.lt_of_lt_of_le hl HG67.out.size) hb.2.1, hb.2.2⟩
                        exact (H68 b (Nat.lt_of_lt_of_le hl HG67.out.size) hb.2.1 hb.2.2).trans (HG67.out.block b hl fun e => hb.2.2 (by cases e; rfl))
                      · rw [List.mem_singleton.mp hy]
                        have hx5 : TOk w5 (fun b => wr.heap.size ≤ b) x := ⟨by rw [HXE.out, HX2.out]; exact HT5.out, by rw [HX2.out]; exact HS5.out⟩
                        have hap : ∀ b, wr.heap.size ≤ b → some b ≠ (Value.slice (some ⟨g6, 0, none⟩) xl c6).ownBlock := fun b hb e => by
                          obtain ⟨cs, h⟩ := Kd.R_typed HV.out b e.symm
                          have := YtdbbcngmnpejnaaDoorW.PrintWords.blk_lt h
                          omega
                        have hbg : ∀ b, wr.heap.size ≤ b → b ≠ g := fun b hb e => by have := HR.out.lt; omega
                        refine hx5.move (Nat.le_trans HP.out.2.size H68s) (fun b hb hl => ?_) fun b hb hl => ⟨Nat.le_trans HW8.out hb, hne7 b (Nat.lt_of_lt_of_le hl HP.out.2.size) (hap b hb), hbg b hb⟩
                        exact (H68 b (Nat.lt_of_lt_of_le hl HP.out.2.size) (hap b hb) (hbg b hb)).trans (H56 b hl (hbg b hb))⟩
                    have HRD8 : Aside0 (ReadL ((xs ++ [x]).map (·.2)) (all ||| t.set)) := ⟨by rw [HMAP.out]; exact read_next HRD.out HGT.out HNX.out⟩
                    have HZ8 : Aside0 (loopP f2 ((xs ++ [x]).map (·.2)) (all ||| t.set) L6 = Z) := ⟨by rw [HMAP.out]; exact HZ1.out⟩
                    have HR78 := Aside0.mk (Kd.R_grown HO7.out HG8.out fun k hk e => hk (by cases e; rfl))
                    have HGW : Aside0 (W.grownBy w8 (some g)) := ⟨grown_two (grown_row (grown_two HG.out HG67.out) HG7.out fun j hj => Kd.R_base HV6.out j hj) HG8.out⟩
                    clear H68 H56 hne7 H68s
                    have HNUM : Aside0 (f2 ≤ f ∧ 2 * L6.length + 2 ≤ f2 ∧ L6.length + 1 ≤ left - 1 ∧ left - 1 + 1 ≤ left) := ⟨by have := HLL.out; omega⟩
                    go_roundg left
                    case measure => omega
                    case rel => exact ⟨_, all ||| t.set, left - 1, rfl, rfl, or_256 hall HS5.out.2, HNUM.out.2.2.2, ⟨Or.inl ⟨f2, L6, xs ++ [x], HNUM.out.1, HNUM.out.2.1, HNUM.out.2.2.1, HR8.out, HR78.out, HOK8.out, HRD8.out, HZ8.out⟩⟩, HGW⟩
                  · have HZ1 : Aside0 (none = Z) := ⟨by have h := HZ0.out; rw [if_pos HNX.out] at h; dsimp only at h; rw [if_neg h41, if_neg h44] at h; exact h⟩
                    obtain ⟨q, hq⟩ : ∃ q, takeC (c :: L6) = q := ⟨_, rfl⟩
                    rw [hq] at HTK7
                    have hz : (q == 41) = false := by rw [← hq, beq_eq_false_iff_ne]; show ((c.toNat : Nat) : Int) ≠ 41; omega
                    have hz2 : (q == 44) = false := by rw [← hq, beq_eq_false_iff_ne]; show ((c.toNat : Nat) : Int) ≠ 44; omega
                    clear h41 h44 hq
                    go_upto_region 14 with (go_at_call 84; go_must (refine HTK7.out.mono ?_; rintro e w8 ⟨rfl, hr8, hg8⟩; have HR8 := Aside0.mk hr8; have HG8 := Aside0.mk hg8; clear hr8 hg8))
                    obtain ⟨k0, k1, k2, k3⟩ := HR8.out.cells
                    have HP8 := Aside0.mk (HR8.out.put false)
                    go_wp2
                    clear k0 k1 k2 k3
                    generalize w8.setCell ⟨g, 1, none⟩ (.bool false) = w9 at HP8 ⊢
                    go_roundg 1
                    case measure => omega
                    case rel => exact ⟨_, all ||| t.set, 0, rfl, rfl, or_256 hall HS5.out.2, Nat.le_refl _, ⟨Or.inr ⟨HZ1.out.symm, L6, HP8.out.1⟩⟩, ⟨grown_two (grown_two (grown_row (grown_two HG.out HG67.out) HG7.out fun j hj => Kd.R_base HV6.out j hj) HG8.out) HP8.out.2⟩⟩
            · have HZ1 : Aside0 (none = Z) := ⟨by rw [← HZ0.out, if_neg (by rw [HNN.out, decide_eq_false hlt]; simp)]⟩
              have HP := Aside0.mk (HR5.out.put false)
              have HV6 := Aside0.mk (Kd.R_far HV5.out (p := ⟨g, 1, none⟩) (fun k hk => hk) (.bool false))
              have hlt2 : ¬ ((la : Int) < (lb : Int)) := by omega
              clear HNN
              go_upto_region 11 with (first | (go_at_call 134; go_must (refine (set_beasts _ _).mono ?_; rintro e w9 ⟨rfl, rfl⟩)) | (go_at_call 81; refine HFL.out.mono ?_; rintro e w9 ⟨rfl, rfl⟩) | (go_at_call 81; refine HFT.out.mono ?_; rintro e w9 ⟨rfl, rfl⟩))
              clear haz hand hxz hk1 hkx hc0 hlt hlw1 hlw2 hx8 hlt2
              clear e0 e1 e2 e3
              generalize w5.setCell ⟨g, 1, none⟩ (.bool false) = w6 at HP HV6 ⊢
              have HLE : Aside0 (W.heap.size ≤ w6.heap.size) := ⟨Nat.le_trans HW8.out (Nat.le_trans HG5.out.size HP.out.2.size)⟩
              have HRO : Aside0 (∀ k, (Value.slice (some ⟨g6, 0, none⟩) xl c6).ownBlock = some k → k ≠ g) := ⟨HV.out.1⟩
              go_upto_region 13 with (first | (go_at_call 134; go_must (refine (set_beasts _ _).mono ?_; rintro e w9 ⟨rfl, rfl⟩)) | (at_builtin; go_must (refine Kd.R_append kT (w0 := w6) W.heap.size rfl (.tmp 74) (.tmp 76) 79 69 .nilIface 16 rfl Tryd.underlying79 info69 rfl (by decide) (by decide) (.slice (some ⟨g6, 0, none⟩) xl c6) xs x [.iface T u] (fun b => b ≠ g) (fun _ => False) rfl rfl (by rw [← HXE.out]; rfl) (fun _ hk => hk.elim) (fun k hk => by have := HP.out.1.lt; omega) HV6.out (Below.refl _ _) HLE.out (by have := HXB.out; omega) ?_; intro v7 w7 ho _ hg7 hat7; have HO7 := Aside0.mk ho; have HG7 := Aside0.mk hg7; have HAT7 := Aside0.mk hat7; clear ho hg7 hat7)))
              have HR7 : Aside0 (RdAt w7 g L5 false) := ⟨YtdbbcngmnpejnaaDoorW.PrintWords.blk_grown HP.out.1 HG7.out (fun e => HRO.out g e.symm rfl)⟩
              have HTK7 := Aside0.mk (take_calls g L5 false w7 HR7.out)
              obtain ⟨q, hq⟩ : ∃ q, takeC L5 = q := ⟨_, rfl⟩
              rw [hq, Bool.false_and] at HTK7
              generalize L5.tail = L6 at HTK7
              clear hq
              have HG67 : Aside0 (wr.grownBy w6 (some g)) := ⟨grown_two HG5.out HP.out.2⟩
              by_cases h41 : q = 41
              · have hz : (q == 41) = true := by rw [beq_iff_eq]; exact h41
                clear h41
                obtain ⟨g7, cap7, hv7, _⟩ := Kd.R_form HO7.out (by simp)
                rw [show (xs ++ [x]).length = xl + 1 by rw [List.length_append, List.length_singleton, HXL.out]] at hv7
                subst hv7
                go_upto_region 16 with (go_at_call 84; go_must (refine HTK7.out.mono ?_; rintro e w8 ⟨rfl, hr8, hg8⟩; have HR8 := Aside0.mk hr8; have HG8 := Aside0.mk hg8; clear hr8 hg8))
                obtain ⟨k0, k1, k2, k3⟩ := HR8.out.cells
                have HP8 := Aside0.mk (HR8.out.put false)
                have HV9 := Aside0.mk (Kd.R_far (Kd.R_grown HO7.out HG8.out fun k hk e => hk (by cases e; rfl)) (p := ⟨g, 1, none⟩) (fun k hk => hk) (.bool false))
                go_upto_region 17 with fail
                clear k0 k1 k2 k3
                generalize w8.setCell ⟨g, 1, none⟩ (.bool false) = w9 at HP8 HV9 ⊢
                have hgb : W.heap.size ≤ g7 := Kd.R_base HV9.out g7 rfl
                have hg7g : g7 ≠ g := HV9.out.1 g7 rfl
                have hg71 : g7 ≠ 1 := by
                  have h1 := World.block_lt_of_cell? W _ (HT.out 0 (by decide))
                  have h2 : (1 : Nat) < W.heap.size := h1
                  omega
                have H69 : ∀ k, k < w6.heap.size → some k ≠ (Value.slice (some ⟨g6, 0, none⟩) xl c6).ownBlock → k ≠ g → w9.heap[k]? = w6.heap[k]? := fun k hk h1 h2 => by
                  have e1 := HG7.out.block k hk h1
                  have e2 := HG8.out.block k (Nat.lt_of_lt_of_le hk HG7.out.size) (fun e => h2 (by cases e; rfl))
                  have e3 := HP8.out.2.block k (Nat.lt_of_lt_of_le hk (Nat.le_trans HG7.out.size HG8.out.size)) (fun e => h2 (by cases e; rfl))
                  exact e3.trans (e2.trans e1)
                have H69s : w6.heap.size ≤ w9.heap.size := Nat.le_trans HG7.out.size (Nat.le_trans HG8.out.size HP8.out.2.size)
                have hne7 : ∀ k, k < w6.heap.size → some k ≠ (Value.slice (some ⟨g6, 0, none⟩) xl c6).ownBlock → k ≠ g7 := fun k hk hn e => by
                  rcases HAT7.out with h | ⟨b', h, hb'⟩
                  · exact hn (by rw [← h, e]; rfl)
                  · have h3 : some g7 = some b' := h
                    cases h3; omega
                have H56 : ∀ k, k < w5.heap.size → k ≠ g → w6.heap[k]? = w5.heap[k]? := fun k hk h2 => HP.out.2.block k hk (fun e => h2 (by cases e; rfl))
                have HOK9 : Aside0 (∀ y ∈ xs ++ [x], TOk w9 (fun b => W.heap.size ≤ b ∧ b ≠ g7) y) := ⟨fun y hy => by
                  rcases List.mem_append.mp hy with hy | hy
                  · refine (HOK.out y hy).move (Nat.le_trans HG67.out.size H69s) (fun b hb hl => ?_) fun b hb hl => ⟨hb.1, hne7 b (Nat.lt_of_lt_of_le hl HG67.out.size) hb.2.1⟩
                    exact (H69 b (Nat.lt_of_lt_of_le hl HG67.out.size) hb.2.1 hb.2.2).trans (HG67.out.block b hl fun e => hb.2.2 (by cases e; rfl))
                  · rw [List.mem_singleton.mp hy]
                    have hx5 : TOk w5 (fun b => wr.heap.size ≤ b) x := ⟨by rw [HXE.out, HX2.out]; exact HT5.out, by rw [HX2.out]; exact HS5.out⟩
                    have hap : ∀ b, wr.heap.size ≤ b → some b ≠ (Value.slice (some ⟨g6, 0, none⟩) xl c6).ownBlock := fun b hb e => by
                      obtain ⟨cs, h⟩ := Kd.R_typed HV.out b e.symm
                      have := YtdbbcngmnpejnaaDoorW.PrintWords.blk_lt h
                      omega
                    have hbg : ∀ b, wr.heap.size ≤ b → b ≠ g := fun b hb e => by have := HR.out.lt; omega
                    refine hx5.move (Nat.le_trans HP.out.2.size H69s) (fun b hb hl => ?_) fun b hb hl => ⟨Nat.le_trans HW8.out hb, hne7 b (Nat.lt_of_lt_of_le hl HP.out.2.size) (hap b hb)⟩
                    exact (H69 b (Nat.lt_of_lt_of_le hl HP.out.2.size) (hap b hb) (hbg b hb)).trans (H56 b hl (hbg b hb))⟩
                have HG9 := Aside0.mk (grown_two (grown_two (grown_row (grown_two HG.out HG67.out) HG7.out fun j hj => Kd.R_base HV6.out j hj) HG8.out) HP8.out.2)
                have HT9 : Aside0 (TabAt w9) := ⟨fun j hj => by
                  have h1 := HT.out j hj
                  have hl := World.block_lt_of_cell? W _ h1
                  exact (World.cell?_of_block (HG9.out.block 1 hl (fun e => hg1 (by cases e; rfl)))).trans h1⟩
                have HVT := Aside0.mk (Kd.R_mono HV9.out (ok' := fun _ => True) fun _ _ => trivial)
                clear H69 H56 hne7 H69s
                rcases Nat.eq_zero_or_pos xl with hx0 | hx0
                · have hxe : xs = [] := List.length_eq_zero_iff.mp (by rw [HXL.out]; exact hx0)
                  have hR := HVT.out
                  rw [hxe, hx0, List.nil_append] at hR
                  have HOF := Aside0.mk (of_one hR)
                  have HXO := Aside0.mk (HOK9.out x (by rw [hxe]; simp))
                  subst hx0
                  clear hxe hR
                  go_wp2_with (go_at_call 70; go_must (refine HOF.out.mono ?_; rintro e wa ⟨rfl, rfl⟩))
                  go_ret
                  exact ⟨Or.inr ⟨HZ1.out.symm, encT x, rfl, Or.inr ⟨x.2, (HXO.out.move (Nat.le_refl _) (fun _ _ _ => rfl) fun b hb _ => hb.1).1, HXO.out.2⟩, L6, HP8.out.1⟩, HG9.out⟩
                · have hlen : (xs ++ [x]).length = xl + 1 := by rw [List.length_append, List.length_singleton, HXL.out]
                  have HOF := Aside0.mk (of_many HVT.out hlen.symm (fun y hy => (HOK9.out y hy).move (Nat.le_refl _) (fun _ _ _ => rfl) fun b hb _ => hb.2) HT9.out hg71 (by have := HXB.out; have := HXL.out; omega) (by omega))
                  have HLEN := Aside0.mk hlen
                  clear hx0 hlen
                  go_wp2_with (go_at_call 70; go_must (refine HOF.out.mono ?_; rintro e wa ⟨ys, rfl, hp, hs, hR, hg⟩; have HPY := Aside0.mk hp; have HRY := Aside0.mk hR; have HGY := Aside0.mk hg; clear hp hs hR hg))
                  go_ret
                  have hsm : Small (.node (ys.map (·.2))) := by
                    refine ⟨?_, ?_⟩
                    · obtain ⟨i, hi⟩ := ne_bit (HOK9.out x (by simp)).2.1
                      rw [set_node]
                      exact bit_ne (i := i) (sets_bit.mpr ⟨x.2, List.mem_map.mpr ⟨x, HPY.out.mem_iff.mpr (by simp), rfl⟩, hi⟩)
                    · rw [set_node]
                      exact sets_lt fun t ht => by
                        obtain ⟨z, hz, rfl⟩ := List.mem_map.mp ht
                        exact (HOK9.out z (HPY.out.mem_iff.mp hz)).2
                  exact ⟨Or.inr ⟨HZ1.out.symm, .iface 111 (.agg #[.int .i64 ((BT.sets (ys.map (·.2)) : Nat) : Int), .slice (some ⟨g7, 0, none⟩) (xl + 1) cap7]), rfl, Or.inr ⟨.node (ys.map (·.2)), family_of hgb HRY.out (by rw [HPY.out.length_eq]; exact HLEN.out.symm) HGY.out HOK9.out HPY.out, hsm⟩, L6, YtdbbcngmnpejnaaDoorW.PrintWords.blk_grown HP8.out.1 HGY.out (fun e => hg7g (by cases e; rfl))⟩, grown_row HG9.out HGY.out fun j hj => by cases hj; exact hgb⟩
              · have hz : (q == 41) = false := by rw [beq_eq_false_iff_ne]; exact h41
                by_cases h44 : q = 44
                · have hz2 : (q == 44) = true := by rw [beq_iff_eq]; exact h44
                  clear h41 h44
                  go_wp2_with (go_at_call 84; go_must (refine HTK7.out.mono ?_; rintro e w8 ⟨rfl, hr8, hg8⟩; have HR8 := Aside0.mk hr8; have HG8 := Aside0.mk hg8; clear hr8 hg8))
                  go_roundg 1
                  case measure => omega
                  case rel => exact ⟨_, all ||| t.set, 0, rfl, rfl, or_256 hall HS5.out.2, Nat.le_refl _, ⟨Or.inr ⟨HZ1.out.symm, L6, HR8.out⟩⟩, ⟨grown_two (grown_row (grown_two HG.out HG67.out) HG7.out fun j hj => Kd.R_base HV6.out j hj) HG8.out⟩⟩
                · have hz2 : (q == 44) = false := by rw [beq_eq_false_iff_ne]; exact h44
                  clear h41 h44
                  go_upto_region 14 with (go_at_call 84; go_must (refine HTK7.out.mono ?_; rintro e w8 ⟨rfl, hr8, hg8⟩; have HR8 := Aside0.mk hr8; have HG8 := Aside0.mk hg8; clear hr8 hg8))
                  obtain ⟨k0, k1, k2, k3⟩ := HR8.out.cells
                  have HP8 := Aside0.mk (HR8.out.put false)
                  go_wp2
                  clear k0 k1 k2 k3
                  generalize w8.setCell ⟨g, 1, none⟩ (.bool false) = w9 at HP8 ⊢
                  go_roundg 1
                  case measure => omega
                  case rel => exact ⟨_, all ||| t.set, 0, rfl, rfl, or_256 hall HS5.out.2, Nat.le_refl _, ⟨Or.inr ⟨HZ1.out.symm, L6, HP8.out.1⟩⟩, ⟨grown_two (grown_two (grown_row (grown_two HG.out HG67.out) HG7.out fun j hj => Kd.R_base HV6.out j hj) HG8.out) HP8.out.2⟩⟩
        · have HZ1 : Aside0 (none = Z) := ⟨by rw [← HZ0.out, if_neg (by unfold nextOk; rw [decide_eq_false ha]; simp)]⟩
          have HP := Aside0.mk (HR5.out.put false)
          have HV6 := Aside0.mk (Kd.R_far HV5.out (p := ⟨g, 1, none⟩) (fun k hk => hk) (.bool false))
          have haz : (((t.set &&& all : Nat) : Int) == 0) = false := by rw [beq_eq_false_iff_ne]; omega
          clear ha
          generalize ((t.set &&& all : Nat) : Int) = an at hand haz
          generalize hst : ((t.set : Nat) : Int) = ts at hm hor hand
          go_upto_region 11 with (go_at_call 134; go_must (refine (set_beasts _ _).mono ?_; rintro e w9 ⟨rfl, rfl⟩))
          clear haz hand
          clear e0 e1 e2 e3
          generalize w5.setCell ⟨g, 1, none⟩ (.bool false) = w6 at HP HV6 ⊢
          have HLE : Aside0 (W.heap.size ≤ w6.heap.size) := ⟨Nat.le_trans HW8.out (Nat.le_trans HG5.out.size HP.out.2.size)⟩
          have HRO : Aside0 (∀ k, (Value.slice A6 xl c6).ownBlock = some k → k ≠ g) := ⟨HV.out.1⟩
          go_upto_region 13 with (first | (go_at_call 134; go_must (refine (set_beasts _ _).mono ?_; rintro e w9 ⟨rfl, rfl⟩)) | (at_builtin; go_must (refine Kd.R_append kT (w0 := w6) W.heap.size rfl (.tmp 74) (.tmp 76) 79 69 .nilIface 16 rfl Tryd.underlying79 info69 rfl (by decide) (by decide) (.slice A6 xl c6) xs x [.iface T u] (fun b => b ≠ g) (fun _ => False) rfl rfl (by rw [← HXE.out]; rfl) (fun _ hk => hk.elim) (fun k hk => by have := HP.out.1.lt; omega) HV6.out (Below.refl _ _) HLE.out (by have := HXB.out; omega) ?_; intro v7 w7 ho _ hg7 hat7; have HO7 := Aside0.mk ho; have HG7 := Aside0.mk hg7; have HAT7 := Aside0.mk hat7; clear ho hg7 hat7)))
          have HR7 : Aside0 (RdAt w7 g L5 false) := ⟨YtdbbcngmnpejnaaDoorW.PrintWords.blk_grown HP.out.1 HG7.out (fun e => HRO.out g e.symm rfl)⟩
          have HTK7 := Aside0.mk (take_calls g L5 false w7 HR7.out)
          obtain ⟨q, hq⟩ : ∃ q, takeC L5 = q := ⟨_, rfl⟩
          rw [hq, Bool.false_and] at HTK7
          generalize L5.tail = L6 at HTK7
          clear hq
          have HG67 : Aside0 (wr.grownBy w6 (some g)) := ⟨grown_two HG5.out HP.out.2⟩
          by_cases h41 : q = 41
          · have hz : (q == 41) = true := by rw [beq_iff_eq]; exact h41
            clear h41
            obtain ⟨g7, cap7, hv7, _⟩ := Kd.R_form HO7.out (by simp)
            rw [show (xs ++ [x]).length = xl + 1 by rw [List.length_append, List.length_singleton, HXL.out]] at hv7
            subst hv7
            go_upto_region 16 with (go_at_call 84; go_must (refine HTK7.out.mono ?_; rintro e w8 ⟨rfl, hr8, hg8⟩; have HR8 := Aside0.mk hr8; have HG8 := Aside0.mk hg8; clear hr8 hg8))
            obtain ⟨k0, k1, k2, k3⟩ := HR8.out.cells
            have HP8 := Aside0.mk (HR8.out.put false)
            have HV9 := Aside0.mk (Kd.R_far (Kd.R_grown HO7.out HG8.out fun k hk e => hk (by cases e; rfl)) (p := ⟨g, 1, none⟩) (fun k hk => hk) (.bool false))
            go_upto_region 17 with fail
            clear k0 k1 k2 k3
            generalize w8.setCell ⟨g, 1, none⟩ (.bool false) = w9 at HP8 HV9 ⊢
            have hgb : W.heap.size ≤ g7 := Kd.R_base HV9.out g7 rfl
            have hg7g : g7 ≠ g := HV9.out.1 g7 rfl
            have hg71 : g7 ≠ 1 := by
              have h1 := World.block_lt_of_cell? W _ (HT.out 0 (by decide))
              have h2 : (1 : Nat) < W.heap.size := h1
              omega
            have H69 : ∀ k, k < w6.heap.size → some k ≠ (Value.slice A6 xl c6).ownBlock → k ≠ g → w9.heap[k]? = w6.heap[k]? := fun k hk h1 h2 => by
              have e1 := HG7.out.block k hk h1
              have e2 := HG8.out.block k (Nat.lt_of_lt_of_le hk HG7.out.size) (fun e => h2 (by cases e; rfl))
              have e3 := HP8.out.2.block k (Nat.lt_of_lt_of_le hk (Nat.le_trans HG7.out.size HG8.out.size)) (fun e => h2 (by cases e; rfl))
              exact e3.trans (e2.trans e1)
            have H69s : w6.heap.size ≤ w9.heap.size := Nat.le_trans HG7.out.size (Nat.le_trans HG8.out.size HP8.out.2.size)
            have hne7 : ∀ k, k < w6.heap.size → some k ≠ (Value.slice A6 xl c6).ownBlock → k ≠ g7 := fun k hk hn e => by
              rcases HAT7.out with h | ⟨b', h, hb'⟩
              · exact hn (by rw [← h, e]; rfl)
              · have h3 : some g7 = some b' := h
                cases h3; omega
            have H56 : ∀ k, k < w5.heap.size → k ≠ g → w6.heap[k]? = w5.heap[k]? := fun k hk h2 => HP.out.2.block k hk (fun e => h2 (by cases e; rfl))
            have HOK9 : Aside0 (∀ y ∈ xs ++ [x], TOk w9 (fun b => W.heap.size ≤ b ∧ b ≠ g7) y) := ⟨fun y hy => by
              rcases List.mem_append.mp hy with hy | hy
              · refine (HOK.out y hy).move (Nat.le_trans HG67.out.size H69s) (fun b hb hl => ?_) fun b hb hl => ⟨hb.1, hne7 b (Nat.lt_of_lt_of_le hl HG67.out.size) hb.2.1⟩
                exact (H69 b (Nat.lt_of_lt_of_le hl HG67.out.size) hb.2.1 hb.2.2).trans (HG67.out.block b hl fun e => hb.2.2 (by cases e; rfl))
              · rw [List.mem_singleton.mp hy]
                have hx5 : TOk w5 (fun b => wr.heap.size ≤ b) x := ⟨by rw [HXE.out, HX2.out]; exact HT5.out, by rw [HX2.out]; exact HS5.out⟩
                have hap : ∀ b, wr.heap.size ≤ b → some b ≠ (Value.slice A6 xl c6).ownBlock := fun b hb e => by
                  obtain ⟨cs, h⟩ := Kd.R_typed HV.out b e.symm
                  have := YtdbbcngmnpejnaaDoorW.PrintWords.blk_lt h
                  omega
                have hbg : ∀ b, wr.heap.size ≤ b → b ≠ g := fun b hb e => by have := HR.out.lt; omega
                refine hx5.move (Nat.le_trans HP.out.2.size H69s) (fun b hb hl => ?_) fun b hb hl => ⟨Nat.le_trans HW8.out hb, hne7 b (Nat.lt_of_lt_of_le hl HP.out.2.size) (hap b hb)⟩
                exact (H69 b (Nat.lt_of_lt_of_le hl HP.out.2.size) (hap b hb) (hbg b hb)).trans (H56 b hl (hbg b hb))⟩
            have HG9 := Aside0.mk (grown_two (grown_two (grown_row (grown_two HG.out HG67.out) HG7.out fun j hj => Kd.R_base HV6.out j hj) HG8.out) HP8.out.2)
            have HT9 : Aside0 (TabAt w9) := ⟨fun j hj => by
              have h1 := HT.out j hj
              have hl := World.block_lt_of_cell? W _ h1
              exact (World.cell?_of_block (HG9.out.block 1 hl (fun e => hg1 (by cases e; rfl)))).trans h1⟩
            have HVT := Aside0.mk (Kd.R_mono HV9.out (ok' := fun _ => True) fun _ _ => trivial)
            clear H69 H56 hne7 H69s
            rcases Nat.eq_zero_or_pos xl with hx0 | hx0
            · have hxe : xs = [] := List.length_eq_zero_iff.mp (by rw [HXL.out]; exact hx0)
              have hR := HVT.out
              rw [hxe, hx0, List.nil_append] at hR
              have HOF := Aside0.mk (of_one hR)
              have HXO := Aside0.mk (HOK9.out x (by rw [hxe]; simp))
              subst hx0
              clear hxe hR
              go_wp2_with (go_at_call 70; go_must (refine HOF.out.mono ?_; rintro e wa ⟨rfl, rfl⟩))
              go_ret
              exact ⟨Or.inr ⟨HZ1.out.symm, encT x, rfl, Or.inr ⟨x.2, (HXO.out.move (Nat.le_refl _) (fun _ _ _ => rfl) fun b hb _ => hb.1).1, HXO.out.2⟩, L6, HP8.out.1⟩, HG9.out⟩
            · have hlen : (xs ++ [x]).length = xl + 1 := by rw [List.length_append, List.length_singleton, HXL.out]
              have HOF := Aside0.mk (of_many HVT.out hlen.symm (fun y hy => (HOK9.out y hy).move (Nat.le_refl _) (fun _ _ _ => rfl) fun b hb _ => hb.2) HT9.out hg71 (by have := HXB.out; have := HXL.out; omega) (by omega))
              have HLEN := Aside0.mk hlen
              clear hx0 hlen
              go_wp2_with (go_at_call 70; go_must (refine HOF.out.mono ?_; rintro e wa ⟨ys, rfl, hp, hs, hR, hg⟩; have HPY := Aside0.mk hp; have HRY := Aside0.mk hR; have HGY := Aside0.mk hg; clear hp hs hR hg))
              go_ret
              have hsm : Small (.node (ys.map (·.2))) := by
                refine ⟨?_, ?_⟩
                · obtain ⟨i, hi⟩ := ne_bit (HOK9.out x (by simp)).2.1
                  rw [set_node]
                  exact bit_ne (i := i) (sets_bit.mpr ⟨x.2, List.mem_map.mpr ⟨x, HPY.out.mem_iff.mpr (by simp), rfl⟩, hi⟩)
                · rw [set_node]
                  exact sets_lt fun t ht => by
                    obtain ⟨z, hz, rfl⟩ := List.mem_map.mp ht
                    exact (HOK9.out z (HPY.out.mem_iff.mp hz)).2
              exact ⟨Or.inr ⟨HZ1.out.symm, .iface 111 (.agg #[.int .i64 ((BT.sets (ys.map (·.2)) : Nat) : Int), .slice (some ⟨g7, 0, none⟩) (xl + 1) cap7]), rfl, Or.inr ⟨.node (ys.map (·.2)), family_of hgb HRY.out (by rw [HPY.out.length_eq]; exact HLEN.out.symm) HGY.out HOK9.out HPY.out, hsm⟩, L6, YtdbbcngmnpejnaaDoorW.PrintWords.blk_grown HP8.out.1 HGY.out (fun e => hg7g (by cases e; rfl))⟩, grown_row HG9.out HGY.out fun j hj => by cases hj; exact hgb⟩
          · have hz : (q == 41) = false := by rw [beq_eq_false_iff_ne]; exact h41
            by_cases h44 : q = 44
            · have hz2 : (q == 44) = true := by rw [beq_iff_eq]; exact h44
              clear h41 h44
              go_wp2_with (go_at_call 84; go_must (refine HTK7.out.mono ?_; rintro e w8 ⟨rfl, hr8, hg8⟩; have HR8 := Aside0.mk hr8; have HG8 := Aside0.mk hg8; clear hr8 hg8))
              go_roundg 1
              case measure => omega
              case rel => exact ⟨_, all ||| t.set, 0, rfl, rfl, or_256 hall HS5.out.2, Nat.le_refl _, ⟨Or.inr ⟨HZ1.out.symm, L6, HR8.out⟩⟩, ⟨grown_two (grown_row (grown_two HG.out HG67.out) HG7.out fun j hj => Kd.R_base HV6.out j hj) HG8.out⟩⟩
            · have hz2 : (q == 44) = false := by rw [beq_eq_false_iff_ne]; exact h44
              clear h41 h44
              go_upto_region 14 with (go_at_call 84; go_must (refine HTK7.out.mono ?_; rintro e w8 ⟨rfl, hr8, hg8⟩; have HR8 := Aside0.mk hr8; have HG8 := Aside0.mk hg8; clear hr8 hg8))
              obtain ⟨k0, k1, k2, k3⟩ := HR8.out.cells
              have HP8 := Aside0.mk (HR8.out.put false)
              go_wp2
              clear k0 k1 k2 k3
              generalize w8.setCell ⟨g, 1, none⟩ (.bool false) = w9 at HP8 ⊢
              go_roundg 1
              case measure => omega
              case rel => exact ⟨_, all ||| t.set, 0, rfl, rfl, or_256 hall HS5.out.2, Nat.le_refl _, ⟨Or.inr ⟨HZ1.out.symm, L6, HP8.out.1⟩⟩, ⟨grown_two (grown_two (grown_row (grown_two HG.out HG67.out) HG7.out fun j hj => Kd.R_base HV6.out j hj) HG8.out) HP8.out.2⟩⟩
    · have HZ1 := Aside0.mk hZ1
      have HR := Aside0.mk hR
      obtain ⟨d0, d1, _, _⟩ := hR.cells
      clear HLS hZ1 hR
      go_wp2
      go_ret
      exact ⟨Or.inr ⟨HZ1.out, _, rfl, Or.inl rfl, L1, HR.out⟩, HG.out⟩
/-- The reader's tree. -/
theorem rd_calls (f : Nat) : RdC f := by
  induction f using Nat.strongRecOn with
  | ind f0 IH =>
  match f0, IH with
  | 0, _ => exact fun L g W h => absurd h (by omega)
  | f + 1, IH =>
    intro L g W hf h hT hg1
    cases L with
    | nil =>
      rw [readP]
      exact rd_no g [] W h false rfl 0 rfl (by omega) (fun h => (by cases h))
    | cons c L =>
      rw [readP]
      rw [List.length_cons] at hf
      split
      · rename_i hc
        obtain ⟨i, hi⟩ : ∃ i, c.toNat = 48 + i := ⟨c.toNat - 48, by omega⟩
        rw [show c.toNat - 48 = i by omega]
        exact rd_leaf g c L W h i (by omega) hi
      · rename_i hc
        by_cases h40 : c.toNat = 40
        · rw [if_pos h40]
          exact rd_fam f (fun f' h => IH f' (by omega)) g L W c h40 h hT hg1 (by omega)
        · rw [if_neg h40]
          exact rd_no g (c :: L) W h true (by simp) ((c.toNat : Nat) : Int) rfl (by omega) fun _ e => h40 (by omega)
end Go.Proofs.YtdbbcngmnpejnaaDoor.B

/- breed.parse, walked. -/
namespace Go.Proofs.YtdbbcngmnpejnaaDoor.B
open Go.Proofs.YtdbbcngmnpejnaaDoor.A
open Go.RowKit Go.Proofs.YtdbbcngmnpejnaaDoorW.PrintWords Go.Proofs.YtdbbcngmnpejnaaDoorW.PrintMore
/-- A tree of n beasts, as it is parsed. -/
def parseF (n : Nat) (L : List UInt8) : Option BT := match readP (2 * L.length + 1) L with
  | none => none
  | some (t, L') => if L' = [] ∧ t.set = 2 ^ n - 1 then some t else none
theorem parseF_good {n : Nat} {L : List UInt8} {t : BT} (h : parseF n L = some t) : t.Good ∧ t.set = 2 ^ n - 1 := by
  unfold parseF at h
  cases hr : readP (2 * L.length + 1) L with
  | none => rw [hr] at h; cases h
  | some q =>
    obtain ⟨u, L'⟩ := q
    rw [hr] at h
    dsimp only at h
    split at h
    · rename_i h2
      cases h
      exact ⟨((read_goods _).1 _ _ _ hr).1, h2.2⟩
    · cases h
set_option maxRecDepth 100000 in
set_option maxHeartbeats 3200000 in
/-- breed.parse. -/
theorem parse_calls (n : Nat) (h1 : 1 ≤ n) (h8 : n ≤ 8) (L : List UInt8) (W : World) (hT : TabAt W) : Calls Tryd.prog 61 #[.int .i64 n, .string (strB L)] W (TreePost (parseF n L) W) := by
  have HT := Aside0.mk hT
  have HTW : Aside0 (1 < W.heap.size) := ⟨World.block_lt_of_cell? W _ (hT 0 (by decide))⟩
  obtain ⟨Z, hZ⟩ : ∃ Z, parseF n L = Z := ⟨_, rfl⟩
  rw [hZ]
  unfold parseF at hZ
  have HZ := Aside0.mk hZ
  have hp := pow_256 h8
  have hp2 : 2 ≤ 2 ^ n := by
    obtain ⟨m', rfl⟩ : ∃ m', n = m' + 1 := ⟨n - 1, by omega⟩
    have := Nat.two_pow_pos m'
    rw [Nat.pow_succ]; omega
  have hw1 := wrap_pow h8
  have hw2 := wrap64_pow h8
  generalize hN : 2 ^ n = N at hp hp2 hw1 hw2 HZ
  have HA2 : Aside0 (Below W.heap.size W (W.alloc (.cells #[.string (strB L), .bool true] 116))) := ⟨(Below.refl _ _).alloc (Nat.le_refl _) _⟩
  have HR2 : Aside0 (RdAt (W.alloc (.cells #[.string (strB L), .bool true] 116)) W.heap.size L true) := ⟨heap_alloc_new W _⟩
  generalize hsb : strB L = sb at HA2 HR2 ⊢
  clear hT hZ
  go_enter Tryd.func61, Tryd.ntmps61
  go_upto_region 2 with fail
  generalize W.alloc (.cells #[.string sb, .bool true] 116) = W2 at HA2 HR2 ⊢
  have HC := Aside0.mk (rd_calls (2 * L.length + 1) L W.heap.size W2 (Nat.le_refl _) HR2.out (HT.out.next HA2.out) (by have := HTW.out; omega))
  have HC2 : Aside0 (Calls Tryd.prog 77 #[.pointer (some ⟨W.heap.size, 0, none⟩)] W2 fun e w' => ∃ v, e = .returned v ∧ RdPost (readP (2 * L.length + 1) L) W.heap.size W2 (.returned v) w') := ⟨HC.out.mono (by
    rintro e w' ⟨⟨t, L', v, h1, rfl, h2⟩ | ⟨h1, v, rfl, h2⟩, h3⟩
    · exact ⟨v, rfl, Or.inl ⟨t, L', v, h1, rfl, h2⟩, h3⟩
    · exact ⟨v, rfl, Or.inr ⟨h1, v, rfl, h2⟩, h3⟩)⟩
  clear HC
  go_upto_region 3 with (go_at_call 77; go_must (refine HC2.out.mono ?_; rintro e w3 ⟨v3, rfl, hcase, hg3⟩; have HG3 := Aside0.mk hg3; clear hg3))
  have HB3 : Aside0 (Below W.heap.size W w3) := ⟨⟨HG3.out.os.trans HA2.out.os, HG3.out.tape.trans HA2.out.tape, HG3.out.output.trans HA2.out.output, Nat.le_trans HA2.out.size HG3.out.size, fun k hk => (HG3.out.block k (Nat.lt_of_lt_of_le hk HA2.out.size) (fun e => by cases e; omega)).trans (HA2.out.block k hk)⟩⟩
  have HD3 : Aside0 (Below W.heap.size W w3.drew) := ⟨below_drew HB3.out⟩
  rcases hcase with ⟨t, L', v, hr, hv, ht, hR⟩ | ⟨hr, v, hv, hnt, L', hR⟩
  · cases hv
    have HTV : Aside0 (TrV w3.drew (fun b => W.heap.size ≤ b) v3 t) := ⟨TrV.move (W := w3) (W' := w3.drew) (Nat.le_refl _) (fun _ _ _ => rfl) (fun b hb _ => Nat.le_trans HA2.out.size hb) ht⟩
    obtain ⟨T, u, rfl, hm⟩ := ht.ask
    have HSM := Aside0.mk ((read_goods _).1 _ _ _ hr).1.small
    have HZ2 : Aside0 ((if L' = [] ∧ t.set = N - 1 then some t else none) = Z) := ⟨by have h := HZ.out; rw [hr] at h; exact h⟩
    obtain ⟨c0, c1, _, _⟩ := hR.cells
    clear ht hr HZ hR hN HR2 HC2
    cases L' with
    | nil =>
      obtain ⟨sl, hsl⟩ : ∃ sl, strB [] = sl := ⟨_, rfl⟩
      have hie : sl.toList.isEmpty = true := by rw [← hsl, strB_toList]; rfl
      rw [hsl] at c0
      clear hsl
      obtain ⟨P, hP⟩ : ∃ P : Int, ((N : Nat) : Int) = P := ⟨_, rfl⟩
      have hpb : 2 ≤ P ∧ P ≤ 256 := by omega
      obtain ⟨ts, hts⟩ : ∃ ts : Int, ((t.set : Nat) : Int) = ts := ⟨_, rfl⟩
      rw [hP] at hw1 hw2
      rw [hts] at hm
      by_cases hq : t.set = N - 1
      · have HZ3 : Aside0 (some t = Z) := ⟨by rw [← HZ2.out, if_pos ⟨rfl, hq⟩]⟩
        have hqz : (ts != IntKind.i64.wrap (P - 1)) = false := by rw [wrap64_nat (P - 1) (by omega) (by omega), bne_eq_false_iff_eq]; omega
        clear hq hts hP hp hp2
        refine wp_region_noPanic ?_
        refine wp_region_held_drew (S := fun w' => w'.cell? ⟨W.heap.size, 0, none⟩ = some (.string sl) ∧ w'.cell? ⟨W.heap.size, 1, none⟩ = some (.bool true)) (by kernel_rfl) (⟨c0, c1⟩) (fun hHeld => ?_)
        refine H_on 0 10 ?vc0 rfl rfl (by kernel_rfl) (by kernel_rfl) (by kernel_rfl) (by rfl) ?hc0 hHeld ?rc0
        case hc0 => (intro w hSw; obtain ⟨s0, s1⟩ := hSw; go_simp <;> with_reducible rfl)
        simp only [Act.put, List.setIfInBounds_toArray, List.set_cons_zero, List.set_cons_succ]
        refine H_on 1 11 ?vc1 rfl rfl (by kernel_rfl) (by kernel_rfl) (by kernel_rfl) (by rfl) ?hc1 hHeld ?rc1
        case hc1 => (intro w hSw; obtain ⟨s0, s1⟩ := hSw; go_simp <;> with_reducible rfl)
        simp only [Act.put, List.setIfInBounds_toArray, List.set_cons_zero, List.set_cons_succ]
        refine H_on 2 12 ?vc2 rfl rfl (by kernel_rfl) (by kernel_rfl) (by kernel_rfl) (by rfl) ?hc2 hHeld ?rc2
        case hc2 => (intro w hSw; obtain ⟨s0, s1⟩ := hSw; go_simp <;> with_reducible rfl)
        simp only [Act.put, List.setIfInBounds_toArray, List.set_cons_zero, List.set_cons_succ]
        refine H_on 3 13 ?vc3 rfl rfl (by kernel_rfl) (by kernel_rfl) (by kernel_rfl) (by rfl) ?hc3 hHeld ?rc3
        case hc3 => (intro w hSw; obtain ⟨s0, s1⟩ := hSw; go_simp <;> with_reducible rfl)
        simp only [Act.put, List.setIfInBounds_toArray, List.set_cons_zero, List.set_cons_succ]
        refine H_on 4 14 ?vc4 rfl rfl (by kernel_rfl) (by kernel_rfl) (by kernel_rfl) (by rfl) ?hc4 hHeld ?rc4
        case hc4 => (intro w hSw; obtain ⟨s0, s1⟩ := hSw; go_simp <;> with_reducible rfl)
        simp only [Act.put, List.setIfInBounds_toArray, List.set_cons_zero, List.set_cons_succ]
        refine H_on 5 15 ?vc5 rfl rfl (by kernel_rfl) (by kernel_rfl) (by kernel_rfl) (by rfl) ?hc5 hHeld ?rc5
        case hc5 => (intro w hSw; obtain ⟨s0, s1⟩ := hSw; go_simp <;> with_reducible rfl)
        simp only [Act.put, List.setIfInBounds_toArray, List.set_cons_zero, List.set_cons_succ]
        refine H_on 6 16 ?vc6 rfl rfl (by kernel_rfl) (by kernel_rfl) (by kernel_rfl) (by rfl) ?hc6 hHeld ?rc6
        case hc6 => (intro w hSw; obtain ⟨s0, s1⟩ := hSw; go_simp <;> with_reducible rfl)
        simp only [Act.put, List.setIfInBounds_toArray, List.set_cons_zero, List.set_cons_succ]
        refine H_on 7 17 ?vc7 rfl rfl (by kernel_rfl) (by kernel_rfl) (by kernel_rfl) (by rfl) ?hc7 hHeld ?rc7
        case hc7 => (intro w hSw; obtain ⟨s0, s1⟩ := hSw; go_simp <;> with_reducible rfl)
        simp only [Act.put, List.setIfInBounds_toArray, List.set_cons_zero, List.set_cons_succ]
        refine H_on 8 18 ?vc8 rfl rfl (by kernel_rfl) (by kernel_rfl) (by kernel_rfl) (by rfl) ?hc8 hHeld ?rc8
        case hc8 => (intro w hSw; obtain ⟨s0, s1⟩ := hSw; go_simp <;> with_reducible rfl)
        simp only [Act.put, List.setIfInBounds_toArray, List.set_cons_zero, List.set_cons_succ]
        refine H_on 9 19 ?vc9 rfl rfl (by kernel_rfl) (by kernel_rfl) (by kernel_rfl) (by rfl) ?hc9 hHeld ?rc9
        case hc9 => (intro w hSw; obtain ⟨s0, s1⟩ := hSw; go_simp <;> with_reducible rfl)
        simp only [Act.put, List.setIfInBounds_toArray, List.set_cons_zero, List.set_cons_succ]
        refine H_on 10 20 ?vc10 rfl rfl (by kernel_rfl) (by kernel_rfl) (by kernel_rfl) (by rfl) ?hc10 hHeld ?rc10
        case hc10 => (intro w hSw; obtain ⟨s0, s1⟩ := hSw; go_simp <;> with_reducible rfl)
        simp only [Act.put, List.setIfInBounds_toArray, List.set_cons_zero, List.set_cons_succ]
        refine H_on 11 21 ?vc11 rfl rfl (by kernel_rfl) (by kernel_rfl) (by kernel_rfl) (by rfl) ?hc11 hHeld ?rc11
        case hc11 => (intro w hSw; obtain ⟨s0, s1⟩ := hSw; go_simp <;> with_reducible rfl)
        simp only [Act.put, List.setIfInBounds_toArray, List.set_cons_zero, List.set_cons_succ]
        refine H_on 12 22 ?vc12 rfl rfl (by kernel_rfl) (by kernel_rfl) (by kernel_rfl) (by rfl) ?hc12 hHeld ?rc12
        case hc12 => (intro w hSw; obtain ⟨s0, s1⟩ := hSw; go_simp <;> with_reducible rfl)
        simp only [Act.put, List.setIfInBounds_toArray, List.set_cons_zero, List.set_cons_succ]
        refine H_on 13 23 ?vc13 rfl rfl (by kernel_rfl) (by kernel_rfl) (by kernel_rfl) (by rfl) ?hc13 hHeld ?rc13
        case hc13 => (intro w hSw; obtain ⟨s0, s1⟩ := hSw; go_simp <;> with_reducible rfl)
        simp only [Act.put, List.setIfInBounds_toArray, List.set_cons_zero, List.set_cons_succ]
        refine H_on 15 25 ?vc15 rfl rfl (by kernel_rfl) (by kernel_rfl) (by kernel_rfl) (by rfl) ?hc15 hHeld ?rc15
        case hc15 => (intro w hSw; obtain ⟨s0, s1⟩ := hSw; go_simp <;> with_reducible rfl)
        simp only [Act.put, List.setIfInBounds_toArray, List.set_cons_zero, List.set_cons_succ]
        refine H_on 16 26 ?vc16 rfl rfl (by kernel_rfl) (by kernel_rfl) (by kernel_rfl) (by rfl) ?hc16 hHeld ?rc16
        case hc16 => (intro w hSw; obtain ⟨s0, s1⟩ := hSw; go_simp <;> with_reducible rfl)
        simp only [Act.put, List.setIfInBounds_toArray, List.set_cons_zero, List.set_cons_succ]
        refine H_on 17 27 ?vc17 rfl rfl (by kernel_rfl) (by kernel_rfl) (by kernel_rfl) (by rfl) ?hc17 hHeld ?rc17
        case hc17 => (intro w hSw; obtain ⟨s0, s1⟩ := hSw; go_simp <;> with_reducible rfl)
        simp only [Act.put, List.setIfInBounds_toArray, List.set_cons_zero, List.set_cons_succ]
        refine wpAnyH_ready (rs := [14]) (by kernel_rfl) (by simp) ?_
        refine AllReadyH.cons rfl (fun K hK => ?_) AllReadyH.nil
        go_simp
        refine (set_beasts _ _).mono ?_
        rintro e w5 ⟨rfl, rfl⟩
        go_wp2_with fail
        refine hK.out _ _ (⟨c0, c1⟩) (fun hHeld => ?_)
        clear hK K
        try simp only [Act.put, List.setIfInBounds_toArray, List.set_cons_zero, List.set_cons_succ]
        refine H_on 18 28 ?vc18 rfl rfl (by kernel_rfl) (by kernel_rfl) (by kernel_rfl) (by rfl) ?hc18 hHeld ?rc18
        case hc18 => (intro w hSw; obtain ⟨s0, s1⟩ := hSw; go_simp <;> with_reducible rfl)
        simp only [Act.put, List.setIfInBounds_toArray, List.set_cons_zero, List.set_cons_succ]
        refine H_on 19 29 ?vc19 rfl rfl (by kernel_rfl) (by kernel_rfl) (by kernel_rfl) (by rfl) ?hc19 hHeld ?rc19
        case hc19 => (intro w hSw; obtain ⟨s0, s1⟩ := hSw; go_simp <;> with_reducible rfl)
        simp only [Act.put, List.setIfInBounds_toArray, List.set_cons_zero, List.set_cons_succ]
        refine wpAnyH_done (by kernel_rfl) ?_ _
        refine NoPanic.normal ?_
        clear hHeld
        go_wp2
        go_ret
        exact ⟨Or.inr ⟨t, .iface T u, HZ3.out.symm, rfl, HTV.out⟩, HD3.out⟩
      · have HZ3 : Aside0 (none = Z) := ⟨by rw [← HZ2.out, if_neg (fun h => hq h.2)]⟩
        have hqz : (ts != IntKind.i64.wrap (P - 1)) = true := by rw [wrap64_nat (P - 1) (by omega) (by omega), bne_iff_ne]; omega
        clear hq hts hP hp hp2
        refine wp_region_noPanic ?_
        refine wp_region_held_drew (S := fun w' => w'.cell? ⟨W.heap.size, 0, none⟩ = some (.string sl) ∧ w'.cell? ⟨W.heap.size, 1, none⟩ = some (.bool true)) (by kernel_rfl) (⟨c0, c1⟩) (fun hHeld => ?_)
        refine H_on 0 10 ?vd0 rfl rfl (by kernel_rfl) (by kernel_rfl) (by kernel_rfl) (by rfl) ?hd0 hHeld ?rd0
        case hd0 => (intro w hSw; obtain ⟨s0, s1⟩ := hSw; go_simp <;> with_reducible rfl)
        simp only [Act.put, List.setIfInBounds_toArray, List.set_cons_zero, List.set_cons_succ]
        refine H_on 1 11 ?vd1 rfl rfl (by kernel_rfl) (by kernel_rfl) (by kernel_rfl) (by rfl) ?hd1 hHeld ?rd1
        case hd1 => (intro w hSw; obtain ⟨s0, s1⟩ := hSw; go_simp <;> with_reducible rfl)
        simp only [Act.put, List.setIfInBounds_toArray, List.set_cons_zero, List.set_cons_succ]
        refine H_on 2 12 ?vd2 rfl rfl (by kernel_rfl) (by kernel_rfl) (by kernel_rfl) (by rfl) ?hd2 hHeld ?rd2
        case hd2 => (intro w hSw; obtain ⟨s0, s1⟩ := hSw; go_simp <;> with_reducible rfl)
        simp only [Act.put, List.setIfInBounds_toArray, List.set_cons_zero, List.set_cons_succ]
        refine H_on 3 13 ?vd3 rfl rfl (by kernel_rfl) (by kernel_rfl) (by kernel_rfl) (by rfl) ?hd3 hHeld ?rd3
        case hd3 => (intro w hSw; obtain ⟨s0, s1⟩ := hSw; go_simp <;> with_reducible rfl)
        simp only [Act.put, List.setIfInBounds_toArray, List.set_cons_zero, List.set_cons_succ]
        refine H_on 4 14 ?vd4 rfl rfl (by kernel_rfl) (by kernel_rfl) (by kernel_rfl) (by rfl) ?hd4 hHeld ?rd4
        case hd4 => (intro w hSw; obtain ⟨s0, s1⟩ := hSw; go_simp <;> with_reducible rfl)
        simp only [Act.put, List.setIfInBounds_toArray, List.set_cons_zero, List.set_cons_succ]
        refine H_on 5 15 ?vd5 rfl rfl (by kernel_rfl) (by kernel_rfl) (by kernel_rfl) (by rfl) ?hd5 hHeld ?rd5
        case hd5 => (intro w hSw; obtain ⟨s0, s1⟩ := hSw; go_simp <;> with_reducible rfl)
        simp only [Act.put, List.setIfInBounds_toArray, List.set_cons_zero, List.set_cons_succ]
        refine H_on 6 16 ?vd6 rfl rfl (by kernel_rfl) (by kernel_rfl) (by kernel_rfl) (by rfl) ?hd6 hHeld ?rd6
        case hd6 => (intro w hSw; obtain ⟨s0, s1⟩ := hSw; go_simp <;> with_reducible rfl)
        simp only [Act.put, List.setIfInBounds_toArray, List.set_cons_zero, List.set_cons_succ]
        refine H_on 7 17 ?vd7 rfl rfl (by kernel_rfl) (by kernel_rfl) (by kernel_rfl) (by rfl) ?hd7 hHeld ?rd7
        case hd7 => (intro w hSw; obtain ⟨s0, s1⟩ := hSw; go_simp <;> with_reducible rfl)
        simp only [Act.put, List.setIfInBounds_toArray, List.set_cons_zero, List.set_cons_succ]
        refine H_on 8 18 ?vd8 rfl rfl (by kernel_rfl) (by kernel_rfl) (by kernel_rfl) (by rfl) ?hd8 hHeld ?rd8
        case hd8 => (intro w hSw; obtain ⟨s0, s1⟩ := hSw; go_simp <;> with_reducible rfl)
        simp only [Act.put, List.setIfInBounds_toArray, List.set_cons_zero, List.set_cons_succ]
        refine H_on 9 19 ?vd9 rfl rfl (by kernel_rfl) (by kernel_rfl) (by kernel_rfl) (by rfl) ?hd9 hHeld ?rd9
        case hd9 => (intro w hSw; obtain ⟨s0, s1⟩ := hSw; go_simp <;> with_reducible rfl)
        simp only [Act.put, List.setIfInBounds_toArray, List.set_cons_zero, List.set_cons_succ]
        refine H_on 10 20 ?vd10 rfl rfl (by kernel_rfl) (by kernel_rfl) (by kernel_rfl) (by rfl) ?hd10 hHeld ?rd10
        case hd10 => (intro w hSw; obtain ⟨s0, s1⟩ := hSw; go_simp <;> with_reducible rfl)
        simp only [Act.put, List.setIfInBounds_toArray, List.set_cons_zero, List.set_cons_succ]
        refine H_on 11 21 ?vd11 rfl rfl (by kernel_rfl) (by kernel_rfl) (by kernel_rfl) (by rfl) ?hd11 hHeld ?rd11
        case hd11 => (intro w hSw; obtain ⟨s0, s1⟩ := hSw; go_simp <;> with_reducible rfl)
        simp only [Act.put, List.setIfInBounds_toArray, List.set_cons_zero, List.set_cons_succ]
        refine H_on 12 22 ?vd12 rfl rfl (by kernel_rfl) (by kernel_rfl) (by kernel_rfl) (by rfl) ?hd12 hHeld ?rd12
        case hd12 => (intro w hSw; obtain ⟨s0, s1⟩ := hSw; go_simp <;> with_reducible rfl)
        simp only [Act.put, List.setIfInBounds_toArray, List.set_cons_zero, List.set_cons_succ]
        refine H_on 13 23 ?vd13 rfl rfl (by kernel_rfl) (by kernel_rfl) (by kernel_rfl) (by rfl) ?hd13 hHeld ?rd13
        case hd13 => (intro w hSw; obtain ⟨s0, s1⟩ := hSw; go_simp <;> with_reducible rfl)
        simp only [Act.put, List.setIfInBounds_toArray, List.set_cons_zero, List.set_cons_succ]
        refine H_on 15 25 ?vd15 rfl rfl (by kernel_rfl) (by kernel_rfl) (by kernel_rfl) (by rfl) ?hd15 hHeld ?rd15
        case hd15 => (intro w hSw; obtain ⟨s0, s1⟩ := hSw; go_simp <;> with_reducible rfl)
        simp only [Act.put, List.setIfInBounds_toArray, List.set_cons_zero, List.set_cons_succ]
        refine H_on 16 26 ?vd16 rfl rfl (by kernel_rfl) (by kernel_rfl) (by kernel_rfl) (by rfl) ?hd16 hHeld ?rd16
        case hd16 => (intro w hSw; obtain ⟨s0, s1⟩ := hSw; go_simp <;> with_reducible rfl)
        simp only [Act.put, List.setIfInBounds_toArray, List.set_cons_zero, List.set_cons_succ]
        refine H_on 17 27 ?vd17 rfl rfl (by kernel_rfl) (by kernel_rfl) (by kernel_rfl) (by rfl) ?hd17 hHeld ?rd17
        case hd17 => (intro w hSw; obtain ⟨s0, s1⟩ := hSw; go_simp <;> with_reducible rfl)
        simp only [Act.put, List.setIfInBounds_toArray, List.set_cons_zero, List.set_cons_succ]
        refine wpAnyH_ready (rs := [14]) (by kernel_rfl) (by simp) ?_
        refine AllReadyH.cons rfl (fun K hK => ?_) AllReadyH.nil
        go_simp
        refine (set_beasts _ _).mono ?_
        rintro e w5 ⟨rfl, rfl⟩
        go_wp2_with fail
        refine hK.out _ _ (⟨c0, c1⟩) (fun hHeld => ?_)
        clear hK K
        try simp only [Act.put, List.setIfInBounds_toArray, List.set_cons_zero, List.set_cons_succ]
        refine H_on 18 28 ?vd18 rfl rfl (by kernel_rfl) (by kernel_rfl) (by kernel_rfl) (by rfl) ?hd18 hHeld ?rd18
        case hd18 => (intro w hSw; obtain ⟨s0, s1⟩ := hSw; go_simp <;> with_reducible rfl)
        simp only [Act.put, List.setIfInBounds_toArray, List.set_cons_zero, List.set_cons_succ]
        refine H_on 19 29 ?vd19 rfl rfl (by kernel_rfl) (by kernel_rfl) (by kernel_rfl) (by rfl) ?hd19 hHeld ?rd19
        case hd19 => (intro w hSw; obtain ⟨s0, s1⟩ := hSw; go_simp <;> with_reducible rfl)
        simp only [Act.put, List.setIfInBounds_toArray, List.set_cons_zero, List.set_cons_succ]
        refine wpAnyH_done (by kernel_rfl) ?_ _
        refine NoPanic.normal ?_
        clear hHeld
        go_wp2
        go_ret
        exact ⟨Or.inl ⟨HZ3.out.symm, rfl⟩, HD3.out⟩
    | cons c L' =>
      have HZ3 : Aside0 (none = Z) := ⟨by rw [← HZ2.out, if_neg (fun h => by cases h.1)]⟩
      obtain ⟨sl, hsl⟩ : ∃ sl, strB (c :: L') = sl := ⟨_, rfl⟩
      have hie : sl.toList.isEmpty = false := by rw [← hsl, strB_toList]; rfl
      rw [hsl] at c0
      clear hsl
      refine wp_region_noPanic ?_
      refine wp_region_held_drew (S := fun w' => w'.cell? ⟨W.heap.size, 0, none⟩ = some (.string sl) ∧ w'.cell? ⟨W.heap.size, 1, none⟩ = some (.bool true)) (by kernel_rfl) (⟨c0, c1⟩) (fun hHeld => ?_)
      refine H_on 0 10 ?vb0 rfl rfl (by kernel_rfl) (by kernel_rfl) (by kernel_rfl) (by rfl) ?hb0 hHeld ?rb0
      case hb0 => (intro w hSw; obtain ⟨s0, s1⟩ := hSw; go_simp <;> with_reducible rfl)
      simp only [Act.put, List.setIfInBounds_toArray, List.set_cons_zero, List.set_cons_succ]
      refine H_on 1 11 ?vb1 rfl rfl (by kernel_rfl) (by kernel_rfl) (by kernel_rfl) (by rfl) ?hb1 hHeld ?rb1
      case hb1 => (intro w hSw; obtain ⟨s0, s1⟩ := hSw; go_simp <;> with_reducible rfl)
      simp only [Act.put, List.setIfInBounds_toArray, List.set_cons_zero, List.set_cons_succ]
      refine H_on 2 12 ?vb2 rfl rfl (by kernel_rfl) (by kernel_rfl) (by kernel_rfl) (by rfl) ?hb2 hHeld ?rb2
      case hb2 => (intro w hSw; obtain ⟨s0, s1⟩ := hSw; go_simp <;> with_reducible rfl)
      simp only [Act.put, List.setIfInBounds_toArray, List.set_cons_zero, List.set_cons_succ]
      refine H_on 3 13 ?vb3 rfl rfl (by kernel_rfl) (by kernel_rfl) (by kernel_rfl) (by rfl) ?hb3 hHeld ?rb3
      case hb3 => (intro w hSw; obtain ⟨s0, s1⟩ := hSw; go_simp <;> with_reducible rfl)
      simp only [Act.put, List.setIfInBounds_toArray, List.set_cons_zero, List.set_cons_succ]
      refine H_on 4 14 ?vb4 rfl rfl (by kernel_rfl) (by kernel_rfl) (by kernel_rfl) (by rfl) ?hb4 hHeld ?rb4
      case hb4 => (intro w hSw; obtain ⟨s0, s1⟩ := hSw; go_simp <;> with_reducible rfl)
      simp only [Act.put, List.setIfInBounds_toArray, List.set_cons_zero, List.set_cons_succ]
      refine H_on 5 15 ?vb5 rfl rfl (by kernel_rfl) (by kernel_rfl) (by kernel_rfl) (by rfl) ?hb5 hHeld ?rb5
      case hb5 => (intro w hSw; obtain ⟨s0, s1⟩ := hSw; go_simp <;> with_reducible rfl)
      simp only [Act.put, List.setIfInBounds_toArray, List.set_cons_zero, List.set_cons_succ]
      refine H_on 6 16 ?vb6 rfl rfl (by kernel_rfl) (by kernel_rfl) (by kernel_rfl) (by rfl) ?hb6 hHeld ?rb6
      case hb6 => (intro w hSw; obtain ⟨s0, s1⟩ := hSw; go_simp <;> with_reducible rfl)
      simp only [Act.put, List.setIfInBounds_toArray, List.set_cons_zero, List.set_cons_succ]
      refine H_on 7 17 ?vb7 rfl rfl (by kernel_rfl) (by kernel_rfl) (by kernel_rfl) (by rfl) ?hb7 hHeld ?rb7
      case hb7 => (intro w hSw; obtain ⟨s0, s1⟩ := hSw; go_simp <;> with_reducible rfl)
      simp only [Act.put, List.setIfInBounds_toArray, List.set_cons_zero, List.set_cons_succ]
      refine H_on 8 18 ?vb8 rfl rfl (by kernel_rfl) (by kernel_rfl) (by kernel_rfl) (by rfl) ?hb8 hHeld ?rb8
      case hb8 => (intro w hSw; obtain ⟨s0, s1⟩ := hSw; go_simp <;> with_reducible rfl)
      simp only [Act.put, List.setIfInBounds_toArray, List.set_cons_zero, List.set_cons_succ]
      refine H_on 9 19 ?vb9 rfl rfl (by kernel_rfl) (by kernel_rfl) (by kernel_rfl) (by rfl) ?hb9 hHeld ?rb9
      case hb9 => (intro w hSw; obtain ⟨s0, s1⟩ := hSw; go_simp <;> with_reducible rfl)
      simp only [Act.put, List.setIfInBounds_toArray, List.set_cons_zero, List.set_cons_succ]
      refine H_on 10 20 ?vb10 rfl rfl (by kernel_rfl) (by kernel_rfl) (by kernel_rfl) (by rfl) ?hb10 hHeld ?rb10
      case hb10 => (intro w hSw; obtain ⟨s0, s1⟩ := hSw; go_simp <;> with_reducible rfl)
      simp only [Act.put, List.setIfInBounds_toArray, List.set_cons_zero, List.set_cons_succ]
      refine H_on 11 21 ?vb11 rfl rfl (by kernel_rfl) (by kernel_rfl) (by kernel_rfl) (by rfl) ?hb11 hHeld ?rb11
      case hb11 => (intro w hSw; obtain ⟨s0, s1⟩ := hSw; go_simp <;> with_reducible rfl)
      simp only [Act.put, List.setIfInBounds_toArray, List.set_cons_zero, List.set_cons_succ]
      refine H_on 12 22 ?vb12 rfl rfl (by kernel_rfl) (by kernel_rfl) (by kernel_rfl) (by rfl) ?hb12 hHeld ?rb12
      case hb12 => (intro w hSw; obtain ⟨s0, s1⟩ := hSw; go_simp <;> with_reducible rfl)
      simp only [Act.put, List.setIfInBounds_toArray, List.set_cons_zero, List.set_cons_succ]
      refine H_off 13 23 rfl rfl (by kernel_rfl) (by kernel_rfl) (by kernel_rfl) (by rfl) hHeld ?_
      simp only [Act.put, List.setIfInBounds_toArray, List.set_cons_zero, List.set_cons_succ]
      refine H_off 14 24 rfl rfl (by kernel_rfl) (by kernel_rfl) (by kernel_rfl) (by rfl) hHeld ?_
      simp only [Act.put, List.setIfInBounds_toArray, List.set_cons_zero, List.set_cons_succ]
      refine H_off 15 25 rfl rfl (by kernel_rfl) (by kernel_rfl) (by kernel_rfl) (by rfl) hHeld ?_
      simp only [Act.put, List.setIfInBounds_toArray, List.set_cons_zero, List.set_cons_succ]
      refine H_off 16 26 rfl rfl (by kernel_rfl) (by kernel_rfl) (by kernel_rfl) (by rfl) hHeld ?_
      simp only [Act.put, List.setIfInBounds_toArray, List.set_cons_zero, List.set_cons_succ]
      refine H_off 17 27 rfl rfl (by kernel_rfl) (by kernel_rfl) (by kernel_rfl) (by rfl) hHeld ?_
      simp only [Act.put, List.setIfInBounds_toArray, List.set_cons_zero, List.set_cons_succ]
      refine H_off 18 28 rfl rfl (by kernel_rfl) (by kernel_rfl) (by kernel_rfl) (by rfl) hHeld ?_
      simp only [Act.put, List.setIfInBounds_toArray, List.set_cons_zero, List.set_cons_succ]
      refine H_on 19 29 ?vb19 rfl rfl (by kernel_rfl) (by kernel_rfl) (by kernel_rfl) (by rfl) ?hb19 hHeld ?rb19
      case hb19 => (intro w hSw; obtain ⟨s0, s1⟩ := hSw; go_simp <;> with_reducible rfl)
      simp only [Act.put, List.setIfInBounds_toArray, List.set_cons_zero, List.set_cons_succ]
      refine wpAnyH_done (by kernel_rfl) ?_ _
      refine NoPanic.normal ?_
      clear hHeld
      go_wp2
      go_ret
      exact ⟨Or.inl ⟨HZ3.out.symm, rfl⟩, HD3.out⟩
  · cases hv
    have HZ2 : Aside0 (none = Z) := ⟨by have h := HZ.out; rw [hr] at h; exact h⟩
    obtain ⟨c0, c1, _, _⟩ := hR.cells
    clear hr HZ hR hnt
    refine wp_region_noPanic ?_
    refine wp_region_held_drew (S := fun w' => w'.cell? ⟨W.heap.size, 1, none⟩ = some (.bool false)) (by kernel_rfl) (c1) (fun hHeld => ?_)
    refine H_on 0 10 ?va0 rfl rfl (by kernel_rfl) (by kernel_rfl) (by kernel_rfl) (by rfl) ?ha0 hHeld ?ra0
    case ha0 => (intro w hSw; have s1 := hSw; go_simp <;> with_reducible rfl)
    simp only [Act.put, List.setIfInBounds_toArray, List.set_cons_zero, List.set_cons_succ]
    refine H_on 1 11 ?va1 rfl rfl (by kernel_rfl) (by kernel_rfl) (by kernel_rfl) (by rfl) ?ha1 hHeld ?ra1
    case ha1 => (intro w hSw; have s1 := hSw; go_simp <;> with_reducible rfl)
    simp only [Act.put, List.setIfInBounds_toArray, List.set_cons_zero, List.set_cons_succ]
    refine H_on 2 12 ?va2 rfl rfl (by kernel_rfl) (by kernel_rfl) (by kernel_rfl) (by rfl) ?ha2 hHeld ?ra2
    case ha2 => (intro w hSw; have s1 := hSw; go_simp <;> with_reducible rfl)
    simp only [Act.put, List.setIfInBounds_toArray, List.set_cons_zero, List.set_cons_succ]
    refine H_on 3 13 ?va3 rfl rfl (by kernel_rfl) (by kernel_rfl) (by kernel_rfl) (by rfl) ?ha3 hHeld ?ra3
    case ha3 => (intro w hSw; have s1 := hSw; go_simp <;> with_reducible rfl)
    simp only [Act.put, List.setIfInBounds_toArray, List.set_cons_zero, List.set_cons_succ]
    refine H_off 4 14 rfl rfl (by kernel_rfl) (by kernel_rfl) (by kernel_rfl) (by rfl) hHeld ?_
    simp only [Act.put, List.setIfInBounds_toArray, List.set_cons_zero, List.set_cons_succ]
    refine H_off 5 15 rfl rfl (by kernel_rfl) (by kernel_rfl) (by kernel_rfl) (by rfl) hHeld ?_
    simp only [Act.put, List.setIfInBounds_toArray, List.set_cons_zero, List.set_cons_succ]
    refine H_on 6 16 ?va6 rfl rfl (by kernel_rfl) (by kernel_rfl) (by kernel_rfl) (by rfl) ?ha6 hHeld ?ra6
    case ha6 => (intro w hSw; have s1 := hSw; go_simp <;> with_reducible rfl)
    simp only [Act.put, List.setIfInBounds_toArray, List.set_cons_zero, List.set_cons_succ]
    refine H_on 7 17 ?va7 rfl rfl (by kernel_rfl) (by kernel_rfl) (by kernel_rfl) (by rfl) ?ha7 hHeld ?ra7
    case ha7 => (intro w hSw; have s1 := hSw; go_simp <;> with_reducible rfl)
    simp only [Act.put, List.setIfInBounds_toArray, List.set_cons_zero, List.set_cons_succ]
    refine H_off 8 18 rfl rfl (by kernel_rfl) (by kernel_rfl) (by kernel_rfl) (by rfl) hHeld ?_
    simp only [Act.put, List.setIfInBounds_toArray, List.set_cons_zero, List.set_cons_succ]
    refine H_off 9 19 rfl rfl (by kernel_rfl) (by kernel_rfl) (by kernel_rfl) (by rfl) hHeld ?_
    simp only [Act.put, List.setIfInBounds_toArray, List.set_cons_zero, List.set_cons_succ]
    refine H_off 10 20 rfl rfl (by kernel_rfl) (by kernel_rfl) (by kernel_rfl) (by rfl) hHeld ?_
    simp only [Act.put, List.setIfInBounds_toArray, List.set_cons_zero, List.set_cons_succ]
    refine H_on 11 21 ?va11 rfl rfl (by kernel_rfl) (by kernel_rfl) (by kernel_rfl) (by rfl) ?ha11 hHeld ?ra11
    case ha11 => (intro w hSw; have s1 := hSw; go_simp <;> with_reducible rfl)
    simp only [Act.put, List.setIfInBounds_toArray, List.set_cons_zero, List.set_cons_succ]
    refine H_on 12 22 ?va12 rfl rfl (by kernel_rfl) (by kernel_rfl) (by kernel_rfl) (by rfl) ?ha12 hHeld ?ra12
    case ha12 => (intro w hSw; have s1 := hSw; go_simp <;> with_reducible rfl)
    simp only [Act.put, List.setIfInBounds_toArray, List.set_cons_zero, List.set_cons_succ]
    refine H_off 13 23 rfl rfl (by kernel_rfl) (by kernel_rfl) (by kernel_rfl) (by rfl) hHeld ?_
    simp only [Act.put, List.setIfInBounds_toArray, List.set_cons_zero, List.set_cons_succ]
    refine H_off 14 24 rfl rfl (by kernel_rfl) (by kernel_rfl) (by kernel_rfl) (by rfl) hHeld ?_
    simp only [Act.put, List.setIfInBounds_toArray, List.set_cons_zero, List.set_cons_succ]
    refine H_off 15 25 rfl rfl (by kernel_rfl) (by kernel_rfl) (by kernel_rfl) (by rfl) hHeld ?_
    simp only [Act.put, List.setIfInBounds_toArray, List.set_cons_zero, List.set_cons_succ]
    refine H_off 16 26 rfl rfl (by kernel_rfl) (by kernel_rfl) (by kernel_rfl) (by rfl) hHeld ?_
    simp only [Act.put, List.setIfInBounds_toArray, List.set_cons_zero, List.set_cons_succ]
    refine H_off 17 27 rfl rfl (by kernel_rfl) (by kernel_rfl) (by kernel_rfl) (by rfl) hHeld ?_
    simp only [Act.put, List.setIfInBounds_toArray, List.set_cons_zero, List.set_cons_succ]
    refine H_off 18 28 rfl rfl (by kernel_rfl) (by kernel_rfl) (by kernel_rfl) (by rfl) hHeld ?_
    simp only [Act.put, List.setIfInBounds_toArray, List.set_cons_zero, List.set_cons_succ]
    refine H_on 19 29 ?va19 rfl rfl (by kernel_rfl) (by kernel_rfl) (by kernel_rfl) (by rfl) ?ha19 hHeld ?ra19
    case ha19 => (intro w hSw; have s1 := hSw; go_simp <;> with_reducible rfl)
    simp only [Act.put, List.setIfInBounds_toArray, List.set_cons_zero, List.set_cons_succ]
    refine wpAnyH_done (by kernel_rfl) ?_ _
    refine NoPanic.normal ?_
    clear hHeld
    go_wp2
    go_ret
    exact ⟨Or.inl ⟨HZ2.out.symm, rfl⟩, HD3.out⟩
end Go.Proofs.YtdbbcngmnpejnaaDoor.B

/- breed.read, walked. -/
namespace Go.Proofs.YtdbbcngmnpejnaaDoor.B
open Go.Proofs.YtdbbcngmnpejnaaDoor.A
open Go.RowKit Go.Proofs.YtdbbcngmnpejnaaDoorW.PrintWords Go.Proofs.YtdbbcngmnpejnaaDoorW.PrintMore
def readE (n : Int) (Ls : List (List UInt8)) : Option (List BT) := if 1 ≤ n ∧ n ≤ 8 then mapO (parseF n.toNat) Ls else none
def errT (n : Int) : Int := if 1 ≤ n ∧ n ≤ 8 then 5 else 2
def ReadPost (Z : Option (List BT)) (E : Int) (W : World) (e : Ending) (w' : World) : Prop :=
  ((Z = none ∧ e = .returned (.tuple #[.slice none 0 0, .int .i64 E])) ∨
   ∃ (v : Value) (xs : List TT), Z = some (xs.map (·.2)) ∧ e = .returned (.tuple #[v, .int .i64 0]) ∧ kT.R 69 w' W.heap.size (fun _ => True) v xs ∧ ∀ x ∈ xs, TOk w' (fun b => W.heap.size ≤ b ∧ some b ≠ v.ownBlock) x) ∧ Below W.heap.size W w'
theorem herd_calls (n : Int) (w : World) : Calls Tryd.prog 40 #[.int .i64 n] w fun e w' => e = .returned (.bool (decide (1 ≤ n ∧ n ≤ 8))) ∧ Below w.heap.size w w' := by
  have h : breed_herd.f n = some (decide (1 ≤ n ∧ n ≤ 8)) := by
    unfold breed_herd.f
    by_cases h1 : n ≥ 1
    · rw [if_pos h1]
      congr 1
      simp only [decide_eq_decide]
      omega
    · rw [if_neg h1, decide_eq_false (by omega)]
  exact (breed_herd.calls n _ w h).mono fun _ _ ⟨p, q⟩ => ⟨p, q.below⟩

set_option maxRecDepth 100000 in
set_option maxHeartbeats 3200000 in
/-- breed.read. -/
theorem read_calls (n : Int) (b c : Nat) (Ls : List (List UInt8)) (W : World) (hL : Ls.length ≤ 8) (hc : ∀ j L, Ls[j]? = some L → W.cell? ⟨b, j, none⟩ = some (.string (strB L))) (hT : TabAt W) :
    Calls Tryd.prog 52 #[.int .i64 n, .slice (some ⟨b, 0, none⟩) Ls.length c] W (ReadPost (readE n Ls) (errT n) W) := by
  have HH := Aside0.mk (herd_calls n W)
  have HT := Aside0.mk hT
  have HC := Aside0.mk hc
  obtain ⟨m, hm⟩ : ∃ m, Ls.length = m := ⟨_, rfl⟩
  rw [hm] at hL ⊢
  have HM := Aside0.mk hm
  obtain ⟨Z, hZ⟩ : ∃ Z, readE n Ls = Z := ⟨_, rfl⟩
  rw [hZ]
  obtain ⟨E, hE⟩ : ∃ E, errT n = E := ⟨_, rfl⟩
  rw [hE]
  unfold errT at hE
  unfold readE at hZ
  clear hc hm hT
  by_cases hn : 1 ≤ n ∧ n ≤ 8
  · rw [if_pos hn] at hZ
    rw [decide_eq_true hn] at HH
    rw [if_pos hn] at hE
    have HE := Aside0.mk hE
    clear hE
    obtain ⟨n', hn'⟩ : ∃ n' : Nat, n = n' := ⟨n.toNat, by omega⟩
    subst hn'
    rw [Int.toNat_natCast] at hZ
    have HZ := Aside0.mk hZ
    have HN : Aside0 (1 ≤ n' ∧ n' ≤ 8) := ⟨by omega⟩
    clear hn hZ
    go_enter Tryd.func52, Tryd.ntmps52
    go_upto_region 5 with (go_at_call 40; go_must (refine HH.out.mono ?_; rintro e w1 ⟨rfl, hb1⟩; have HB1 := Aside0.mk hb1; clear hb1))
    go_loopg [6, 8, 9, 15] m (fun gg v6 _ _ v15 wr => ∃ (k : Nat) (vo : Value) (xs : List TT), k ≤ m ∧ m - k ≤ gg ∧ v15 = .int .i64 k ∧ vo = v6 ∧ xs.length = k ∧ Aside0 (kT.R 69 wr W.heap.size (fun _ => True) vo xs) ∧ Aside0 (∀ i, i < k → parseF n' (Ls.getD i []) = some (xs.getD i default).2) ∧ Aside0 (∀ x ∈ xs, TOk wr (fun b => W.heap.size ≤ b ∧ some b ≠ vo.ownBlock) x) ∧ Aside0 (Below W.heap.size W wr))
    case atStart => exact ⟨0, _, [], Nat.zero_le _, by omega, rfl, rfl, rfl, ⟨Kd.R_nil _ _ _ _ _⟩, ⟨fun i h => absurd h (Nat.not_lt_zero _)⟩, ⟨fun x h => (by cases h)⟩, HB1⟩
    case round =>
      obtain ⟨k, vo, xs, hk, hgg, rfl, hvo, hxk, HV, HBX, HOK, HB⟩ := hrel
      subst hvo
      by_cases hkm : k < m
      · have hkz : (k : Int) < (m : Int) := by omega
        have hky : k < Ls.length := by rw [HM.out]; exact hkm
        have hget : Ls[k]? = some (Ls.getD k []) := by rw [List.getD_eq_getElem?_getD, List.getElem?_eq_getElem hky]; rfl
        have hc0 := HC.out k _ hget
        have hbl : b < W.heap.size := World.block_lt_of_cell? W _ hc0
        have hx : wr.cell? ⟨b, k, none⟩ = some (.string (strB (Ls.getD k []))) := (World.cell?_of_block (HB.out.block b hbl)).trans hc0
        have hcall := parse_calls n' HN.out.1 HN.out.2 (Ls.getD k []) wr (HT.out.next HB.out)
        have HMEM : Aside0 (Ls.getD k [] ∈ Ls) := ⟨getD_mem [] hky⟩
        obtain ⟨y, hy⟩ : ∃ y, Ls.getD k [] = y := ⟨_, rfl⟩
        have HY := Aside0.mk hy
        rw [hy] at hx hcall HMEM
        obtain ⟨sb, hsb⟩ : ∃ sb, strB y = sb := ⟨_, rfl⟩
        rw [hsb] at hx hcall
        clear hget hc0 hbl hy hsb hky
        cases hb : parseF n' y with
        | none =>
          rw [hb] at hcall
          have HC2 : Aside0 (Calls Tryd.prog 61 #[.int .i64 n', .string sb] wr fun e w' => e = .returned .nilIface ∧ Below wr.heap.size wr w') := ⟨hcall.mono (by
            rintro e w' ⟨⟨_, rfl⟩ | ⟨t, v, h, _⟩, hb⟩
            · exact ⟨rfl, hb⟩
            · cases h)⟩
          have HZ3 : Aside0 (none = Z) := ⟨by rw [← HZ.out, mapO_none.mpr ⟨y, HMEM.out, hb⟩]⟩
          clear hcall hb
          go_wp2_with (go_at_call 61; go_must (refine HC2.out.mono ?_; rintro e w5 ⟨rfl, hb5⟩; have HB5 := Aside0.mk (below_then HB.out HB.out.size hb5); clear hb5))
          go_ret2
          exact ⟨Or.inl ⟨HZ3.out.symm, by rw [← HE.out]; rfl⟩, HB5.out⟩
        | some t =>
          rw [hb] at hcall
          have HC2 : Aside0 (Calls Tryd.prog 61 #[.int .i64 n', .string sb] wr fun e w' => ∃ v, e = .returned v ∧ TrV w' (fun b => wr.heap.size ≤ b) v t ∧ Below wr.heap.size wr w') := ⟨hcall.mono (by
            rintro e w' ⟨⟨h, _⟩ | ⟨t', v, h, rfl, ht⟩, hb⟩
            · cases h
            · cases h; exact ⟨v, rfl, ht, hb⟩)⟩
          have HBP := Aside0.mk hb
          have HGT := Aside0.mk (parseF_good hb).1
          clear hcall hb
          have hxm : xs.length ≤ 8 := by omega
          have hown : ∀ g, vo.ownBlock = some g → g < wr.heap.size := fun g hg => by
            obtain ⟨cs, h⟩ := Kd.R_typed HV.out g hg
            exact YtdbbcngmnpejnaaDoorW.PrintWords.blk_lt h
          have HOWN := Aside0.mk hown
          obtain ⟨A6, c6, hv6, _, _⟩ := Kd.R_reads HV.out
          rw [hxk] at hv6
          subst hv6
          clear hown
          go_wp2_with (first
            | (go_at_call 61; go_must (refine HC2.out.mono ?_; rintro e w5 ⟨v5, rfl, htv, hb5⟩; obtain ⟨T, u, rfl, _⟩ := htv.ask; have HTV := Aside0.mk htv; have HB5 := Aside0.mk hb5; have HBW5 := Aside0.mk (below_then HB.out HB.out.size hb5); have HV5 := Aside0.mk (Kd.R_below HV.out hb5); obtain ⟨x, hx2, hxe⟩ := htv.tok; have HX2 := Aside0.mk hx2; have HXE := Aside0.mk hxe; clear htv hb5 hx2 hxe))
            | (at_builtin; go_must (refine Kd.R_append kT (w0 := W) W.heap.size rfl (.tmp 24) (.tmp 26) 79 69 .nilIface 16 rfl Tryd.underlying79 info69 rfl (by decide) (by decide) (.slice A6 k c6) xs x [.iface T u] (fun _ => True) (fun _ => False) rfl rfl (by rw [← HXE.out]; rfl) (fun _ hk => hk.elim) (fun _ _ => trivial) HV5.out HBW5.out HBW5.out.size (by omega) ?_; intro v6 w6 ho hb6 hg6 hat6; have HO6 := Aside0.mk ho; have HB6 := Aside0.mk hb6; have HG6 := Aside0.mk hg6; have HAT6 := Aside0.mk hat6; clear ho hb6 hg6 hat6)))
          go_roundg (m - (k + 1))
          case measure => omega
          case rel =>
            refine ⟨k + 1, _, xs ++ [x], by omega, by omega, by go_num, rfl, by rw [List.length_append, List.length_singleton]; omega, HO6, ⟨fun i hi => ?_⟩, ⟨fun y hy => ?_⟩, HB6⟩
            · by_cases e : i < k
              · rw [HBX.out i e, List.getD_eq_getElem?_getD, List.getD_eq_getElem?_getD, List.getElem?_append_left (by omega)]
              · have e2 : i = k := by omega
                subst e2
                rw [HY.out, HBP.out, List.getD_eq_getElem?_getD, List.getElem?_append_right (by omega), hxk, Nat.sub_self]
                show some t = some x.2
                rw [HX2.out]
            · have hgw : w5.heap.size ≤ w6.heap.size := HG6.out.size
              have hne : ∀ b, b < w5.heap.size → some b ≠ (Value.slice A6 k c6).ownBlock → some b ≠ v6.ownBlock := fun b hb hn e => by
                rcases HAT6.out with h | ⟨b', h, hb'⟩
                · rw [h] at e; exact hn e
                · rw [h] at e; cases e; omega
              rcases List.mem_append.mp hy with hy | hy
              · exact ((HOK.out y hy).below HB5.out).move hgw (fun b hb hl => HG6.out.block b hl hb.2) fun b hb hl => ⟨hb.1, hne b hl hb.2⟩
              · rw [List.mem_singleton.mp hy]
                have hx5 : TOk w5 (fun b => wr.heap.size ≤ b) x := ⟨by rw [HXE.out, HX2.out]; exact HTV.out, by rw [HX2.out]; exact HGT.out.small⟩
                have hap : ∀ b, wr.heap.size ≤ b → some b ≠ (Value.slice A6 k c6).ownBlock := fun b hb e => by have := HOWN.out b e.symm; omega
                exact hx5.move hgw (fun b hb hl => HG6.out.block b hl (hap b hb)) fun b hb hl => ⟨Nat.le_trans HB.out.size hb, hne b hl (hap b hb)⟩
      · have hkz : ¬ (k : Int) < (m : Int) := by omega
        have HZ3 : Aside0 (some (xs.map (·.2)) = Z) := ⟨by
          rw [← HZ.out]
          refine (mapO_some.mpr ?_).symm
          refine List.ext_getElem (by rw [List.length_map, List.length_map, List.length_map, HM.out]; omega) fun i h1 h2 => ?_
          rw [List.length_map] at h1
          have h3 := HBX.out i (by rw [HM.out] at h1; omega)
          have h4 : i < xs.length := by simpa using h2
          rw [List.getD_eq_getElem?_getD, List.getElem?_eq_getElem h1, List.getD_eq_getElem?_getD, List.getElem?_eq_getElem h4] at h3
          simpa using h3⟩
        go_wp2
        go_ret2
        exact ⟨Or.inr ⟨_, xs, HZ3.out.symm, rfl, HV.out, HOK.out⟩, HB.out⟩
  · rw [if_neg hn] at hZ
    rw [decide_eq_false hn] at HH
    rw [if_neg hn] at hE
    have HE := Aside0.mk hE
    clear hE
    subst hZ
    clear hn
    go_enter Tryd.func52, Tryd.ntmps52
    go_wp2_with (go_at_call 40; go_must (refine HH.out.mono ?_; rintro e w1 ⟨rfl, hb1⟩; have HB1 := Aside0.mk hb1; clear hb1))
    go_ret2
    exact ⟨Or.inl ⟨rfl, by rw [← HE.out]; rfl⟩, HB1.out⟩
end Go.Proofs.YtdbbcngmnpejnaaDoor.B

/- breed.kept, walked. -/
namespace Go.Proofs.YtdbbcngmnpejnaaDoor.A
open Go.RowKit Go.Proofs.YtdbbcngmnpejnaaDoorW.PrintWords Go.Proofs.YtdbbcngmnpejnaaDoorW.PrintMore
def KeptC (s : Nat) (t : BT) : Prop := t.Good → ∀ (ok : Nat → Prop) (v : Value) (W : World), TrV W ok v t → TabAt W → Calls Tryd.prog 53 #[v, .int .i64 (s : Int)] W (TreePost (t.kept s) W)
set_option maxRecDepth 100000 in
set_option maxHeartbeats 1600000 in
theorem kept_leafC (s : Nat) (hs : s < 256) (i : Nat) (hi : i < 8) (W : World) : Calls Tryd.prog 53 #[.iface 102 (.agg #[.int .i64 ((2 ^ i : Nat) : Int)]), .int .i64 (s : Int)] W (TreePost ((BT.leaf i).kept s) W) := by
  have hm := meth_leaf ((2 ^ i : Nat) : Int)
  have ht := ta_leaf ((2 ^ i : Nat) : Int)
  have ha : bits .and .i64 ((2 ^ i : Nat) : Int) (s : Int) = ((2 ^ i &&& s : Nat) : Int) := and64 _ _ (by have := two_256 hi; omega) (by omega)
  obtain ⟨Z, hZ⟩ : ∃ Z, (BT.leaf i).kept s = Z := ⟨_, rfl⟩
  rw [hZ]
  rw [BT.kept] at hZ
  have HV : Aside0 (∀ w, TrV w (fun b => W.heap.size ≤ b) (.iface 102 (.agg #[.int .i64 ((2 ^ i : Nat) : Int)])) (.leaf i)) := ⟨fun w => trv_leaf.mpr rfl⟩
  by_cases h : 2 ^ i &&& s = 0
  · rw [if_pos h] at hZ
    rw [h] at ha
    have HZ := Aside0.mk hZ
    generalize ((2 ^ i : Nat) : Int) = q at *
    clear hZ h
    go_enter Tryd.func53, Tryd.ntmps53
    go_wp2_with (go_at_call 134; go_must (refine (set_beasts _ _).mono ?_; rintro e w1 ⟨rfl, rfl⟩))
    go_ret
    exact ⟨Or.inl ⟨HZ.out.symm, rfl⟩, Below.refl _ _⟩
  · rw [if_neg h] at hZ
    have hb : (((2 ^ i &&& s : Nat) : Int) == 0) = false := by rw [beq_eq_false_iff_ne]; omega
    have HZ := Aside0.mk hZ
    generalize ((2 ^ i &&& s : Nat) : Int) = a at ha hb
    generalize ((2 ^ i : Nat) : Int) = q at *
    clear hZ h
    go_enter Tryd.func53, Tryd.ntmps53
    go_wp2_with (go_at_call 134; go_must (refine (set_beasts _ _).mono ?_; rintro e w1 ⟨rfl, rfl⟩))
    go_ret
    exact ⟨Or.inr ⟨_, _, HZ.out.symm, rfl, HV.out _⟩, Below.refl _ _⟩
set_option maxRecDepth 100000 in
set_option maxHeartbeats 3200000 in
theorem kept_nodeC (s : Nat) (_hs : s < 256) (ks : List BT) (IH : ∀ k ∈ ks, KeptC s k) (hg : (BT.node ks).Good) (ok : Nat → Prop) (v : Value) (W : World) (hv : TrV W ok v (.node ks)) (hT : TabAt W) :
    Calls Tryd.prog 53 #[v, .int .i64 (s : Int)] W (TreePost ((BT.node ks).kept s) W) := by
  obtain ⟨g, c, rfl, hc, hgl, hk⟩ := trv_node.mp hv
  obtain ⟨Z, hZ⟩ : ∃ Z, (BT.node ks).kept s = Z := ⟨_, rfl⟩
  rw [hZ]
  have HZ : Aside0 (ofB (BT.keptL s ks) = Z) := ⟨by rw [← hZ, BT.kept]⟩
  have HG := Aside0.mk (good_node.mp hg).2.1
  have HKG := Aside0.mk (keptL_good (s := s) hg)
  have HKL := Aside0.mk (keptL_len s ks)
  have HKD := Aside0.mk (keptL_disj s (good_node.mp hg).2.1 ((good_node.mp hg).2.2.imp fun h => h.1))
  have HK := Aside0.mk hk
  have HIH := Aside0.mk IH
  have HT := Aside0.mk hT
  have HTW : Aside0 (1 < W.heap.size) := ⟨World.block_lt_of_cell? W _ (hT 0 (by decide))⟩
  have hml := kids_le hg
  obtain ⟨n, hn⟩ : ∃ n, ks.length = n := ⟨_, rfl⟩
  obtain ⟨q, hq⟩ : ∃ q : Int, ((BT.sets ks : Nat) : Int) = q := ⟨_, rfl⟩
  have HN := Aside0.mk hn
  have ht := fun w => ta_node q (.slice (some ⟨g, 0, none⟩) n c) w
  have qT : ∀ (w : World) (a : Option Addr) (n c n' c' : Nat), (binOp .eql 79 (.slice a n c) (.slice none n' c')).run Tryd.prog w = .ok (.bool a.isNone) w := fun w a n c n' c' => Lib.run_eql_slice_nil w _ _ a n c n' c' Tryd.underlying79
  rw [hn, hq]
  rw [hn] at hml
  have hgl2 := hgl.2
  clear hv hk hg IH hZ hc hn hgl hT hq
  go_enter Tryd.func53, Tryd.ntmps53
  go_upto_region 6 with fail
  clear ht
  have HB0 : Aside0 (Below W.heap.size W (W.alloc (.cells #[.int .i64 q, .slice (some ⟨g, 0, none⟩) n c] 111))) := ⟨(Below.refl _ _).alloc (Nat.le_refl _) _⟩
  generalize W.alloc (.cells #[.int .i64 q, .slice (some ⟨g, 0, none⟩) n c] 111) = W2 at HB0 ⊢
  go_loopg [6, 8, 9, 17] n (fun gg v6 _ _ v17 wr => ∃ (k : Nat) (vo : Value) (xs : List TT), k ≤ n ∧ n - k ≤ gg ∧ v17 = .int .i64 k ∧ vo = v6 ∧ xs.length ≤ k ∧ Aside0 (xs = [] → vo = .slice none 0 0) ∧ Aside0 (kT.R 69 wr W.heap.size (fun _ => True) vo xs) ∧ Aside0 (BT.keptL s (ks.take k) = xs.map (·.2)) ∧ Aside0 (∀ x ∈ xs, TOk wr (fun b => W.heap.size ≤ b ∧ some b ≠ vo.ownBlock) x) ∧ Aside0 (Below W.heap.size W wr))
  case atStart => exact ⟨0, _, [], Nat.zero_le _, by omega, rfl, rfl, Nat.le_refl _, ⟨fun _ => rfl⟩, ⟨Kd.R_nil _ _ _ _ _⟩, ⟨by rw [List.take_zero, BT.keptL]; rfl⟩, ⟨fun x h => (by cases h)⟩, HB0⟩
  case round =>
    clear HB0
    obtain ⟨k, vo, xs, hk, hgg, rfl, hvo, hxk, HNI, HV, HX, HOK, HB⟩ := hrel
    subst hvo
    obtain ⟨xl, hxl⟩ : ∃ xl, xs.length = xl := ⟨_, rfl⟩
    have HXL := Aside0.mk hxl
    rw [hxl] at hxk
    obtain ⟨A6, c6, hv6, _, _⟩ := Kd.R_reads HV.out
    rw [hxl] at hv6
    subst hv6
    clear hxl
    by_cases hkn : k < n
    · have hkz : (k : Int) < (n : Int) := by omega
      have hky : k < ks.length := by rw [HN.out]; exact hkn
      obtain ⟨v, hc1, htv⟩ := HK.out k (ks.getD k default) (by rw [List.getD_eq_getElem?_getD, List.getElem?_eq_getElem hky]; rfl)
      have hm1 : ks.getD k default ∈ ks := getD_mem default hky
      have hTK : ks.take (k + 1) = ks.take k ++ [ks.getD k default] := by
        rw [List.take_add_one, List.getElem?_eq_getElem hky, List.getD_eq_getElem?_getD, List.getElem?_eq_getElem hky]; rfl
      have HTK : Aside0 (BT.keptL s (ks.take (k + 1)) = xs.map (·.2) ++ (match (ks.getD k default).kept s with | none => [] | some t => [t])) := ⟨by rw [hTK, keptL_snoc, HX.out]; cases (ks.getD k default).kept s <;> rfl⟩
      have hcall := HIH.out _ hm1 (HG.out _ hm1) ok v wr (htv.below HB.out) (HT.out.next HB.out)
      have HGD := Aside0.mk (kept_spec s _ (HG.out _ hm1)).1
      obtain ⟨T, u, rfl, _⟩ := htv.ask
      have hx : wr.cell? ⟨g, k, none⟩ = some (.iface T u) := (World.cell?_of_block (HB.out.block g hgl2)).trans hc1
      clear hc1 htv hm1 hTK
      generalize ks.getD k default = y at *
      cases hb : y.kept s with
      | none =>
        rw [hb] at hcall HTK
        have HC : Aside0 (Calls Tryd.prog 53 #[.iface T u, .int .i64 (s : Int)] wr fun e w' => e = .returned .nilIface ∧ Below wr.heap.size wr w') := ⟨hcall.mono (by
          rintro e w' ⟨⟨_, rfl⟩ | ⟨t, v, h, _⟩, hb⟩
          · exact ⟨rfl, hb⟩
          · cases h)⟩
        have HTK2 : Aside0 (BT.keptL s (ks.take (k + 1)) = xs.map (·.2)) := ⟨by have := HTK.out; rwa [List.append_nil] at this⟩
        clear hcall hb HTK
        go_wp2_with (go_at_call 53; go_must (refine HC.out.mono ?_; rintro e w5 ⟨rfl, hb5⟩; have HB5 := Aside0.mk hb5; have HBW5 := Aside0.mk (below_then HB.out HB.out.size hb5); have HV5 := Aside0.mk (Kd.R_below HV.out hb5); clear hb5))
        go_roundg (n - (k + 1))
        case measure => omega
        case rel => exact ⟨k + 1, _, xs, by omega, by omega, by go_num, rfl, by have := HXL.out; omega, HNI, HV5, HTK2, ⟨fun x hx => (HOK.out x hx).below HB5.out⟩, HBW5⟩
      | some t =>
        rw [hb] at hcall HTK
        have HC : Aside0 (Calls Tryd.prog 53 #[.iface T u, .int .i64 (s : Int)] wr fun e w' => ∃ v, e = .returned v ∧ TrV w' (fun b => wr.heap.size ≤ b) v t ∧ Below wr.heap.size wr w') := ⟨hcall.mono (by
          rintro e w' ⟨⟨h, _⟩ | ⟨t', v, h, rfl, ht⟩, hb⟩
          · cases h
          · cases h; exact ⟨v, rfl, ht, hb⟩)⟩
        have HGT := Aside0.mk (HGD.out t hb).1
        have hown : ∀ g, (Value.slice A6 xl c6).ownBlock = some g → g < wr.heap.size := fun g hg => by
          obtain ⟨cs, h⟩ := Kd.R_typed HV.out g hg
          exact YtdbbcngmnpejnaaDoorW.PrintWords.blk_lt h
        have HOWN := Aside0.mk hown
        clear hcall hb hown
        go_wp2_with (first
          | (go_at_call 53; go_must (refine HC.out.mono ?_; rintro e w5 ⟨v5, rfl, htv, hb5⟩; obtain ⟨T2, u2, rfl, _⟩ := htv.ask; have HTV := Aside0.mk htv; have HB5 := Aside0.mk hb5; have HBW5 := Aside0.mk (below_then HB.out HB.out.size hb5); have HV5 := Aside0.mk (Kd.R_below HV.out hb5); obtain ⟨x, hx2, hxe⟩ := htv.tok; have HX2 := Aside0.mk hx2; have HXE := Aside0.mk hxe; clear htv hb5 hx2 hxe))
          | (at_builtin; go_must (refine Kd.R_append kT (w0 := W) W.heap.size rfl (.tmp 26) (.tmp 28) 79 69 .nilIface 16 rfl Tryd.underlying79 info69 rfl (by decide) (by decide) (.slice A6 xl c6) xs x [.iface T2 u2] (fun _ => True) (fun _ => False) rfl rfl (by rw [← HXE.out]; rfl) (fun _ hk => hk.elim) (fun _ _ => trivial) HV5.out HBW5.out HBW5.out.size (by rw [HXL.out]; omega) ?_; intro v6 w6 ho hb6 hg6 hat6; have HO6 := Aside0.mk ho; have HB6 := Aside0.mk hb6; have HG6 := Aside0.mk hg6; have HAT6 := Aside0.mk hat6; clear ho hb6 hg6 hat6)))
        go_roundg (n - (k + 1))
        case measure => omega
        case rel =>
          refine ⟨k + 1, _, xs ++ [x], by omega, by omega, by go_num, rfl, by rw [List.length_append, List.length_singleton, HXL.out]; omega, ⟨fun h => absurd h (by simp)⟩, HO6, ⟨by rw [HTK.out, List.map_append, List.map_cons, HX2.out]; rfl⟩, ⟨fun y hy => ?_⟩, HB6⟩
          have hgw : w5.heap.size ≤ w6.heap.size := HG6.out.size
          have hne : ∀ b, b < w5.heap.size → some b ≠ (Value.slice A6 xl c6).ownBlock → some b ≠ v6.ownBlock := fun b hb hn e => by
            rcases HAT6.out with h | ⟨b', h, hb'⟩
            · rw [h] at e; exact hn e
            · rw [h] at e; cases e; omega
          rcases List.mem_append.mp hy with hy | hy
          · exact ((HOK.out y hy).below HB5.out).move hgw (fun b hb hl => HG6.out.block b hl hb.2) fun b hb hl => ⟨hb.1, hne b hl hb.2⟩
          · rw [List.mem_singleton.mp hy]
            have hx5 : TOk w5 (fun b => wr.heap.size ≤ b) x := ⟨by rw [HXE.out, HX2.out]; exact HTV.out, by rw [HX2.out]; exact HGT.out.small⟩
            have hap : ∀ b, wr.heap.size ≤ b → some b ≠ (Value.slice A6 xl c6).ownBlock := fun b hb e => by have := HOWN.out b e.symm; omega
            exact hx5.move hgw (fun b hb hl => HG6.out.block b hl (hap b hb)) fun b hb hl => ⟨Nat.le_trans HB.out.size hb, hne b hl (hap b hb)⟩
    · have hkz : ¬ (k : Int) < (n : Int) := by omega
      have hX : BT.keptL s ks = xs.map (·.2) := by rw [← HX.out, List.take_of_length_le (by rw [HN.out]; omega)]
      have HZ2 : Aside0 (ofB (xs.map (·.2)) = Z) := ⟨by rw [← hX]; exact HZ.out⟩
      have HXD : Aside0 ((xs.map (·.2)).Pairwise fun a b => a.set &&& b.set = 0) := ⟨by rw [← hX]; exact HKD.out⟩
      have HXG : Aside0 (∀ t ∈ xs.map (·.2), t.Good) := ⟨by rw [← hX]; exact HKG.out⟩
      clear hX HX HZ HKD HKG
      rcases Nat.lt_or_ge xl 1 with h0 | h0
      · have hxe : xs = [] := List.length_eq_zero_iff.mp (by have := HXL.out; omega)
        have HZ3 : Aside0 (none = Z) := ⟨by have := HZ2.out; rwa [hxe] at this⟩
        have hnil := HNI.out hxe
        injection hnil with e1 e2 e3
        subst e1 e2 e3
        clear h0 hxe hxk
        go_wp2
        go_ret
        exact ⟨Or.inl ⟨HZ3.out.symm, rfl⟩, HB.out⟩
      · obtain ⟨g3, cap, hv6, _⟩ := Kd.R_form HV.out (by have := HXL.out; omega)
        rw [HXL.out] at hv6
        injection hv6 with e1 e2 e3
        subst e1 e3
        clear e2
        have hgb : W.heap.size ≤ g3 := Kd.R_base HV.out g3 rfl
        have hg1 : g3 ≠ 1 := by have := HTW.out; omega
        have hOK2 : ∀ x ∈ xs, TOk wr (fun b => W.heap.size ≤ b ∧ b ≠ g3) x := fun x hx => (HOK.out x hx).move (Nat.le_refl _) (fun _ _ _ => rfl) fun b hb _ => ⟨hb.1, fun e => hb.2 (by rw [e]; rfl)⟩
        have HOK2 := Aside0.mk hOK2
        by_cases h1 : xl = 1
        · obtain ⟨x, hxe⟩ := List.length_eq_one_iff.mp (HXL.out.trans h1)
          have hR := HV.out
          rw [hxe, h1] at hR
          have HOF := Aside0.mk (of_one hR)
          have HZ3 : Aside0 (some x.2 = Z) := ⟨by have := HZ2.out; rwa [hxe] at this⟩
          have HXO := Aside0.mk (HOK2.out x (by rw [hxe]; exact List.mem_cons_self))
          subst h1
          clear hR hOK2 h0 hxe hxk
          go_wp2_with (go_at_call 70; go_must (refine HOF.out.mono ?_; rintro e w7 ⟨rfl, rfl⟩))
          go_ret
          exact ⟨Or.inr ⟨x.2, encT x, HZ3.out.symm, rfl, (HXO.out.move (Nat.le_refl _) (fun _ _ _ => rfl) fun b hb _ => hb.1).1⟩, HB.out⟩
        · have HOF := Aside0.mk (of_many HV.out HXL.out.symm (fun x hx => (hOK2 x hx).move (Nat.le_refl _) (fun _ _ _ => rfl) fun b hb _ => hb.2) (HT.out.next HB.out) hg1 (by have := HXL.out; omega) (by have := HXL.out; omega))
          have HZ3 : Aside0 (some (.node (sortB (xs.map (·.2)))) = Z) := ⟨by
            have h := HZ2.out
            have hL : (xs.map (·.2)).length = xl := by rw [List.length_map, HXL.out]
            generalize xs.map (·.2) = L at h hL ⊢
            match L, hL, h with
            | [], hL, _ => rw [List.length_nil] at hL; omega
            | [a], hL, _ => rw [List.length_singleton] at hL; omega
            | a :: b :: r, _, h => exact h⟩
          clear hOK2
          go_wp2_with (go_at_call 70; go_must (refine HOF.out.mono ?_; rintro e w7 ⟨ys, rfl, hp, hs, hR, hg⟩; have HP := Aside0.mk hp; have HSS := Aside0.mk hs; have HR7 := Aside0.mk hR; have HG7 := Aside0.mk hg; clear hp hs hR hg))
          go_ret
          have hyt : ys.map (·.2) = sortB (xs.map (·.2)) := order_one ((sortB_strict HXG.out HXD.out).imp fun h => h.2) (by rw [List.pairwise_map]; exact HSS.out) ((HP.out.map _).trans (sortB_perm _).symm)
          refine ⟨Or.inr ⟨.node (ys.map (·.2)), .iface 111 (.agg #[.int .i64 ((BT.sets (ys.map (·.2)) : Nat) : Int), .slice (some ⟨g3, 0, none⟩) xl c6]), by rw [hyt]; exact HZ3.out.symm, rfl, family_of hgb HR7.out (by rw [HP.out.length_eq]; exact HXL.out.symm) HG7.out HOK2.out HP.out⟩, HB.out.grown HG7.out HB.out.size (fun j hj => by cases hj; exact hgb)⟩
/-- breed.kept. -/
theorem kept_calls (s : Nat) (hs : s < 256) (t : BT) : KeptC s t := by
  refine BT.ind (P := KeptC s) (fun i hi ok v W hv hT => ?_) (fun ks ih hg ok v W hv hT => kept_nodeC s hs ks ih hg ok v W hv hT) t
  rw [trv_leaf.mp hv]
  exact kept_leafC s hs i hi W
end Go.Proofs.YtdbbcngmnpejnaaDoor.A

/- breed.Family and breed.Kept, walked. -/
namespace Go.Proofs.YtdbbcngmnpejnaaDoor.B
open Go.Proofs.YtdbbcngmnpejnaaDoor.A
open Go.RowKit Go.Proofs.YtdbbcngmnpejnaaDoorW.PrintWords Go.Proofs.YtdbbcngmnpejnaaDoorW.PrintMore
def parseE (n : Int) (L : List UInt8) : Option BT := if 1 ≤ n ∧ n ≤ 8 then parseF n.toNat L else none
theorem readE_one (n : Int) (L : List UInt8) : readE n [L] = (parseE n L).map fun t => [t] := by
  unfold readE parseE
  by_cases h : 1 ≤ n ∧ n ≤ 8
  · rw [if_pos h, if_pos h, mapO]
    cases parseF n.toNat L with
    | none => rfl
    | some t => rw [mapO]; rfl
  · rw [if_neg h, if_neg h]; rfl
theorem parseE_good {n : Int} {L : List UInt8} {t : BT} (h : parseE n L = some t) : 1 ≤ n ∧ n ≤ 8 ∧ t.Good ∧ t.set = 2 ^ n.toNat - 1 := by
  unfold parseE at h
  by_cases hn : 1 ≤ n ∧ n ≤ 8
  · rw [if_pos hn] at h
    exact ⟨hn.1, hn.2, (parseF_good h).1, (parseF_good h).2⟩
  · rw [if_neg hn] at h; cases h
theorem errT_ne (n : Int) : errT n ≠ 0 := by unfold errT; split <;> decide
/-- What read hands back of one text. -/
theorem read_one (n : Int) (b c : Nat) (L : List UInt8) (W : World) (hc : W.cell? ⟨b, 0, none⟩ = some (.string (strB L))) (hT : TabAt W) :
    Calls Tryd.prog 52 #[.int .i64 n, .slice (some ⟨b, 0, none⟩) 1 c] W fun e w' => ((parseE n L = none ∧ e = .returned (.tuple #[.slice none 0 0, .int .i64 (errT n)])) ∨
      ∃ (t : BT) (g cap : Nat) (T : TypeId) (u : Value), parseE n L = some t ∧ e = .returned (.tuple #[.slice (some ⟨g, 0, none⟩) 1 cap, .int .i64 0]) ∧ w'.cell? ⟨g, 0, none⟩ = some (.iface T u) ∧ TrV w' (fun _ => True) (.iface T u) t) ∧ Below W.heap.size W w' := by
  refine (read_calls n b c [L] W (by simp) (fun j L' h => ?_) hT).mono ?_
  · match j, h with
    | 0, h => cases h; exact hc
  · rintro e w' ⟨⟨h1, rfl⟩ | ⟨v, xs, h1, rfl, hR, hok⟩, hb⟩
    · rw [readE_one] at h1
      have h2 : parseE n L = none := by
        cases h : parseE n L with
        | none => rfl
        | some t => rw [h] at h1; cases h1
      exact ⟨Or.inl ⟨h2, rfl⟩, hb⟩
    · rw [readE_one] at h1
      cases h : parseE n L with
      | none => rw [h] at h1; cases h1
      | some t =>
        rw [h] at h1
        have hx : xs.map (·.2) = [t] := by injection h1 with h1; exact h1.symm
        obtain ⟨x, rfl⟩ := List.length_eq_one_iff.mp (show xs.length = 1 by rw [← List.length_map (f := fun x : TT => x.2), hx]; rfl)
        have ht : x.2 = t := by injection hx
        obtain ⟨g, cap, rfl, _⟩ := Kd.R_form hR (by simp)
        have hC := (Kd.R_reads' hR).2.2
        obtain ⟨ad, had, hx0⟩ := ReadsOf.at_ (Kd.reads_of_C (d := default) hC) 0 (by decide) (by simp)
        cases had
        have hx : w'.cell? ⟨g, 0, none⟩ = some (encT x) := hx0
        have htv := (hok x (by simp)).1
        rw [ht] at htv
        obtain ⟨T, u, he, _⟩ := htv.ask
        rw [he] at hx htv
        exact ⟨Or.inr ⟨t, g, cap, T, u, rfl, rfl, hx, htv.mono fun _ _ => trivial⟩, hb⟩

/-! ### Family -/
def familyE (n : Int) (L : List UInt8) (a b : Int) : Int × Int := match parseE n L with
  | none => (0, errT n)
  | some t => if 0 ≤ a ∧ a < n ∧ 0 ≤ b ∧ b < n then ((BT.common (2 ^ a.toNat ||| 2 ^ b.toNat) t : Int), 0) else (0, 2)
set_option maxRecDepth 100000 in
set_option maxHeartbeats 3200000 in
theorem Family_calls (n : Int) (L : List UInt8) (a b : Int) (W : World) (hT : TabAt W) :
    Calls Tryd.prog 42 #[.int .i64 n, .string (strB L), .int .i64 a, .int .i64 b] W fun e w' => e = .returned (.tuple #[.int .i64 (familyE n L a b).1, .int .i64 (familyE n L a b).2]) ∧ Below W.heap.size W w' := by
  have HT := Aside0.mk hT
  obtain ⟨Z, hZ⟩ : ∃ Z, familyE n L a b = Z := ⟨_, rfl⟩
  rw [hZ]
  unfold familyE at hZ
  have HC : Aside0 (Calls Tryd.prog 52 #[.int .i64 n, .slice (some ⟨W.heap.size, 0, none⟩) 1 1] (W.alloc (.cells #[.string (strB L)] 9)) fun e w' => ((parseE n L = none ∧ e = .returned (.tuple #[.slice none 0 0, .int .i64 (errT n)])) ∨
      ∃ (t : BT) (g cap : Nat) (T : TypeId) (u : Value), parseE n L = some t ∧ e = .returned (.tuple #[.slice (some ⟨g, 0, none⟩) 1 cap, .int .i64 0]) ∧ w'.cell? ⟨g, 0, none⟩ = some (.iface T u) ∧ TrV w' (fun _ => True) (.iface T u) t) ∧ Below W.heap.size W w') :=
    ⟨(read_one n W.heap.size 1 L _ (blk_cell (heap_alloc_new W (.cells #[.string (strB L)] 9)) 0) (HT.out.next ((Below.refl _ _).alloc (Nat.le_refl _) _))).mono fun e w' ⟨h1, h2⟩ => ⟨h1, below_then ((Below.refl _ W).alloc (Nat.le_refl _) _) ((Below.refl _ W).alloc (Nat.le_refl _) _).size h2⟩⟩
  generalize strB L = sb at HC ⊢
  have he0 := errT_ne n
  obtain ⟨e1, e2⟩ := errne he0
  cases hp : parseE n L with
  | none =>
    rw [hp] at hZ
    dsimp only at hZ
    subst hZ
    have HC2 : Aside0 (Calls Tryd.prog 52 #[.int .i64 n, .slice (some ⟨W.heap.size, 0, none⟩) 1 1] (W.alloc (.cells #[.string sb] 9)) fun e w' => e = .returned (.tuple #[.slice none 0 0, .int .i64 (errT n)]) ∧ Below W.heap.size W w') := ⟨HC.out.mono (by
      rintro e w' ⟨⟨_, h⟩ | ⟨t, _, _, _, _, h, _⟩, hb⟩
      · exact ⟨h, hb⟩
      · rw [hp] at h; cases h)⟩
    clear HC hp he0
    generalize errT n = E at *
    go_enter Tryd.func42, Tryd.ntmps42
    go_wp2_with (go_at_call 52; go_must (refine HC2.out.mono ?_; rintro e w1 ⟨rfl, hb1⟩; have HB1 := Aside0.mk hb1; clear hb1))
    go_ret2
    exact ⟨rfl, HB1.out⟩
  | some t =>
    rw [hp] at hZ
    dsimp only at hZ
    obtain ⟨hn1, hn8, hgt, hst⟩ := parseE_good hp
    have HG := Aside0.mk hgt
    have HC2 : Aside0 (Calls Tryd.prog 52 #[.int .i64 n, .slice (some ⟨W.heap.size, 0, none⟩) 1 1] (W.alloc (.cells #[.string sb] 9)) fun e w' => ∃ (g cap : Nat) (T : TypeId) (u : Value), e = .returned (.tuple #[.slice (some ⟨g, 0, none⟩) 1 cap, .int .i64 0]) ∧ w'.cell? ⟨g, 0, none⟩ = some (.iface T u) ∧ TrV w' (fun _ => True) (.iface T u) t ∧ Below W.heap.size W w') := ⟨HC.out.mono (by
      rintro e w' ⟨⟨h, _⟩ | ⟨t', g, cap, T, u, h, h1, h2, h3⟩, hb⟩
      · rw [hp] at h; cases h
      · rw [hp] at h; cases h; exact ⟨g, cap, T, u, h1, h2, h3, hb⟩)⟩
    clear HC hp he0 e1 e2 hst hgt
    by_cases hab : 0 ≤ a ∧ a < n ∧ 0 ≤ b ∧ b < n
    · rw [if_pos hab] at hZ
      obtain ⟨i, rfl⟩ : ∃ i : Nat, a = i := ⟨a.toNat, by omega⟩
      obtain ⟨j, rfl⟩ : ∃ j : Nat, b = j := ⟨b.toNat, by omega⟩
      rw [Int.toNat_natCast, Int.toNat_natCast] at hZ
      have hi8 : i < 8 := by omega
      have hj8 : j < 8 := by omega
      have hij : 2 ^ i ||| 2 ^ j < 256 := Nat.or_lt_two_pow (n := 8) (two_256 hi8) (two_256 hj8)
      have hor := low_or (two_256 hi8) (two_256 hj8)
      have HCM : Aside0 (∀ (v : Value) (w : World), TrV w (fun _ => True) v t → Calls Tryd.prog 69 #[v, .int .i64 ((2 ^ i ||| 2 ^ j : Nat) : Int)] w fun e w' => e = .returned (.int .i64 ((BT.common (2 ^ i ||| 2 ^ j) t : Nat) : Int)) ∧ Below w.heap.size w w') := ⟨fun v w h => common_calls _ hij t HG.out _ v w h⟩
      have hwi := wrap_two hi8
      have hwj := wrap_two hj8
      have hwi2 := wrap64_two hi8
      have hwj2 := wrap64_two hj8
      rw [← two_cast, ← two_cast] at hor
      generalize (2 ^ i ||| 2 ^ j : Nat) = q at HCM hor hZ
      generalize BT.common q t = r at HCM hZ
      subst hZ
      have hmin : ¬ min (i : Int) (j : Int) < 0 := by omega
      have hmax : ¬ max (i : Int) (j : Int) ≥ n := by omega
      have hmax2 : max (i : Int) (j : Int) < n := by omega
      have hmin2 : 0 ≤ min (i : Int) (j : Int) := by omega
      clear hij
      go_enter Tryd.func42, Tryd.ntmps42
      go_upto_region 6 with (go_at_call 52; go_must (refine HC2.out.mono ?_; rintro e w1 ⟨g, cap, T, u, rfl, hc1, ht1, hb1⟩; have HTV := Aside0.mk ht1; have HB1 := Aside0.mk hb1; clear ht1 hb1))
      have HTD : Aside0 (TrV w1.drew (fun _ => True) (.iface T u) t) := ⟨TrV.move (W := w1) (W' := w1.drew) (Nat.le_refl _) (fun _ _ _ => rfl) (fun _ _ _ => trivial) HTV.out⟩
      refine wp_region_noPanic ?_
      refine wp_region_held_drew (S := fun w' => w'.cell? ⟨g, 0, none⟩ = some (.iface T u)) (by kernel_rfl) (hc1) (fun hHeld => ?_)
      refine H_on 0 35 ?vf0 rfl rfl (by kernel_rfl) (by kernel_rfl) (by kernel_rfl) (by rfl) ?hf0 hHeld ?rf0
      case hf0 => (intro w hSw; have s1 := hSw; go_simp <;> with_reducible rfl)
      simp only [Act.put, List.setIfInBounds_toArray, List.set_cons_zero, List.set_cons_succ]
      refine H_on 1 36 ?vf1 rfl rfl (by kernel_rfl) (by kernel_rfl) (by kernel_rfl) (by rfl) ?hf1 hHeld ?rf1
      case hf1 => (intro w hSw; have s1 := hSw; go_simp <;> with_reducible rfl)
      simp only [Act.put, List.setIfInBounds_toArray, List.set_cons_zero, List.set_cons_succ]
      refine H_on 2 37 ?vf2 rfl rfl (by kernel_rfl) (by kernel_rfl) (by kernel_rfl) (by rfl) ?hf2 hHeld ?rf2
      case hf2 => (intro w hSw; have s1 := hSw; go_simp <;> with_reducible rfl)
      simp only [Act.put, List.setIfInBounds_toArray, List.set_cons_zero, List.set_cons_succ]
      refine H_on 3 38 ?vf3 rfl rfl (by kernel_rfl) (by kernel_rfl) (by kernel_rfl) (by rfl) ?hf3 hHeld ?rf3
      case hf3 => (intro w hSw; have s1 := hSw; go_simp <;> with_reducible rfl)
      simp only [Act.put, List.setIfInBounds_toArray, List.set_cons_zero, List.set_cons_succ]
      refine H_on 4 39 ?vf4 rfl rfl (by kernel_rfl) (by kernel_rfl) (by kernel_rfl) (by rfl) ?hf4 hHeld ?rf4
      case hf4 => (intro w hSw; have s1 := hSw; go_simp <;> with_reducible rfl)
      simp only [Act.put, List.setIfInBounds_toArray, List.set_cons_zero, List.set_cons_succ]
      refine H_on 5 40 ?vf5 rfl rfl (by kernel_rfl) (by kernel_rfl) (by kernel_rfl) (by rfl) ?hf5 hHeld ?rf5
      case hf5 => (intro w hSw; have s1 := hSw; go_simp <;> with_reducible rfl)
      simp only [Act.put, List.setIfInBounds_toArray, List.set_cons_zero, List.set_cons_succ]
      refine H_on 6 41 ?vf6 rfl rfl (by kernel_rfl) (by kernel_rfl) (by kernel_rfl) (by rfl) ?hf6 hHeld ?rf6
      case hf6 => (intro w hSw; have s1 := hSw; go_simp <;> with_reducible rfl)
      simp only [Act.put, List.setIfInBounds_toArray, List.set_cons_zero, List.set_cons_succ]
      refine H_on 7 42 ?vf7 rfl rfl (by kernel_rfl) (by kernel_rfl) (by kernel_rfl) (by rfl) ?hf7 hHeld ?rf7
      case hf7 => (intro w hSw; have s1 := hSw; go_simp <;> with_reducible rfl)
      simp only [Act.put, List.setIfInBounds_toArray, List.set_cons_zero, List.set_cons_succ]
      refine wpAnyH_ready (rs := [8]) (by kernel_rfl) (by simp) ?_
      refine AllReadyH.cons rfl (fun K hK => ?_) AllReadyH.nil
      go_simp
      refine (HCM.out _ _ HTD.out).mono ?_
      rintro e w2 ⟨rfl, hb2⟩
      have hc2 : w2.cell? ⟨g, 0, none⟩ = some (.iface T u) := (World.cell?_of_block (hb2.block g (World.block_lt_of_cell? w1.drew _ hc1))).trans hc1
      have HB2 : Aside0 (Below W.heap.size W w2) := ⟨below_then (below_drew HB1.out) (below_drew HB1.out).size hb2⟩
      clear hb2
      go_wp2_with fail
      refine hK.out _ _ (hc2) (fun hHeld => ?_)
      clear hK K
      try simp only [Act.put, List.setIfInBounds_toArray, List.set_cons_zero, List.set_cons_succ]
      refine H_on 9 8 ?vf9 rfl rfl (by kernel_rfl) (by kernel_rfl) (by kernel_rfl) (by rfl) ?hf9 hHeld ?rf9
      case hf9 => (intro w hSw; have s1 := hSw; go_simp <;> with_reducible rfl)
      simp only [Act.put, List.setIfInBounds_toArray, List.set_cons_zero, List.set_cons_succ]
      refine H_on 10 9 ?vf10 rfl rfl (by kernel_rfl) (by kernel_rfl) (by kernel_rfl) (by rfl) ?hf10 hHeld ?rf10
      case hf10 => (intro w hSw; have s1 := hSw; go_simp <;> with_reducible rfl)
      simp only [Act.put, List.setIfInBounds_toArray, List.set_cons_zero, List.set_cons_succ]
      refine wpAnyH_done (by kernel_rfl) ?_ _
      refine NoPanic.normal ?_
      clear hHeld
      go_wp2
      go_ret2
      exact ⟨rfl, HB2.out⟩
    · rw [if_neg hab] at hZ
      subst hZ
      go_enter Tryd.func42, Tryd.ntmps42
      by_cases hmin : min a b < 0
      · go_wp2_with (go_at_call 52; go_must (refine HC2.out.mono ?_; rintro e w1 ⟨g, cap, T, u, rfl, hc1, ht1, hb1⟩; have HB1 := Aside0.mk hb1; clear ht1 hb1))
        go_ret2
        exact ⟨rfl, HB1.out⟩
      · have hmin2 : ¬ min a b < 0 := by omega
        have hmax : max a b ≥ n := by omega
        have hmax2 : ¬ max a b < n := by omega
        go_wp2_with (go_at_call 52; go_must (refine HC2.out.mono ?_; rintro e w1 ⟨g, cap, T, u, rfl, hc1, ht1, hb1⟩; have HB1 := Aside0.mk hb1; clear ht1 hb1))
        go_ret2
        exact ⟨rfl, HB1.out⟩
end Go.Proofs.YtdbbcngmnpejnaaDoor.B

/- breed.Kept, walked. -/
namespace Go.Proofs.YtdbbcngmnpejnaaDoor.B
open Go.Proofs.YtdbbcngmnpejnaaDoor.A
open Go.RowKit Go.Proofs.YtdbbcngmnpejnaaDoorW.PrintWords Go.Proofs.YtdbbcngmnpejnaaDoorW.PrintMore
def keptE (n : Int) (L : List UInt8) (s : Int) : ByteArray × Int := match parseE n L with
  | none => (⟨#[]⟩, errT n)
  | some t => if 1 ≤ s ∧ s < ((2 ^ n.toNat : Nat) : Int) then (match t.kept s.toNat with
    | some u => (strB u.text, 0)
    | none => (⟨#[]⟩, 0)) else (⟨#[]⟩, 2)
theorem full_and {s n : Nat} (h : s < 2 ^ n) : (2 ^ n - 1) &&& s = s := by
  rw [Nat.and_comm, Nat.and_two_pow_sub_one_eq_mod, Nat.mod_eq_of_lt h]
/-- Some of the beasts are kept. -/
theorem kept_some {t : BT} {n s : Nat} (hg : t.Good) (hs : t.set = 2 ^ n - 1) (h0 : s ≠ 0) (h1 : s < 2 ^ n) : ∃ u, t.kept s = some u ∧ u.Good ∧ u.set = s := by
  obtain ⟨a, b⟩ := kept_spec s t hg
  cases h : t.kept s with
  | none =>
    have := b h
    rw [hs, full_and h1] at this
    exact absurd this h0
  | some u =>
    have := a u h
    rw [hs, full_and h1] at this
    exact ⟨u, rfl, this.1, this.2⟩
set_option maxRecDepth 100000 in
set_option maxHeartbeats 3200000 in
theorem Kept_calls (n : Int) (L : List UInt8) (s : Int) (W : World) (hT : TabAt W) :
    Calls Tryd.prog 24 #[.int .i64 n, .string (strB L), .int .i64 s] W fun e w' => e = .returned (.tuple #[.string (keptE n L s).1, .int .i64 (keptE n L s).2]) ∧ Below W.heap.size W w' := by
  have HT := Aside0.mk hT
  obtain ⟨Z, hZ⟩ : ∃ Z, keptE n L s = Z := ⟨_, rfl⟩
  rw [hZ]
  unfold keptE at hZ
  have HC : Aside0 (Calls Tryd.prog 52 #[.int .i64 n, .slice (some ⟨W.heap.size, 0, none⟩) 1 1] (W.alloc (.cells #[.string (strB L)] 9)) fun e w' => ((parseE n L = none ∧ e = .returned (.tuple #[.slice none 0 0, .int .i64 (errT n)])) ∨
      ∃ (t : BT) (g cap : Nat) (T : TypeId) (u : Value), parseE n L = some t ∧ e = .returned (.tuple #[.slice (some ⟨g, 0, none⟩) 1 cap, .int .i64 0]) ∧ w'.cell? ⟨g, 0, none⟩ = some (.iface T u) ∧ TrV w' (fun _ => True) (.iface T u) t) ∧ Below W.heap.size W w') :=
    ⟨(read_one n W.heap.size 1 L _ (blk_cell (heap_alloc_new W (.cells #[.string (strB L)] 9)) 0) (HT.out.next ((Below.refl _ _).alloc (Nat.le_refl _) _))).mono fun e w' ⟨h1, h2⟩ => ⟨h1, below_then ((Below.refl _ W).alloc (Nat.le_refl _) _) ((Below.refl _ W).alloc (Nat.le_refl _) _).size h2⟩⟩
  generalize strB L = sb at HC ⊢
  have he0 := errT_ne n
  obtain ⟨e1, e2⟩ := errne he0
  cases hp : parseE n L with
  | none =>
    rw [hp] at hZ
    dsimp only at hZ
    subst hZ
    have HC2 : Aside0 (Calls Tryd.prog 52 #[.int .i64 n, .slice (some ⟨W.heap.size, 0, none⟩) 1 1] (W.alloc (.cells #[.string sb] 9)) fun e w' => e = .returned (.tuple #[.slice none 0 0, .int .i64 (errT n)]) ∧ Below W.heap.size W w') := ⟨HC.out.mono (by
      rintro e w' ⟨⟨_, h⟩ | ⟨t, _, _, _, _, h, _⟩, hb⟩
      · exact ⟨h, hb⟩
      · rw [hp] at h; cases h)⟩
    clear HC hp he0
    generalize errT n = E at *
    go_enter Tryd.func24, Tryd.ntmps24
    go_wp2_with (go_at_call 52; go_must (refine HC2.out.mono ?_; rintro e w1 ⟨rfl, hb1⟩; have HB1 := Aside0.mk hb1; clear hb1))
    go_ret2
    exact ⟨rfl, HB1.out⟩
  | some t =>
    rw [hp] at hZ
    dsimp only at hZ
    obtain ⟨hn1, hn8, hgt, hst⟩ := parseE_good hp
    have HG := Aside0.mk hgt
    have HC2 : Aside0 (Calls Tryd.prog 52 #[.int .i64 n, .slice (some ⟨W.heap.size, 0, none⟩) 1 1] (W.alloc (.cells #[.string sb] 9)) fun e w' => ∃ (g cap : Nat) (T : TypeId) (u : Value), e = .returned (.tuple #[.slice (some ⟨g, 0, none⟩) 1 cap, .int .i64 0]) ∧ w'.cell? ⟨g, 0, none⟩ = some (.iface T u) ∧ TrV w' (fun _ => True) (.iface T u) t ∧ Below W.heap.size W w') := ⟨HC.out.mono (by
      rintro e w' ⟨⟨h, _⟩ | ⟨t', g, cap, T, u, h, h1, h2, h3⟩, hb⟩
      · rw [hp] at h; cases h
      · rw [hp] at h; cases h; exact ⟨g, cap, T, u, h1, h2, h3, hb⟩)⟩
    obtain ⟨m, rfl⟩ : ∃ m : Nat, n = m := ⟨n.toNat, by omega⟩
    have hm8 : m ≤ 8 := by omega
    rw [Int.toNat_natCast] at hst hZ
    clear HC hp he0 e1 e2
    have hP := pow_256 hm8
    have hw1 := wrap_pow hm8
    have hw2 := wrap64_pow hm8
    by_cases hs : 1 ≤ s ∧ s < ((2 ^ m : Nat) : Int)
    · rw [if_pos hs] at hZ
      obtain ⟨q, rfl⟩ : ∃ q : Nat, s = q := ⟨s.toNat, by omega⟩
      rw [Int.toNat_natCast] at hZ
      obtain ⟨u, hku, hug, hus⟩ := kept_some (s := q) hgt hst (by omega) (by omega)
      rw [hku] at hZ
      dsimp only at hZ
      subst hZ
      have hq8 : q < 256 := by omega
      have HK : Aside0 (∀ (v : Value) (w : World), TrV w (fun _ => True) v t → TabAt w → Calls Tryd.prog 53 #[v, .int .i64 (q : Int)] w fun e w' => ∃ v', e = .returned v' ∧ TrV w' (fun b => w.heap.size ≤ b) v' u ∧ Below w.heap.size w w') := ⟨fun v w h hT => (kept_calls q hq8 t HG.out _ v w h hT).mono (by
        rintro e w' ⟨⟨h, _⟩ | ⟨t', v, h, rfl, ht⟩, hb⟩
        · rw [hku] at h; cases h
        · rw [hku] at h; cases h; exact ⟨v, rfl, ht, hb⟩)⟩
      have HUG := Aside0.mk hug
      have hs1 := hs.1
      have hs2 := hs.2
      have hs3 : ¬ ((q : Int) < 1) := by omega
      clear hgt hst hku hug hus hq8
      generalize ((2 ^ m : Nat) : Int) = P at hw1 hw2 hs2
      clear hs hP
      show Calls _ _ _ _ fun e w' => e = .returned (.tuple #[.string (strB u.text), .int .i64 0]) ∧ Below W.heap.size W w'
      go_enter Tryd.func24, Tryd.ntmps24
      go_wp2_with (first
        | (go_at_call 52; go_must (refine HC2.out.mono ?_; rintro e w1 ⟨g, cap, T, u1, rfl, hc1, ht1, hb1⟩; have HTV := Aside0.mk ht1; have HB1 := Aside0.mk hb1; clear ht1 hb1))
        | (go_at_call 53; go_must (refine (HK.out _ _ HTV.out (HT.out.next HB1.out)).mono ?_; rintro e w2 ⟨v2, rfl, htv, hb2⟩; have HB3 := Aside0.mk (below_then HB1.out HB1.out.size hb2); obtain ⟨T2, u2, K, rfl, hmt, hen, hcall⟩ := text_calls u HUG.out _ v2 w2 htv; have HC3 := Aside0.mk (hcall w2 (Below.refl _ _) (HT.out.next HB3.out)); clear htv hb2 hcall))
        | (go_at_fn K; go_must (refine HC3.out.mono ?_; rintro e w3 ⟨rfl, hb3⟩; have HB4 := Aside0.mk (below_then HB3.out HB3.out.size hb3); clear hb3)))
      go_ret2
      exact ⟨rfl, HB4.out⟩
    · rw [if_neg hs] at hZ
      subst hZ
      clear hgt hst
      generalize ((2 ^ m : Nat) : Int) = P at hw1 hw2 hs
      clear hP
      by_cases hs1 : s < 1
      · clear hs
        go_enter Tryd.func24, Tryd.ntmps24
        go_wp2_with (go_at_call 52; go_must (refine HC2.out.mono ?_; rintro e w1 ⟨g, cap, T, u, rfl, hc1, ht1, hb1⟩; have HB1 := Aside0.mk hb1; clear ht1 hb1))
        go_ret2
        exact ⟨rfl, HB1.out⟩
      · have hs2 : ¬ s < P := by omega
        have hs3 : s ≥ P := by omega
        clear hs
        go_enter Tryd.func24, Tryd.ntmps24
        go_wp2_with (go_at_call 52; go_must (refine HC2.out.mono ?_; rintro e w1 ⟨g, cap, T, u, rfl, hc1, ht1, hb1⟩; have HB1 := Aside0.mk hb1; clear ht1 hb1))
        go_ret2
        exact ⟨rfl, HB1.out⟩
end Go.Proofs.YtdbbcngmnpejnaaDoor.B

/- Aho's theorem, plain: what is built shows its triples; what some tree shows can be built; what can't be built has a knot. -/
namespace Go.Proofs.YtdbbcngmnpejnaaDoor.A
/-- Three different beasts of eight. -/
def Tri3 (x : S44) : Prop := Tri8 x ∧ x.a ≠ x.b ∧ x.c ≠ x.a ∧ x.c ≠ x.b
def shows3 (t : BT) (x : S44) : Bool := showsB t x.a x.b x.c
variable {l : List S44} {s : Nat}
theorem pair_a (x : S44) : (pairN x).testBit x.a = true := by unfold pairN; rw [pair_bit]; simp
theorem pair_b (x : S44) : (pairN x).testBit x.b = true := by unfold pairN; rw [pair_bit]; simp
theorem all_c (x : S44) : (allN x).testBit x.c = true := by unfold allN; rw [Nat.testBit_or, two_bit]; simp
theorem sub_pair {x : S44} {q : Nat} (ha : q.testBit x.a = true) (hb : q.testBit x.b = true) : SubN (pairN x) q := has_iff.mp (has_pair.mpr ⟨ha, hb⟩)
theorem sub_all {x : S44} {q : Nat} (h : SubN (pairN x) q) (hc : q.testBit x.c = true) : SubN (allN x) q := sub_or h fun i hi => by
  rw [two_bit, decide_eq_true_iff] at hi
  rw [← hi]; exact hc
/-- The trees of a tree that is built, one for each part. -/
theorem build_node (hl : ∀ t ∈ l, Tri8 t) {f : Nat} (h0 : s ≠ 0) (h8 : s < 256) {t : BT} (h : buildF l (f + 1) s = some t) (h1 : s &&& (s - 1) ≠ 0) : ∃ ts, t = .node ts ∧ ts.map BT.set = partsF l s ∧ ∀ k ∈ ts, buildF l f k.set = some k := by
  have hg := build_good hl (f + 1) s t h0 h8 h
  rw [buildF, if_neg h1] at h
  by_cases h2 : (partsF l s).length = 1
  · rw [if_pos h2] at h; cases h
  · rw [if_neg h2] at h
    obtain ⟨ts, hts, rfl⟩ := Option.map_eq_some_iff.mp h
    have hP := parts_spec (s := s) hl h8
    have hm := mapO_some.mp hts
    have hp8 : ∀ p ∈ partsF l s, p < 256 := fun p hp => lt_of_bits (k := 8) fun i hi => bit_lt (k := 8) h8 (hP.sub p hp i hi)
    have hset : ts.map BT.set = partsF l s := by
      have hlen : ts.length = (partsF l s).length := by have := congrArg List.length hm; rw [List.length_map, List.length_map] at this; exact this.symm
      refine List.ext_getElem (by rw [List.length_map, hlen]) fun i h1 h2 => ?_
      rw [List.length_map] at h1
      have e := congrArg (fun L => L[i]?) hm
      (try dsimp only at e)
      rw [List.getElem?_map, List.getElem?_map, List.getElem?_eq_getElem h2, List.getElem?_eq_getElem h1] at e
      have e2 := Option.some.inj e
      have hp := List.getElem_mem h2
      rw [List.getElem_map]
      exact (build_good hl f _ _ (hP.ne _ hp) (hp8 _ hp) e2).2
    refine ⟨ts, rfl, hset, fun k hk => ?_⟩
    have : some k ∈ (partsF l s).map (buildF l f) := by rw [hm]; exact List.mem_map.mpr ⟨k, hk, rfl⟩
    obtain ⟨p, hp, e⟩ := List.mem_map.mp this
    rw [(build_good hl f p k (hP.ne p hp) (hp8 p hp) e).2]
    exact e
/-- What is built shows the triples within its set. -/
theorem build_shows (hl : ∀ t ∈ l, Tri3 t) : ∀ f s t, s ≠ 0 → s < 256 → buildF l f s = some t → ∀ x ∈ l, SubN (allN x) s → shows3 t x = true
  | 0, _, _, _, _, h, _, _, _ => by rw [buildF] at h; cases h
  | f + 1, s, t, h0, h8, h, x, hx, hs => by
    have hl8 : ∀ t ∈ l, Tri8 t := fun t ht => (hl t ht).1
    by_cases h1 : s &&& (s - 1) = 0
    · exfalso
      have h2 := (one_iff s h8 h0).mp h1
      have ha := hs _ (pair_sub x _ (pair_a x))
      have hb := hs _ (pair_sub x _ (pair_b x))
      rw [h2, two_bit, decide_eq_true_iff] at ha hb
      exact (hl x hx).2.1 (by omega)
    · obtain ⟨ts, rfl, hset, hk⟩ := build_node hl8 h0 h8 h h1
      have hg := (build_good hl8 (f + 1) s _ h0 h8 h).1
      have hP := parts_spec (s := s) hl8 h8
      obtain ⟨p, hp, hpa⟩ := hP.all x.a (hs _ (pair_sub x _ (pair_a x)))
      have hpp := hP.closed p hp x hx hs (meet_iff.mpr ⟨x.a, pair_a x, hpa⟩)
      rw [← hset] at hp
      obtain ⟨k, hkm, rfl⟩ := List.mem_map.mp hp
      have hka := hpp _ (pair_a x)
      have hkb := hpp _ (pair_b x)
      have hgk := (good_node.mp hg).2.1 k hkm
      cases hc : k.set.testBit x.c with
      | true =>
        unfold shows3
        rw [shows_in hg hkm hka hkb]
        exact build_shows hl f k.set k (good_ne hgk) (good_256 hgk) (hk k hkm) x hx (sub_all hpp hc)
      | false => exact shows_apart hg hkm hka hkb hc
/-- Where a tree of several parts shows the triples within a set, no part of the set lies in two parts of the tree. -/
theorem part_in (hl : ∀ t ∈ l, Tri8 t) {ks : List BT} (hg : (BT.node ks).Good) (h8 : s < 256) (hs : SubN s (BT.node ks).set) (hsh : ∀ x ∈ l, SubN (allN x) s → shows3 (.node ks) x = true) {p : Nat} (hp : p ∈ partsF l s) : ∃ k ∈ ks, SubN p k.set := by
  have hP := parts_spec (s := s) hl h8
  have hp8 : p < 256 := lt_of_bits (k := 8) fun i hi => bit_lt (k := 8) h8 (hP.sub p hp i hi)
  have hlow := low_bit (hP.ne p hp) hp8
  have hls := hP.sub p hp _ hlow
  have hlt := hs _ hls
  rw [set_node, sets_bit] at hlt
  obtain ⟨k, hk, hkl⟩ := hlt
  refine ⟨k, hk, ?_⟩
  have hpw := (good_node.mp hg).2.2
  have hQ : ClosedJ l s (s &&& k.set) := fun x hx hxs hm => by
    obtain ⟨j, hj1, hj2⟩ := meet_iff.mp hm
    rw [Nat.testBit_and, Bool.and_eq_true] at hj2
    have hsx := hsh x hx hxs
    have hsame : ∃ k' ∈ ks, k'.set.testBit x.a = true ∧ k'.set.testBit x.b = true := by
      refine Classical.byContradiction fun hno => ?_
      have := shows_out (ks := ks) (a := x.a) (b := x.b) (c := x.c) (fun k' hk' ha => by
        cases hb : k'.set.testBit x.b with
        | false => rfl
        | true => exact absurd ⟨k', hk', ha, hb⟩ hno) (hs _ (hxs _ (all_c x)))
      unfold shows3 at hsx
      rw [this] at hsx; cases hsx
    obtain ⟨k', hk', ha, hb⟩ := hsame
    have hj3 := sub_pair (x := x) ha hb j hj1
    have e : k' = k := part_one hpw hk' hk hj3 hj2.2
    subst e
    intro i hi
    rw [Nat.testBit_and, hxs i (pair_sub x i hi), sub_pair ha hb i hi]; rfl
  have h := hP.least p hp _ hQ (by rw [Nat.testBit_and, hls, hkl]; rfl)
  intro i hi
  have := h i hi
  rw [Nat.testBit_and, Bool.and_eq_true] at this
  exact this.2
/-- What some tree shows can be built. -/
theorem shows_build (hl : ∀ t ∈ l, Tri8 t) (T : BT) : T.Good → ∀ f s, s ≠ 0 → s < 256 → pcN s 8 < f → SubN s T.set → (∀ x ∈ l, SubN (allN x) s → shows3 T x = true) → buildF l f s ≠ none := by
  refine BT.ind (P := fun T => T.Good → ∀ f s, s ≠ 0 → s < 256 → pcN s 8 < f → SubN s T.set → (∀ x ∈ l, SubN (allN x) s → shows3 T x = true) → buildF l f s ≠ none) (fun i hi f s h0 h8 hf hs _ => ?_) (fun ks ih hg f s h0 h8 hf hs hsh => ?_) T
  · obtain ⟨f, rfl⟩ : ∃ f', f = f' + 1 := ⟨f - 1, by omega⟩
    have e : s = 2 ^ low s := by
      refine Nat.eq_of_testBit_eq fun j => ?_
      have hb := hs _ (low_bit h0 h8)
      rw [set_leaf, two_bit, decide_eq_true_iff] at hb
      rw [two_bit]
      cases h : s.testBit j with
      | true =>
        have := hs j h
        rw [set_leaf, two_bit, decide_eq_true_iff] at this
        rw [decide_eq_true (show low s = j by omega)]
      | false =>
        rw [decide_eq_false]
        intro e
        rw [← e, low_bit h0 h8] at h; cases h
    rw [buildF, if_pos ((one_iff s h8 h0).mpr e)]
    simp
  · obtain ⟨f, rfl⟩ : ∃ f', f = f' + 1 := ⟨f - 1, by omega⟩
    by_cases hin : ∃ k ∈ ks, SubN s k.set
    · obtain ⟨k, hk, hsk⟩ := hin
      refine ih k hk ((good_node.mp hg).2.1 k hk) (f + 1) s h0 h8 hf hsk fun x hx hxs => ?_
      have := hsh x hx hxs
      unfold shows3 at this ⊢
      rwa [shows_in hg hk (hsk _ (hxs _ (pair_sub x _ (pair_a x)))) (hsk _ (hxs _ (pair_sub x _ (pair_b x))))] at this
    · have hP := parts_spec (s := s) hl h8
      have hn1 : s &&& (s - 1) ≠ 0 := fun e => by
        have e2 := (one_iff s h8 h0).mp e
        have hb := hs _ (low_bit h0 h8)
        rw [set_node, sets_bit] at hb
        obtain ⟨k, hk, hkl⟩ := hb
        refine hin ⟨k, hk, fun i hi => ?_⟩
        rw [e2, two_bit, decide_eq_true_iff] at hi
        rw [← hi]; exact hkl
      have hn2 : (partsF l s).length ≠ 1 := fun e => by
        obtain ⟨p, hp⟩ := List.length_eq_one_iff.mp e
        obtain ⟨k, hk, hpk⟩ := part_in hl hg h8 hs hsh (p := p) (by rw [hp]; exact List.mem_cons_self)
        refine hin ⟨k, hk, fun i hi => ?_⟩
        obtain ⟨q, hq, hqi⟩ := hP.all i hi
        rw [hp, List.mem_singleton] at hq
        rw [hq] at hqi
        exact hpk i hqi
      rw [buildF, if_neg hn1, if_neg hn2]
      intro hno
      have hno2 : mapO (buildF l f) (partsF l s) = none := by
        cases h : mapO (buildF l f) (partsF l s) with
        | none => rfl
        | some ts => rw [h] at hno; cases hno
      obtain ⟨p, hp, hpn⟩ := mapO_none.mp hno2
      have hp8 : p < 256 := lt_of_bits (k := 8) fun i hi => bit_lt (k := 8) h8 (hP.sub p hp i hi)
      obtain ⟨k, hk, hpk⟩ := part_in hl hg h8 hs hsh hp
      have hpc := part_less hl h8 hp hn2
      refine ih k hk ((good_node.mp hg).2.1 k hk) f p (hP.ne p hp) hp8 (by omega) hpk (fun x hx hxp => ?_) hpn
      have := hsh x hx (hxp.trans (hP.sub p hp))
      unfold shows3 at this ⊢
      rwa [shows_in hg hk (hpk _ (hxp _ (pair_sub x _ (pair_a x)))) (hpk _ (hxp _ (pair_sub x _ (pair_b x))))] at this
end Go.Proofs.YtdbbcngmnpejnaaDoor.A

/- slices.IndexFunc and slices.ContainsFunc over triples; breed.shows and breed.Shows, walked. (Printed by gen_d17.py.) -/
namespace Go.Proofs.YtdbbcngmnpejnaaDoor.B
open Go.Proofs.YtdbbcngmnpejnaaDoor.A
open Go.RowKit Go.Proofs.YtdbbcngmnpejnaaDoorW.PrintWords Go.Proofs.YtdbbcngmnpejnaaDoorW.PrintMore
def enc44 (t : S44) : Value := .agg #[.int .i64 t.f0, .int .i64 t.f1, .int .i64 t.f2]
/-- A function value that answers p at each element of a list, in every world in which all that lay in w lies unturned. -/
def PredB (g : Nat) (lb : Array Value) (p : S44 → Bool) (l : List S44) (w : World) : Prop :=
  ∀ (W : World) (x : S44), x ∈ l → Below w.heap.size w W → Calls Tryd.prog g (#[enc44 x] ++ lb) W fun e w' => e = .returned (.bool (p x)) ∧ Below w.heap.size w w'
set_option maxHeartbeats 2000000 in
set_option maxRecDepth 100000 in
theorem IndexFunc_tri (g : Nat) (lb : Array Value) (p : S44 → Bool) (eg : ∀ args w, (callFunc g args).run Tryd.prog w = .ok (.enter g args) w)
    (A : Option Addr) (n c : Nat) (l : List S44) (w : World) (hr : Kd.C k44 w A n l) (hp : PredB g lb p l w) :
    Calls Tryd.prog 75 #[.slice A n c, .func (.func g) #[] lb] w fun e w' => (∃ i : Int, e = .returned (.int .i64 i) ∧ Aside0 ((i = -1 ∧ ∀ j, j < n → p (l.getD j z44) = false) ∨ ∃ k : Nat, i = k ∧ k < n ∧ p (l.getD k z44) = true ∧ ∀ j, j < k → p (l.getD j z44) = false)) ∧ Below w.heap.size w w' := by
  have hlen : l.length = n := hr.1
  have hmax : n ≤ 9223372036854775807 := by have := hr.2.1; omega
  have HR := Aside0.mk hr
  have HP := Aside0.mk hp
  have HL := Aside0.mk hlen
  clear hr hp hlen
  go_enter Tryd.func75, Tryd.ntmps75
  go_wp2
  go_loopg [5, 8] n (fun gg _ s8 wr => ∃ kk : Nat, kk ≤ n ∧ n - kk ≤ gg ∧ s8 = .int .i64 kk ∧ Aside0 (Below w.heap.size w wr) ∧ Aside0 (∀ j, j < kk → p (l.getD j z44) = false))
  case atStart => exact ⟨0, Nat.zero_le _, by omega, rfl, ⟨Below.refl _ w⟩, ⟨fun j hj => absurd hj (Nat.not_lt_zero _)⟩⟩
  case round =>
    obtain ⟨kk, hkk, hg, rfl, BW, AF⟩ := hrel
    by_cases hlt : kk < n
    · have hltz : (kk : Int) < (n : Int) := by omega
      obtain ⟨ad, rfl, hx0, hx1, hx2⟩ := at_T44 (Kd.C_below HR.out BW.out) (kk : Int) (by omega) (by omega)
      rw [Int.toNat_natCast] at hx0 hx1 hx2
      have hrd : rd_T44 l (kk : Int) = l.getD kk z44 := by simp only [rd_T44, Int.toNat_natCast]
      rw [hrd] at hx0 hx1 hx2
      have hcall := HP.out wr (l.getD kk z44) (getD_mem z44 (by rw [HL.out]; exact hlt)) BW.out
      clear hrd
      generalize hy : l.getD kk z44 = y at hx0 hx1 hx2 hcall
      have B := Aside0.mk hy
      clear hy
      unfold enc44 at hcall
      cases hq : p y with
      | true =>
        rw [hq] at hcall
        go_wp2_with (go_at_fn g; refine hcall.mono ?_; rintro e w' ⟨rfl, hb'⟩)
        go_ret
        exact ⟨⟨kk, rfl, ⟨Or.inr ⟨kk, rfl, hlt, by rw [B.out]; exact hq, AF.out⟩⟩⟩, hb'⟩
      | false =>
        rw [hq] at hcall
        go_wp2_with (go_at_fn g; refine hcall.mono ?_; rintro e w' ⟨rfl, hb'⟩)
        go_roundg (n - (kk + 1))
        case measure => omega
        case rel =>
          refine ⟨kk + 1, by omega, by omega, by go_num, ⟨hb'⟩, ⟨fun j hj => ?_⟩⟩
          by_cases e : j = kk
          · subst e
            rw [B.out]; exact hq
          · exact AF.out j (by omega)
    · have hltz : ¬ (kk : Int) < (n : Int) := by omega
      have : kk = n := by omega
      subst this
      go_wp2
      go_ret
      exact ⟨⟨-1, rfl, ⟨Or.inl ⟨rfl, AF.out⟩⟩⟩, BW.out⟩
/-! ### shows -/
end Go.Proofs.YtdbbcngmnpejnaaDoor.B

/- slices.DeleteFunc over a row of triples of one's own, walked. (Printed by gen_d20.py.) -/
namespace Go.Proofs.YtdbbcngmnpejnaaDoor.B
open Go.Proofs.YtdbbcngmnpejnaaDoor.A
open Go.RowKit Go.Proofs.YtdbbcngmnpejnaaDoorW.PrintWords Go.Proofs.YtdbbcngmnpejnaaDoorW.PrintMore
/-- A function value that answers p at each element of a list and only makes memory, in every world in which all that lay in w0 lies unturned. -/
def PredW (g : Nat) (lb : Array Value) (p : S44 → Bool) (l : List S44) (w0 : World) : Prop :=
  ∀ (W : World) (x : S44), x ∈ l → Below w0.heap.size w0 W → Calls Tryd.prog g (#[enc44 x] ++ lb) W fun e w' => e = .returned (.bool (p x)) ∧ Below W.heap.size W w'
theorem PredW.pred {g : Nat} {lb : Array Value} {p : S44 → Bool} {l : List S44} {w0 w : World} (h : PredW g lb p l w0) (hb : Below w0.heap.size w0 w) : PredB g lb p l w :=
  fun W x hx hbW => (h W x hx (below_then hb hb.size hbW)).mono fun _ _ ⟨h1, h2⟩ => ⟨h1, below_then hbW hbW.size h2⟩

theorem zeroCells3 (z : Value) (n : Nat) : (Builtin.zeroCells #[z, z, z] n).toList = List.replicate (n * 3) z := by
  simp [Builtin.zeroCells]
  apply List.ext_getElem
  · simp
  · intro i h1 h2
    have h3 : i % 3 < 3 := Nat.mod_lt _ (by decide)
    simp only [List.getElem_map, List.getElem_range, List.getElem_replicate]
    have : i % 3 = 0 ∨ i % 3 = 1 ∨ i % 3 = 2 := by omega
    rcases this with h | h | h <;> rw [h] <;> rfl
theorem run_clear3 (W : World) (ty : TypeId) (b o n c : Nat) (hn : 0 < n) (hc : ∀ j, j < n * 3 → (W.cell? ⟨b, o + j, none⟩).isSome = true) (hf : ∀ j, j < n * 3 → W.frozen? ⟨b, o + j, none⟩ = false) :
    (Builtin.clear_ #[27] ty #[.slice (some ⟨b, o, none⟩) n c]).run Tryd.prog W = .ok (.tuple #[]) (W.setCells b o (List.replicate (n * 3) (.int .i64 0))) := by
  have hzc := zeroCells3 (.int .i64 0) n
  have hst := run_storeCells_cells (P := Tryd.prog) b o (List.replicate (n * 3) (.int .i64 0)) 0 W (by simpa using hc) (by simpa using hf) (by intro v hv'; rw [List.eq_of_mem_replicate hv']; rfl)
  simp only [Nat.add_zero] at hst
  obtain ⟨m, rfl⟩ : ∃ m, n = m + 1 := ⟨n - 1, by omega⟩
  have hcs : (Value.agg #[.int .i64 0, .int .i64 0, .int .i64 0]).cells = #[.int .i64 0, .int .i64 0, .int .i64 0] := rfl
  simp [Builtin.clear_, run_underlying Tryd.underlying27, hcs, hzc, hst]

theorem cells_at3 {w : World} {g o : Nat} {a b c : Value} (h0 : w.cell? ⟨g, o, none⟩ = some a) (h1 : w.cell? ⟨g, o + 1, none⟩ = some b) (h2 : w.cell? ⟨g, o + 2, none⟩ = some c) : ∀ j u, ([a, b, c] : List Value)[j]? = some u → w.cell? ⟨g, o + j, none⟩ = some u
  | 0, _, h => by cases h; exact h0
  | 1, _, h => by cases h; exact h1
  | 2, _, h => by cases h; exact h2
  | j + 3, _, h => by simp at h
/-- What is held while a row is thinned. -/
structure DelS (xs : List S44) (p : S44 → Bool) (g cap : Nat) (w0 wr : World) (i j : Nat) (ys : List S44) : Prop where
  row : Kd.R k44 44 wr w0.heap.size (fun _ => True) (.slice (some ⟨g, 0, none⟩) xs.length cap) ys
  len : ys.length = xs.length
  head : ys.take i = (xs.take j).filter fun x => !p x
  tail : ∀ t, j ≤ t → t < xs.length → ys.getD t z44 = xs.getD t z44
  lt : i < j
  le : j ≤ xs.length
  keep : Below w0.heap.size w0 wr
theorem filter_take_succ (xs : List S44) (f : S44 → Bool) (j : Nat) (h : j < xs.length) : (xs.take (j + 1)).filter f = (xs.take j).filter f ++ (if f (xs.getD j z44) = true then [xs.getD j z44] else []) := by
  rw [List.take_succ_eq_append_getElem h, List.filter_append, List.getD_eq_getElem?_getD, List.getElem?_eq_getElem h]
  simp [List.filter_cons]
section
variable {xs : List S44} {p : S44 → Bool} {g cap : Nat} {w0 wr w2 : World} {i j k : Nat} {ys : List S44}
theorem DelS.start (hr : Kd.R k44 44 wr w0.heap.size (fun _ => True) (.slice (some ⟨g, 0, none⟩) xs.length cap) xs) (hk : k < xs.length) (hp : p (xs.getD k z44) = true) (ha : ∀ j, j < k → p (xs.getD j z44) = false) (hw : Below w0.heap.size w0 wr) : DelS xs p g cap w0 wr k (k + 1) xs := by
  refine ⟨hr, rfl, ?_, fun _ _ _ => rfl, by omega, hk, hw⟩
  rw [filter_take_succ xs _ k hk, if_neg (by rw [hp]; simp), List.append_nil]
  symm
  rw [List.filter_eq_self]
  intro x hx
  obtain ⟨i, hi, rfl⟩ := List.getElem_of_mem hx
  have hi2 : i < k := by rw [List.length_take] at hi; omega
  have := ha i hi2
  rw [List.getElem_take]
  rw [List.getD_eq_getElem?_getD, List.getElem?_eq_getElem (by omega)] at this
  simpa using this
theorem DelS.next (h : DelS xs p g cap w0 wr i j ys) (hb : Below wr.heap.size wr w2) : DelS xs p g cap w0 w2 i j ys :=
  ⟨Kd.R_below h.row hb, h.len, h.head, h.tail, h.lt, h.le, below_then h.keep h.keep.size hb⟩
theorem DelS.skip (h : DelS xs p g cap w0 wr i j ys) (hj : j < xs.length) (hp : p (xs.getD j z44) = true) : DelS xs p g cap w0 wr i (j + 1) ys :=
  ⟨h.row, h.len, by rw [h.head, filter_take_succ xs _ j hj, if_neg (by rw [hp]; simp), List.append_nil], fun t ht hl => h.tail t (by omega) hl, by have := h.lt; omega, hj, h.keep⟩
theorem DelS.put (h : DelS xs p g cap w0 wr i j ys) (hj : j < xs.length) (hp : p (xs.getD j z44) = false) (hr : Kd.R k44 44 w2 w0.heap.size (fun _ => True) (.slice (some ⟨g, 0, none⟩) xs.length cap) (ys.set i (xs.getD j z44))) (hb : Below w0.heap.size w0 w2) : DelS xs p g cap w0 w2 (i + 1) (j + 1) (ys.set i (xs.getD j z44)) := by
  have hlt := h.lt
  refine ⟨hr, by rw [List.length_set]; exact h.len, ?_, fun t ht hl => ?_, by omega, hj, hb⟩
  · have hil : i < ys.length := by rw [h.len]; omega
    rw [filter_take_succ xs _ j hj, if_pos (by rw [hp]; rfl), ← h.head, List.take_succ_eq_append_getElem (by rw [List.length_set]; exact hil), List.getElem_set_self, List.take_set_of_le (Nat.le_refl _)]
  · rw [List.getD_eq_getElem?_getD, List.getElem?_set_ne (by omega), ← List.getD_eq_getElem?_getD]
    exact h.tail t (by omega) hl
theorem DelS.done (h : DelS xs p g cap w0 wr i xs.length ys) (hg0 : w0.heap.size ≤ g) (vs : List Value) (hv : vs.length = (xs.length - i) * 3) :
    Kd.R k44 44 (wr.setCells g (i * 3) vs) w0.heap.size (fun _ => True) (.slice (some ⟨g, 0, none⟩) i cap) (xs.filter fun x => !p x) ∧ Below w0.heap.size w0 (wr.setCells g (i * 3) vs) ∧ i = (xs.filter fun x => !p x).length := by
  have hlt := h.lt
  have hh := h.head
  rw [List.take_length] at hh
  have hi : i = (xs.filter fun x => !p x).length := by
    rw [← hh, List.length_take, h.len]; omega
  refine ⟨?_, ?_, hi⟩
  · rw [← hh]
    obtain ⟨hok, inner, hown, hrep⟩ := h.row
    obtain ⟨hil, hrow⟩ := hown
    rcases hrow with ⟨h0, _⟩ | ⟨g', cap', cur, hv', hg, hb, h1, h2, h3, h4⟩
    · cases h0
    · simp only [Value.slice.injEq, Option.some.injEq, Addr.mk.injEq] at hv'
      obtain ⟨⟨rfl, _⟩, _, rfl⟩ := hv'
      rw [h.len] at hil h1 h4
      have hsz : k44.sz = 3 := rfl
      rw [hsz] at hil h3 h4 hrep
      obtain ⟨cur', c1, c2, c3⟩ := setCells_row vs (i * 3) wr cur hb (by rw [h3, hv]; omega)
      have hlen : (ys.take i).length = i := by rw [List.length_take, h.len]; omega
      refine ⟨fun _ _ => trivial, inner.take (i * 3), ⟨by rw [hlen, List.length_take, hil, hsz]; omega, .inr ⟨g, cap, cur', by rw [hlen], hg, c1, by rw [hlen]; omega, h2, by rw [c2, h3]; rfl, ?_⟩⟩, ?_⟩
      · rw [hlen, hsz, c3, List.append_assoc, List.take_append_of_le_length (by rw [List.length_take, Array.length_toList, h3]; omega), List.take_take, Nat.min_self]
        have : (cur.toList.take (xs.length * 3)).take (i * 3) = inner.take (i * 3) := by rw [h4]
        rw [List.take_take, Nat.min_eq_left (by omega)] at this
        exact this
      · rw [hsz]
        refine ⟨by rw [hlen, List.length_take, hil]; omega, fun q x hq => ?_⟩
        have hqi : q < i := by have := (List.getElem?_eq_some_iff.1 hq).1; rwa [hlen] at this
        rw [List.getElem?_take_of_lt hqi] at hq
        have h5 := hrep.2 q x hq
        rw [List.drop_take, List.take_take, Nat.min_eq_left (by omega)]
        rw [k44_openM h5]
        exact k44_mkM _ _ _ x
  · obtain ⟨s1, s2, s3, s4⟩ := setCells_same g vs (i * 3) wr
    have hk := h.keep
    exact ⟨s1.trans hk.os, s2.trans hk.tape, s3.trans hk.output, by rw [s4]; exact hk.size, fun k hk2 => (setCells_far vs (i * 3) k (by omega)).trans (hk.block k hk2)⟩
end
theorem first_cases (f : Nat → Bool) : ∀ n, (∀ j, j < n → f j = false) ∨ ∃ k, k < n ∧ f k = true ∧ ∀ j, j < k → f j = false
  | 0 => .inl fun j hj => absurd hj (Nat.not_lt_zero _)
  | n + 1 => by
    rcases first_cases f n with h | ⟨k, h1, h2, h3⟩
    · cases hf : f n with
      | false =>
        refine .inl fun j hj => ?_
        by_cases e : j = n
        · rw [e]; exact hf
        · exact h j (by omega)
      | true => exact .inr ⟨n, by omega, hf, h⟩
    · exact .inr ⟨k, by omega, h2, h3⟩

set_option maxRecDepth 100000 in
set_option maxHeartbeats 4000000 in
theorem DeleteFunc_tri (bk cap : Nat) (g : Nat) (lb : Array Value) (p : S44 → Bool) (eg : ∀ args w, (callFunc g args).run Tryd.prog w = .ok (.enter g args) w) (xs : List S44) (w0 w : World)
    (hr : Kd.R k44 44 w w0.heap.size (fun _ => True) (.slice (some ⟨bk, 0, none⟩) xs.length cap) xs) (hl : xs.length ≤ 1000) (hb0 : Below w0.heap.size w0 w) (hbk : w0.heap.size ≤ bk) (hp : PredW g lb p xs w0) :
    Calls Tryd.prog 63 #[.slice (some ⟨bk, 0, none⟩) xs.length cap, .func (.func g) #[] lb] w fun e w' => e = .returned (.slice (some ⟨bk, 0, none⟩) (xs.filter fun x => !p x).length cap) ∧ Kd.R k44 44 w' w0.heap.size (fun _ => True) (.slice (some ⟨bk, 0, none⟩) (xs.filter fun x => !p x).length cap) (xs.filter fun x => !p x) ∧ Below w0.heap.size w0 w' := by
  have HR := Aside0.mk hr
  have HP := Aside0.mk hp
  have HB0 := Aside0.mk hb0
  have HBK := Aside0.mk hbk
  have hcap : xs.length ≤ cap := (Kd.R_reads' hr).2.1
  have HI := Aside0.mk (IndexFunc_tri g lb p eg _ xs.length cap xs w (Kd.R_reads' hr).2.2 (hp.pred hb0))
  obtain ⟨n, hn⟩ : ∃ n, xs.length = n := ⟨_, rfl⟩
  have HN := Aside0.mk hn
  obtain ⟨F, hF⟩ : ∃ F, (xs.filter fun x => !p x).length = F := ⟨_, rfl⟩
  have HF := Aside0.mk hF
  rw [hF]
  rw [hn] at HI hl hcap ⊢
  clear hr hp hn hF hb0 hbk
  have hcl : ∀ (W : World) (i j : Nat) (ys : List S44), i < j → j ≤ n → DelS xs p bk cap w0 W i j ys → ∀ ty, (Builtin.clear_ #[27] ty #[.slice (some ⟨bk, i * 3, none⟩) (n - i) (cap - i)]).run Tryd.prog W = .ok (.tuple #[]) (W.setCells bk (i * 3) (List.replicate ((n - i) * 3) (.int .i64 0))) := by
    intro W i j ys hij hjn hS ty
    have hc : ∀ t : Nat, t < n * 3 → (W.cell? ⟨bk, t, none⟩).isSome = true ∧ W.frozen? ⟨bk, t, none⟩ = false := by
      intro t ht
      obtain ⟨_, inner, hown, _⟩ := hS.row
      obtain ⟨hil, hrow⟩ := hown
      rcases hrow with ⟨h0, _⟩ | ⟨g', cap', cur, hv', hg, hb, h1, h2, h3, h4⟩
      · cases h0
      · simp only [Value.slice.injEq, Option.some.injEq, Addr.mk.injEq] at hv'
        obtain ⟨⟨rfl, _⟩, _, rfl⟩ := hv'
        rw [hS.len, HN.out] at h1
        have hsz : k44.sz = 3 := rfl
        rw [hsz] at h3
        refine ⟨?_, blk_frozen hb t⟩
        rw [blk_cell hb t, Array.getElem?_eq_getElem (by omega)]
        rfl
    exact run_clear3 W ty bk (i * 3) (n - i) _ (by omega) (fun t ht => (hc (i * 3 + t) (by omega)).1) (fun t ht => (hc (i * 3 + t) (by omega)).2)
  have HCL := Aside0.mk hcl
  clear hcl
  rcases first_cases (fun j => p (xs.getD j z44)) n with hall | ⟨k, hk, hpk, hbef⟩
  · have HI2 : Aside0 (Calls Tryd.prog 75 #[.slice (some ⟨bk, 0, none⟩) n cap, .func (.func g) #[] lb] w fun e w' => e = .returned (.int .i64 (-1)) ∧ Below w.heap.size w w') := by
      refine ⟨HI.out.mono ?_⟩
      rintro e w' ⟨⟨i, rfl, ⟨hi⟩⟩, hb⟩
      rcases hi with ⟨rfl, _⟩ | ⟨k, _, hk, hpk, _⟩
      · exact ⟨rfl, hb⟩
      · have := hall k hk
        rw [hpk] at this; cases this
    have HE : Aside0 ((xs.filter fun x => !p x) = xs) := by
      refine ⟨List.filter_eq_self.2 fun x hx => ?_⟩
      obtain ⟨j, hj, rfl⟩ := List.getElem_of_mem hx
      have := hall j (by rw [← HN.out]; exact hj)
      simp only [List.getD_eq_getElem?_getD, List.getElem?_eq_getElem hj] at this
      simpa using this
    clear HI hall
    go_enter Tryd.func63, Tryd.ntmps63
    go_wp2_with (go_at_call 75; refine HI2.out.mono ?_; rintro e w1 ⟨rfl, hb1⟩; have HB1 := Aside0.mk hb1; clear hb1)
    go_ret
    have hFn : F = n := by rw [← HF.out, HE.out, HN.out]
    subst hFn
    rw [HE.out]
    have := HR.out
    rw [HN.out] at this
    exact ⟨rfl, Kd.R_below this HB1.out, below_then HB0.out HB0.out.size HB1.out⟩
  · have HI2 : Aside0 (Calls Tryd.prog 75 #[.slice (some ⟨bk, 0, none⟩) n cap, .func (.func g) #[] lb] w fun e w' => e = .returned (.int .i64 k) ∧ Below w.heap.size w w') := by
      refine ⟨HI.out.mono ?_⟩
      rintro e w' ⟨⟨i, rfl, ⟨hi⟩⟩, hb⟩
      rcases hi with ⟨rfl, ha⟩ | ⟨k', rfl, hk', hpk', hb'⟩
      · have := ha k hk
        rw [this] at hpk; cases hpk
      · have e : k' = k := by
          rcases Nat.lt_trichotomy k' k with h | h | h
          · have := hbef k' h; rw [this] at hpk'; cases hpk'
          · exact h
          · have := hb' k h; rw [this] at hpk; cases hpk
        subst e
        exact ⟨rfl, hb⟩
    have HPK := Aside0.mk hpk
    have HBF := Aside0.mk hbef
    have hkn : ((k : Int) == -1) = false := by rw [beq_eq_false_iff_ne]; omega
    clear HI hpk hbef
    go_enter Tryd.func63, Tryd.ntmps63
    go_wp2_with (go_at_call 75; refine HI2.out.mono ?_; rintro e w1 ⟨rfl, hb1⟩; have HB1 := Aside0.mk hb1; clear hb1)
    have HS : Aside0 (DelS xs p bk cap w0 w1 k (k + 1) xs) := ⟨DelS.start (Kd.R_below HR.out HB1.out) (by rw [HN.out]; exact hk) HPK.out HBF.out (below_then HB0.out HB0.out.size HB1.out)⟩
    clear hkn
    go_loopg [5, 6, 7] n (fun gg v5 v6 _ wr => ∃ (i j : Nat) (ys : List S44), v5 = .int .i64 i ∧ v6 = .int .i64 j ∧ j ≤ n ∧ n - j ≤ gg ∧ Aside0 (DelS xs p bk cap w0 wr i j ys))
    case atStart => exact ⟨k, k + 1, xs, rfl, by go_num, by omega, by omega, HS⟩
    case round =>
      clear HS HB1
      obtain ⟨i, j, ys, rfl, rfl, hj, hgg, HS⟩ := hrel
      have hij := HS.out.lt
      by_cases hlt : j < n
      · have hltz : (j : Int) < (n : Int) := by omega
        have hC : Kd.C k44 wr (some ⟨bk, 0, none⟩) n ys := by
          have h := Kd.R_reads' HS.out.row
          have h2 := h.2.2
          rw [HS.out.len, HN.out] at h2
          exact h2
        obtain ⟨ad, had, hx0, hx1, hx2⟩ := at_T44 hC (j : Int) (by omega) (by omega)
        cases had
        rw [Int.toNat_natCast, YtdbbcngmnpejnaaDoorW.PrintWords.add_plain] at hx0 hx1 hx2
        dsimp only at hx1 hx2
        have e1 : rd_T44 ys (j : Int) = xs.getD j z44 := by
          have : rd_T44 ys (j : Int) = ys.getD j z44 := by simp only [rd_T44, Int.toNat_natCast]
          rw [this]
          exact HS.out.tail j (Nat.le_refl _) (by rw [HN.out]; exact hlt)
        rw [e1] at hx0 hx1 hx2
        clear e1
        obtain ⟨ad, had, hy0, hy1, hy2⟩ := at_T44 hC (i : Int) (by omega) (by omega)
        cases had
        rw [Int.toNat_natCast, YtdbbcngmnpejnaaDoorW.PrintWords.add_plain] at hy0 hy1 hy2
        dsimp only at hy1 hy2
        generalize rd_T44 ys (i : Int) = old at hy0 hy1 hy2
        clear hC
        have HCALL : Aside0 (∀ W, Below wr.heap.size wr W → Calls Tryd.prog g (#[enc44 (xs.getD j z44)] ++ lb) W fun e w' => e = .returned (.bool (p (xs.getD j z44))) ∧ Below W.heap.size W w') := ⟨fun W hb => HP.out W _ (getD_mem z44 (by rw [HN.out]; exact hlt)) (below_then HS.out.keep HS.out.keep.size hb)⟩
        obtain ⟨u, hu⟩ : ∃ u, xs.getD j z44 = u := ⟨_, rfl⟩
        have HU := Aside0.mk hu
        rw [hu] at hx0 hx1 hx2 HCALL
        have hiz : (i : Int) < (n : Int) := by omega
        clear hu
        obtain ⟨o0, o1, o2⟩ := old
        obtain ⟨u0, u1, u2⟩ := u
        unfold enc44 at HCALL
        dsimp only at hx0 hx1 hx2 hy0 hy1 hy2 HCALL
        have HLB : Aside0 (bk < wr.heap.size) := ⟨World.block_lt_of_cell? wr _ hx0⟩
        go_upto_region 8 with fail
        have HNEW : Aside0 ((wr.alloc (.cells #[.int .i64 u0, .int .i64 u1, .int .i64 u2] 44)).heap[wr.heap.size]? = some (.cells #[.int .i64 u0, .int .i64 u1, .int .i64 u2] 44 (0, 0))) := ⟨heap_alloc_new wr _⟩
        have HB4 : Aside0 (Below wr.heap.size wr (wr.alloc (.cells #[.int .i64 u0, .int .i64 u1, .int .i64 u2] 44))) := ⟨(Below.refl _ _).alloc (Nat.le_refl _) _⟩
        generalize wr.alloc (.cells #[.int .i64 u0, .int .i64 u1, .int .i64 u2] 44) = w4 at HNEW HB4 ⊢
        generalize hnb : wr.heap.size = nb at HNEW ⊢
        have HNB := Aside0.mk hnb
        clear hnb hx0 hx1 hx2
        obtain ⟨c0, c1, c2, _⟩ := cells3 HNEW.out
        cases hq : p ⟨u0, u1, u2⟩ with
        | false =>
          have HQ : Aside0 (p (xs.getD j z44) = false) := ⟨by rw [HU.out]; exact hq⟩
          rw [hq] at HCALL
          clear hq
          go_wp2_with (first
            | (go_at_fn g; go_must (refine (HCALL.out _ HB4.out).mono ?_; rintro e w5 ⟨rfl, hb5⟩; have HB5 := Aside0.mk (below_then HB4.out HB4.out.size hb5); have HN5 := Aside0.mk ((hb5.block nb (YtdbbcngmnpejnaaDoorW.PrintWords.blk_lt HNEW.out)).trans HNEW.out); clear c0 c1 c2; obtain ⟨c0, c1, c2, _⟩ := cells3 HN5.out; have z0 := pw_cell_below HB5.out hy0; have z1 := pw_cell_below HB5.out hy1; have z2 := pw_cell_below HB5.out hy2; have HS2 := Aside0.mk (HS.out.next HB5.out); clear hb5 hy0 hy1 hy2))
            | ((with_reducible refine gate_store (t := 44) (p := 33) rfl ?_); go_must (refine Kd.R_store k44 (w0 := w0) w0.heap.size rfl rfl 44 (.tmp 33) (.tmp 32) rfl 44 (i : Int) 0 ys (⟨u0, u1, u2⟩ : S44) (.agg #[.int .i64 u0, .int .i64 u1, .int .i64 u2]) [.int .i64 u0, .int .i64 u1, .int .i64 u2] [.int .i64 o0, .int .i64 o1, .int .i64 o2] (fun _ => True) (fun _ => False) rfl (by rw [Int.toNat_natCast]; rfl) rfl rfl (by kernel_rfl) (by intro q hq; simp only [List.mem_cons, List.not_mem_nil, or_false] at hq; rcases hq with rfl | rfl | rfl <;> rfl) HS2.out.row (by omega) (by rw [HN.out]; omega) rfl (by rw [Int.toNat_natCast]; exact cells_at3 z0 z1 z2) (Nat.le_refl 3) (k44_mkM _ _ _ (⟨u0, u1, u2⟩ : S44)) (fun _ h => h.elim) HS2.out.keep ?_; intro w6 ho6 hb6 hg6; rw [Int.toNat_natCast] at ho6; have HO6 := Aside0.mk ho6; have HB6 := Aside0.mk hb6; clear ho6 hb6 hg6 z0 z1 z2)))
          go_roundg (n - (j + 1))
          case measure => omega
          case rel =>
            refine ⟨i + 1, j + 1, ys.set i ⟨u0, u1, u2⟩, by go_num, by go_num, by omega, Nat.le_refl _, ⟨?_⟩⟩
            have hput := HS2.out.put (w2 := w6) (by rw [HN.out]; exact hlt) HQ.out (by rw [HU.out]; exact HO6.out) HB6.out
            rw [HU.out] at hput
            exact hput
        | true =>
          have HQ : Aside0 (p (xs.getD j z44) = true) := ⟨by rw [HU.out]; exact hq⟩
          rw [hq] at HCALL
          clear hq
          go_wp2_with (go_at_fn g; go_must (refine (HCALL.out _ HB4.out).mono ?_; rintro e w5 ⟨rfl, hb5⟩; have HS2 := Aside0.mk (HS.out.next (below_then HB4.out HB4.out.size hb5)); clear hb5))
          go_roundg (n - (j + 1))
          case measure => omega
          case rel => exact ⟨i, j + 1, ys, rfl, by go_num, by omega, Nat.le_refl _, ⟨HS2.out.skip (by rw [HN.out]; exact hlt) HQ.out⟩⟩
      · have hltz : ¬ (j : Int) < (n : Int) := by omega
        have hcl := HCL.out wr i j ys hij hj HS.out
        have hjn : j = n := by omega
        have HJ := Aside0.mk hjn
        clear hjn hlt
        have hin : (i : Int) ≤ n := by omega
        go_wp2_with fail
        go_ret
        have hd := HS.out
        rw [HJ.out] at hd
        have hd2 : DelS xs p bk cap w0 wr i xs.length ys := by rw [HN.out]; exact hd
        obtain ⟨d1, d2, d3⟩ := hd2.done HBK.out (List.replicate ((n - i) * 3) (.int .i64 0)) (by rw [List.length_replicate, HN.out])
        rw [HF.out] at d3
        subst d3
        exact ⟨rfl, d1, d2⟩
end Go.Proofs.YtdbbcngmnpejnaaDoor.B

/- Nodes of trees as they lie in memory, as the kit's print writes it. -/
namespace Go.Proofs.YtdbbcngmnpejnaaDoor.A
open Go.RowKit Go.Proofs.YtdbbcngmnpejnaaDoorW.PrintWords Go.Proofs.YtdbbcngmnpejnaaDoorW.PrintLast Go.Proofs.YtdbbcngmnpejnaaDoorW.PrintMore
section
attribute [local go_sem] max2_int min2_int max_two min_two max_three min_three max_four min_four   -- for this text's walks alone
set_option linter.unusedVariables false
set_option linter.unusedSimpArgs false
/-! #### struct type 85, nested in itself -/
structure S85 where
  f0 : Int
  f1 : (List S85)
def z85 : S85 := ⟨(0 : Int), ([] : List S85)⟩
def rd_T85 (xs : List S85) (i : Int) : S85 := xs.getD i.toNat z85
theorem eqA44 (d : Nat) (w : World) (x0 y0 : Int) (x1 y1 : Int) (x2 y2 : Int) :
    (Op.equalIn (d + 2) 44 (.agg #[.int .i64 x0, .int .i64 x1, .int .i64 x2]) (.agg #[.int .i64 y0, .int .i64 y1, .int .i64 y2])).run Tryd.prog w = .ok (x0 == y0 && (x1 == y1 && (x2 == y2))) w := by
  refine eqA_of Tryd.underlying44 (by kernel_rfl) ?_
  refine eqf_cons (by rfl) (by go_simp; rfl) (by go_simp; rfl) (by go_simp) ?_
  refine eqf_cons (by rfl) (by go_simp; rfl) (by go_simp; rfl) (by go_simp) ?_
  exact eqf_last (by rfl) (by go_simp; rfl) (by go_simp; rfl) (by go_simp)
end
end Go.Proofs.YtdbbcngmnpejnaaDoor.A
namespace Go.Proofs.YtdbbcngmnpejnaaDoor.B
open Go.Proofs.YtdbbcngmnpejnaaDoor.A
theorem info44 : (Tryd.prog.info? 44).map (fun i => (i.zero, i.size, i.bytes)) = some (some (.agg #[(.int .i64 0), (.int .i64 0), (.int .i64 0)]), 3, 24) := by kernel_rfl
end Go.Proofs.YtdbbcngmnpejnaaDoor.B

/- all, All and in, as the kit's print writes them. -/
namespace Go.Proofs.YtdbbcngmnpejnaaDoor.B
open Go.Proofs.YtdbbcngmnpejnaaDoor.A
open Go.RowKit Go.Proofs.YtdbbcngmnpejnaaDoorW.PrintWords Go.Proofs.YtdbbcngmnpejnaaDoorW.PrintLast Go.Proofs.YtdbbcngmnpejnaaDoorW.PrintMore
section
attribute [local go_sem] max2_int min2_int max_two min_two max_three min_three max_four min_four   -- for this text's walks alone
set_option linter.unusedVariables false
set_option linter.unusedSimpArgs false
/-! ### breed_all: function 64 -/
mutual
def breed_all.l0 : Nat → Int → List (S44) → Int → Int → Option ((List (S44)))
  | 0, _, _, _, _ => none
  | k + 1, x0, x3, x7, x8 => if x8 < x7 then (breed_all.l1 k x0 x3 x8 (wrap64 (x8 + 1)) x7 x8) else (some x3)
def breed_all.l1 : Nat → Int → List (S44) → Int → Int → Int → Int → Option ((List (S44)))
  | 0, _, _, _, _, _, _ => none
  | k + 1, x0, x3, x4, x5, x7, x8 => if x5 < x0 then (breed_all.l2 k x0 x3 x4 x5 x7 x8 x0 0) else (breed_all.l0 k x0 x3 x7 (wrap64 (x8 + 1)))
def breed_all.l2 : Nat → Int → List (S44) → Int → Int → Int → Int → Int → Int → Option ((List (S44)))
  | 0, _, _, _, _, _, _, _, _ => none
  | k + 1, x0, x3, x4, x5, x7, x8, x18, x19 => if x19 < x18 then (if x19 = x4 then (breed_all.l2 k x0 x3 x4 x5 x7 x8 x18 (wrap64 (x19 + 1))) else (if x19 = x5 then (breed_all.l2 k x0 x3 x4 x5 x7 x8 x18 (wrap64 (x19 + 1))) else (if x3.length < 5864062014805 then (breed_all.l2 k x0 (x3 ++ [(⟨x4, x5, x19⟩ : S44)]) x4 x5 x7 x8 x18 (wrap64 (x19 + 1))) else (none)))) else (breed_all.l1 k x0 x3 x4 (wrap64 (x5 + 1)) x7 x8)
end
def breed_all.f (k : Nat) (a0 : Int) : Option ((List (S44))) := breed_all.l0 k a0 ([] : List (S44)) a0 0
set_option maxHeartbeats 8000000 in
set_option maxRecDepth 100000 in
theorem breed_all.calls (k : Nat) (a0 : Int) (r : List (S44)) (w : World) (h : breed_all.f k a0 = some r) :
    Calls Tryd.prog 64 #[.int .i64 a0] w fun e w' => ∃ v0_ : Value, e = .returned (v0_) ∧ Kd.R k44 44 w' w.heap.size (fun _ => True) v0_ r ∧ Below w.heap.size w w' := by
  have hu44 := Tryd.underlying44
  have HB := Aside0.mk (Below.refl w.heap.size w)
  have H : (breed_all.l0 k a0 ([] : List (S44)) a0 0) = some r := h
  clear h
  have H' := Aside0.mk H
  clear H
  go_enter Tryd.func64, Tryd.ntmps64
  go_wp2
  go_loopg [3, 8] k (fun kq v3 v8 w' => ∃ (x3_1 : List (S44)) (x8_1 : Int), v8 = .int .i64 x8_1 ∧ Aside0 (breed_all.l0 kq a0 x3_1 a0 x8_1 = some r) ∧ Aside0 (kq ≤ k) ∧ Aside0 (Kd.R k44 44 w' w.heap.size (fun _ => True) v3 x3_1) ∧ Aside0 (Below w.heap.size w w'))
  case atStart => exact ⟨(([] : List (S44))), (0), (by first | rfl | (simp; done) | (simp [*]; done)), H', ⟨Nat.le_refl _⟩, ⟨by first | exact Kd.R_nil _ _ _ _ _ | exact Kd.N_nil _ _ _ _ _ | exact Kd.V_nil _ _ _ _ _ | exact Kd.Q_nil _ _ _ _ _ | exact Kd.S_nil _ _ _ _ _⟩, ⟨by repeat (first | (with_reducible first | exact HB.out | apply below_alloc | apply pw_below_drewN | apply below_drew1) | exact HB.out)⟩⟩
  case round =>
    clear H'
    obtain ⟨x3_1, x8_1, rfl, HA, HK1, HO_3, HB⟩ := hrel
    cases gk with
    | zero => exact absurd HA.out (by simp [breed_all.l0])
    | succ k1 =>
      have H := HA.out
      clear HA
      simp only [breed_all.l0] at H
      by_cases c2 : x8_1 < a0
      · rw [if_pos c2] at H
        have c2b0 : decide (x8_1 < a0) = true := decide_eq_true c2
        clear c2
        have H' := Aside0.mk H
        clear H
        go_wp2
        go_loopg [3, 5] k1 (fun kq v3 v5 w' => ∃ (x3_2 : List (S44)) (x5_2 : Int), v5 = .int .i64 x5_2 ∧ Aside0 (breed_all.l1 kq a0 x3_2 x8_1 x5_2 a0 x8_1 = some r) ∧ Aside0 (kq ≤ k1) ∧ Aside0 (Kd.R k44 44 w' w.heap.size (fun _ => True) v3 x3_2) ∧ Aside0 (Below w.heap.size w w'))
        case atStart => exact ⟨(x3_1), (wrap64 (x8_1 + 1)), (by first | rfl | (simp; done) | (simp [*]; done)), H', ⟨Nat.le_refl _⟩, ⟨by (with_reducible repeat (first | apply Kd.R_alloc | apply Kd.R_drewN | apply Kd.R_drew)); exact HO_3.out⟩, ⟨by repeat (first | (with_reducible first | exact HB.out | apply below_alloc | apply pw_below_drewN | apply below_drew1) | exact HB.out)⟩⟩
        case round =>
          clear H'
          try clear c2
          try clear c2b0
          try clear p2
          obtain ⟨x3_2, x5_2, rfl, HA, HK2, HO_3, HB⟩ := hrel
          cases gk with
          | zero => exact absurd HA.out (by simp [breed_all.l1])
          | succ k2 =>
            have H := HA.out
            clear HA
            simp only [breed_all.l1] at H
            by_cases c3 : x5_2 < a0
            · rw [if_pos c3] at H
              have c3b0 : decide (x5_2 < a0) = true := decide_eq_true c3
              clear c3
              have H' := Aside0.mk H
              clear H
              go_wp2
              go_loopg [3, 19] k2 (fun kq v3 v19 w' => ∃ (x3_3 : List (S44)) (x19_3 : Int), v19 = .int .i64 x19_3 ∧ Aside0 (breed_all.l2 kq a0 x3_3 x8_1 x5_2 a0 x8_1 a0 x19_3 = some r) ∧ Aside0 (kq ≤ k2) ∧ Aside0 (Kd.R k44 44 w' w.heap.size (fun _ => True) v3 x3_3) ∧ Aside0 (Below w.heap.size w w'))
              case atStart => exact ⟨(x3_2), (0), (by first | rfl | (simp; done) | (simp [*]; done)), H', ⟨Nat.le_refl _⟩, ⟨by (with_reducible repeat (first | apply Kd.R_alloc | apply Kd.R_drewN | apply Kd.R_drew)); exact HO_3.out⟩, ⟨by repeat (first | (with_reducible first | exact HB.out | apply below_alloc | apply pw_below_drewN | apply below_drew1) | exact HB.out)⟩⟩
              case round =>
                clear H'
                try clear c2
                try clear c2b0
                try clear p2
                try clear c3
                try clear c3b0
                try clear p2
                obtain ⟨x3_3, x19_3, rfl, HA, HK3, HO_3, HB⟩ := hrel
                cases gk with
                | zero => exact absurd HA.out (by simp [breed_all.l2])
                | succ k3 =>
                  have H := HA.out
                  clear HA
                  simp only [breed_all.l2] at H
                  by_cases c4 : x19_3 < a0
                  · rw [if_pos c4] at H
                    have c4b0 : decide (x19_3 < a0) = true := decide_eq_true c4
                    clear c4
                    by_cases c5 : x19_3 = x8_1
                    · rw [if_pos c5] at H
                      have c5b0 : (x19_3 == x8_1) = true := beq_iff_eq.mpr c5
                      have c5b1 : (x19_3 != x8_1) = false := bne_eq_false_iff_eq.mpr c5
                      clear c5
                      have H' := Aside0.mk H
                      clear H
                      go_wp2
                      go_roundg k3
                      case measure => have := HK1.out; have := HK2.out; have := HK3.out; omega
                      case rel => exact ⟨(x3_3), (wrap64 (x19_3 + 1)), (by first | rfl | (simp; done) | (simp [*]; done)), H', ⟨by have := HK1.out; have := HK2.out; have := HK3.out; omega⟩, ⟨by (with_reducible repeat (first | apply Kd.R_alloc | apply Kd.R_drewN | apply Kd.R_drew)); exact HO_3.out⟩, ⟨by repeat (first | (with_reducible first | exact HB.out | apply below_alloc | apply pw_below_drewN | apply below_drew1) | exact HB.out)⟩⟩
                    · rw [if_neg c5] at H
                      have c5b0 : (x19_3 == x8_1) = false := beq_eq_false_iff_ne.mpr c5
                      have c5b1 : (x19_3 != x8_1) = true := bne_iff_ne.mpr c5
                      by_cases c6 : x19_3 = x5_2
                      · rw [if_pos c6] at H
                        have c6b0 : (x19_3 == x5_2) = true := beq_iff_eq.mpr c6
                        have c6b1 : (x19_3 != x5_2) = false := bne_eq_false_iff_eq.mpr c6
                        clear c6
                        have H' := Aside0.mk H
                        clear H
                        go_wp2
                        go_roundg k3
                        case measure => have := HK1.out; have := HK2.out; have := HK3.out; omega
                        case rel => exact ⟨(x3_3), (wrap64 (x19_3 + 1)), (by first | rfl | (simp; done) | (simp [*]; done)), H', ⟨by have := HK1.out; have := HK2.out; have := HK3.out; omega⟩, ⟨by (with_reducible repeat (first | apply Kd.R_alloc | apply Kd.R_drewN | apply Kd.R_drew)); exact HO_3.out⟩, ⟨by repeat (first | (with_reducible first | exact HB.out | apply below_alloc | apply pw_below_drewN | apply below_drew1) | exact HB.out)⟩⟩
                      · rw [if_neg c6] at H
                        have c6b0 : (x19_3 == x5_2) = false := beq_eq_false_iff_ne.mpr c6
                        have c6b1 : (x19_3 != x5_2) = true := bne_iff_ne.mpr c6
                        by_cases c7 : x3_3.length < 5864062014805
                        · rw [if_pos c7] at H
                          have LMc7 := Aside0.mk c7
                          clear c7
                          obtain ⟨y285, hy285⟩ : ∃ y_ : List (S44), y_ = (x3_3 ++ [(⟨x8_1, x5_2, x19_3⟩ : S44)]) := ⟨_, rfl⟩
                          replace H : (breed_all.l2 k3 a0 y285 x8_1 x5_2 a0 x8_1 a0 (wrap64 (x19_3 + 1))) = some r := by first | (rw [hy285]; with_reducible exact H) | (have H2_ := (Option.bind_some _ _).symm.trans H; rw [hy285]; with_reducible exact H2_) | (have H2_ := (Option.bind_some _ _).symm.trans H; with_reducible exact H2_) | with_reducible exact H | (rw [hy285]; exact H) | exact H
                          have Ny285 := Aside0.mk hy285
                          clear hy285
                          have H' := Aside0.mk H
                          clear H
                          go_wp2_with (first | ((with_reducible refine gate_builtin (b := .append) (xs := #[.tmp 30, .tmp 35]) rfl ?_); at_builtin; refine Kd.R_append k44 (w0 := w) w.heap.size rfl (.tmp 30) (.tmp 35) 27 44 (.agg #[(.int .i64 0), (.int .i64 0), (.int .i64 0)]) 24 rfl Tryd.underlying27 info44 rfl (by decide) (by omega) u3 x3_3 (⟨x8_1, x5_2, x19_3⟩ : S44) [.int .i64 x8_1, .int .i64 x5_2, .int .i64 x19_3] (fun _ => True) (fun _ => False) rfl rfl ?aP (fun _ hk => hk.elim) ?aF ?aO ?aB ?aS ?aL ?_; (case aP => exact k44_mkM _ _ _ (⟨x8_1, x5_2, x19_3⟩ : S44)); (case aB => exact (by repeat (first | (with_reducible first | exact HB.out | apply below_alloc | apply pw_below_drewN | apply below_drew1) | exact HB.out))); (case aF => exact (fun _ _ => trivial)); (case aO => exact (by (with_reducible repeat (first | apply Kd.R_alloc | apply Kd.R_drewN | apply Kd.R_drew)); exact HO_3.out)); (case aS => exact (below_size (by repeat (first | (with_reducible first | exact HB.out | apply below_alloc | apply pw_below_drewN | apply below_drew1) | exact HB.out)))); (case aL => have := LMc7.out; omega); intro v286 w8 ho hb hg hat; rw [← Ny285.out] at ho; have n0_ := Aside0.mk (hb); have n1_ := Aside0.mk (ho); clear HB; clear HO_3; have HB := n0_; have HO287 := n1_; clear n0_ n1_; clear ho hb hg hat))
                          go_roundg k3
                          case measure => have := HK1.out; have := HK2.out; have := HK3.out; omega
                          case rel => exact ⟨(y285), (wrap64 (x19_3 + 1)), (by first | rfl | (simp; done) | (simp [*]; done)), H', ⟨by have := HK1.out; have := HK2.out; have := HK3.out; omega⟩, ⟨by (with_reducible repeat (first | apply Kd.R_alloc | apply Kd.R_drewN | apply Kd.R_drew)); exact HO287.out⟩, ⟨by repeat (first | (with_reducible first | exact HB.out | apply below_alloc | apply pw_below_drewN | apply below_drew1) | exact HB.out)⟩⟩
                        · rw [if_neg c7] at H
                          exact absurd H (by simp)
                  · rw [if_neg c4] at H
                    have c4b0 : decide (x19_3 < a0) = false := decide_eq_false c4
                    clear c4
                    have H' := Aside0.mk H
                    clear H
                    go_wp2
                    go_roundg k3
                    case measure => have := HK1.out; have := HK2.out; have := HK3.out; omega
                    case rel => exact ⟨(x3_3), (wrap64 (x5_2 + 1)), (by first | rfl | (simp; done) | (simp [*]; done)), H', ⟨by have := HK1.out; have := HK2.out; have := HK3.out; omega⟩, ⟨by (with_reducible repeat (first | apply Kd.R_alloc | apply Kd.R_drewN | apply Kd.R_drew)); exact HO_3.out⟩, ⟨by repeat (first | (with_reducible first | exact HB.out | apply below_alloc | apply pw_below_drewN | apply below_drew1) | exact HB.out)⟩⟩
            · rw [if_neg c3] at H
              have c3b0 : decide (x5_2 < a0) = false := decide_eq_false c3
              clear c3
              have H' := Aside0.mk H
              clear H
              go_wp2
              go_roundg k2
              case measure => have := HK1.out; have := HK2.out; omega
              case rel => exact ⟨(x3_2), (wrap64 (x8_1 + 1)), (by first | rfl | (simp; done) | (simp [*]; done)), H', ⟨by have := HK1.out; have := HK2.out; omega⟩, ⟨by (with_reducible repeat (first | apply Kd.R_alloc | apply Kd.R_drewN | apply Kd.R_drew)); exact HO_3.out⟩, ⟨by repeat (first | (with_reducible first | exact HB.out | apply below_alloc | apply pw_below_drewN | apply below_drew1) | exact HB.out)⟩⟩
      · rw [if_neg c2] at H
        have c2b0 : decide (x8_1 < a0) = false := decide_eq_false c2
        clear c2
        obtain rfl := Option.some.inj H
        go_wp2
        go_ret
        exact ⟨_, by first | rfl | (simp [errW_none, errW_some] <;> rfl) | (simp [*, errW_none, errW_some] <;> rfl), by (with_reducible repeat (first | apply Kd.R_alloc | apply Kd.R_drewN | apply Kd.R_drew)); exact HO_3.out, by repeat (first | (with_reducible first | exact HB.out | apply below_alloc | apply pw_below_drewN | apply below_drew1) | exact HB.out)⟩

/-! ### drovewayref05_All: function 39 -/
mutual
def drovewayref05_All.l0 : Nat → Int → List (S44) → Int → Option ((List (S44)))
  | 0, _, _, _ => none
  | k + 1, x0, x3, x4 => if x4 < x0 then (drovewayref05_All.l1 k x0 x3 x4 (wrap64 (x4 + 1))) else (some x3)
def drovewayref05_All.l1 : Nat → Int → List (S44) → Int → Int → Option ((List (S44)))
  | 0, _, _, _, _ => none
  | k + 1, x0, x3, x4, x5 => if x5 < x0 then (drovewayref05_All.l2 k x0 x3 x4 x5 0) else (drovewayref05_All.l0 k x0 x3 (wrap64 (x4 + 1)))
def drovewayref05_All.l2 : Nat → Int → List (S44) → Int → Int → Int → Option ((List (S44)))
  | 0, _, _, _, _, _ => none
  | k + 1, x0, x3, x4, x5, x6 => if x6 < x0 then (if x6 = x4 then (drovewayref05_All.l2 k x0 x3 x4 x5 (wrap64 (x6 + 1))) else (if x6 = x5 then (drovewayref05_All.l2 k x0 x3 x4 x5 (wrap64 (x6 + 1))) else (if x3.length < 5864062014805 then (drovewayref05_All.l2 k x0 (x3 ++ [(⟨x4, x5, x6⟩ : S44)]) x4 x5 (wrap64 (x6 + 1))) else (none)))) else (drovewayref05_All.l1 k x0 x3 x4 (wrap64 (x5 + 1)))
end
def drovewayref05_All.f (k : Nat) (a0 : Int) : Option ((List (S44))) := drovewayref05_All.l0 k a0 ([] : List (S44)) 0
set_option maxHeartbeats 8000000 in
set_option maxRecDepth 100000 in
theorem drovewayref05_All.calls (k : Nat) (a0 : Int) (r : List (S44)) (w : World) (h : drovewayref05_All.f k a0 = some r) :
    Calls Tryd.prog 39 #[.int .i64 a0] w fun e w' => ∃ v0_ : Value, e = .returned (v0_) ∧ Kd.R k44 44 w' w.heap.size (fun _ => True) v0_ r ∧ Below w.heap.size w w' := by
  have hu44 := Tryd.underlying44
  have HB := Aside0.mk (Below.refl w.heap.size w)
  have H : (drovewayref05_All.l0 k a0 ([] : List (S44)) 0) = some r := h
  clear h
  have H' := Aside0.mk H
  clear H
  go_enter Tryd.func39, Tryd.ntmps39
  go_wp2
  go_loopg [3, 4] k (fun kq v3 v4 w' => ∃ (x3_1 : List (S44)) (x4_1 : Int), v4 = .int .i64 x4_1 ∧ Aside0 (drovewayref05_All.l0 kq a0 x3_1 x4_1 = some r) ∧ Aside0 (kq ≤ k) ∧ Aside0 (Kd.R k44 44 w' w.heap.size (fun _ => True) v3 x3_1) ∧ Aside0 (Below w.heap.size w w'))
  case atStart => exact ⟨(([] : List (S44))), (0), (by first | rfl | (simp; done) | (simp [*]; done)), H', ⟨Nat.le_refl _⟩, ⟨by first | exact Kd.R_nil _ _ _ _ _ | exact Kd.N_nil _ _ _ _ _ | exact Kd.V_nil _ _ _ _ _ | exact Kd.Q_nil _ _ _ _ _ | exact Kd.S_nil _ _ _ _ _⟩, ⟨by repeat (first | (with_reducible first | exact HB.out | apply below_alloc | apply pw_below_drewN | apply below_drew1) | exact HB.out)⟩⟩
  case round =>
    clear H'
    obtain ⟨x3_1, x4_1, rfl, HA, HK1, HO_3, HB⟩ := hrel
    cases gk with
    | zero => exact absurd HA.out (by simp [drovewayref05_All.l0])
    | succ k1 =>
      have H := HA.out
      clear HA
      simp only [drovewayref05_All.l0] at H
      by_cases c2 : x4_1 < a0
      · rw [if_pos c2] at H
        have c2b0 : decide (x4_1 < a0) = true := decide_eq_true c2
        clear c2
        have H' := Aside0.mk H
        clear H
        go_wp2
        go_loopg [3, 5] k1 (fun kq v3 v5 w' => ∃ (x3_2 : List (S44)) (x5_2 : Int), v5 = .int .i64 x5_2 ∧ Aside0 (drovewayref05_All.l1 kq a0 x3_2 x4_1 x5_2 = some r) ∧ Aside0 (kq ≤ k1) ∧ Aside0 (Kd.R k44 44 w' w.heap.size (fun _ => True) v3 x3_2) ∧ Aside0 (Below w.heap.size w w'))
        case atStart => exact ⟨(x3_1), (wrap64 (x4_1 + 1)), (by first | rfl | (simp; done) | (simp [*]; done)), H', ⟨Nat.le_refl _⟩, ⟨by (with_reducible repeat (first | apply Kd.R_alloc | apply Kd.R_drewN | apply Kd.R_drew)); exact HO_3.out⟩, ⟨by repeat (first | (with_reducible first | exact HB.out | apply below_alloc | apply pw_below_drewN | apply below_drew1) | exact HB.out)⟩⟩
        case round =>
          clear H'
          try clear c2
          try clear c2b0
          try clear p2
          obtain ⟨x3_2, x5_2, rfl, HA, HK2, HO_3, HB⟩ := hrel
          cases gk with
          | zero => exact absurd HA.out (by simp [drovewayref05_All.l1])
          | succ k2 =>
            have H := HA.out
            clear HA
            simp only [drovewayref05_All.l1] at H
            by_cases c3 : x5_2 < a0
            · rw [if_pos c3] at H
              have c3b0 : decide (x5_2 < a0) = true := decide_eq_true c3
              clear c3
              have H' := Aside0.mk H
              clear H
              go_wp2
              go_loopg [3, 6] k2 (fun kq v3 v6 w' => ∃ (x3_3 : List (S44)) (x6_3 : Int), v6 = .int .i64 x6_3 ∧ Aside0 (drovewayref05_All.l2 kq a0 x3_3 x4_1 x5_2 x6_3 = some r) ∧ Aside0 (kq ≤ k2) ∧ Aside0 (Kd.R k44 44 w' w.heap.size (fun _ => True) v3 x3_3) ∧ Aside0 (Below w.heap.size w w'))
              case atStart => exact ⟨(x3_2), (0), (by first | rfl | (simp; done) | (simp [*]; done)), H', ⟨Nat.le_refl _⟩, ⟨by (with_reducible repeat (first | apply Kd.R_alloc | apply Kd.R_drewN | apply Kd.R_drew)); exact HO_3.out⟩, ⟨by repeat (first | (with_reducible first | exact HB.out | apply below_alloc | apply pw_below_drewN | apply below_drew1) | exact HB.out)⟩⟩
              case round =>
                clear H'
                try clear c2
                try clear c2b0
                try clear p2
                try clear c3
                try clear c3b0
                try clear p2
                obtain ⟨x3_3, x6_3, rfl, HA, HK3, HO_3, HB⟩ := hrel
                cases gk with
                | zero => exact absurd HA.out (by simp [drovewayref05_All.l2])
                | succ k3 =>
                  have H := HA.out
                  clear HA
                  simp only [drovewayref05_All.l2] at H
                  by_cases c4 : x6_3 < a0
                  · rw [if_pos c4] at H
                    have c4b0 : decide (x6_3 < a0) = true := decide_eq_true c4
                    clear c4
                    by_cases c5 : x6_3 = x4_1
                    · rw [if_pos c5] at H
                      have c5b0 : (x6_3 == x4_1) = true := beq_iff_eq.mpr c5
                      have c5b1 : (x6_3 != x4_1) = false := bne_eq_false_iff_eq.mpr c5
                      clear c5
                      have H' := Aside0.mk H
                      clear H
                      go_wp2
                      go_roundg k3
                      case measure => have := HK1.out; have := HK2.out; have := HK3.out; omega
                      case rel => exact ⟨(x3_3), (wrap64 (x6_3 + 1)), (by first | rfl | (simp; done) | (simp [*]; done)), H', ⟨by have := HK1.out; have := HK2.out; have := HK3.out; omega⟩, ⟨by (with_reducible repeat (first | apply Kd.R_alloc | apply Kd.R_drewN | apply Kd.R_drew)); exact HO_3.out⟩, ⟨by repeat (first | (with_reducible first | exact HB.out | apply below_alloc | apply pw_below_drewN | apply below_drew1) | exact HB.out)⟩⟩
                    · rw [if_neg c5] at H
                      have c5b0 : (x6_3 == x4_1) = false := beq_eq_false_iff_ne.mpr c5
                      have c5b1 : (x6_3 != x4_1) = true := bne_iff_ne.mpr c5
                      by_cases c6 : x6_3 = x5_2
                      · rw [if_pos c6] at H
                        have c6b0 : (x6_3 == x5_2) = true := beq_iff_eq.mpr c6
                        have c6b1 : (x6_3 != x5_2) = false := bne_eq_false_iff_eq.mpr c6
                        clear c6
                        have H' := Aside0.mk H
                        clear H
                        go_wp2
                        go_roundg k3
                        case measure => have := HK1.out; have := HK2.out; have := HK3.out; omega
                        case rel => exact ⟨(x3_3), (wrap64 (x6_3 + 1)), (by first | rfl | (simp; done) | (simp [*]; done)), H', ⟨by have := HK1.out; have := HK2.out; have := HK3.out; omega⟩, ⟨by (with_reducible repeat (first | apply Kd.R_alloc | apply Kd.R_drewN | apply Kd.R_drew)); exact HO_3.out⟩, ⟨by repeat (first | (with_reducible first | exact HB.out | apply below_alloc | apply pw_below_drewN | apply below_drew1) | exact HB.out)⟩⟩
                      · rw [if_neg c6] at H
                        have c6b0 : (x6_3 == x5_2) = false := beq_eq_false_iff_ne.mpr c6
                        have c6b1 : (x6_3 != x5_2) = true := bne_iff_ne.mpr c6
                        by_cases c7 : x3_3.length < 5864062014805
                        · rw [if_pos c7] at H
                          have LMc7 := Aside0.mk c7
                          clear c7
                          obtain ⟨y263, hy263⟩ : ∃ y_ : List (S44), y_ = (x3_3 ++ [(⟨x4_1, x5_2, x6_3⟩ : S44)]) := ⟨_, rfl⟩
                          replace H : (drovewayref05_All.l2 k3 a0 y263 x4_1 x5_2 (wrap64 (x6_3 + 1))) = some r := by first | (rw [hy263]; with_reducible exact H) | (have H2_ := (Option.bind_some _ _).symm.trans H; rw [hy263]; with_reducible exact H2_) | (have H2_ := (Option.bind_some _ _).symm.trans H; with_reducible exact H2_) | with_reducible exact H | (rw [hy263]; exact H) | exact H
                          have Ny263 := Aside0.mk hy263
                          clear hy263
                          have H' := Aside0.mk H
                          clear H
                          go_wp2_with (first | ((with_reducible refine gate_builtin (b := .append) (xs := #[.tmp 32, .tmp 37]) rfl ?_); at_builtin; refine Kd.R_append k44 (w0 := w) w.heap.size rfl (.tmp 32) (.tmp 37) 27 44 (.agg #[(.int .i64 0), (.int .i64 0), (.int .i64 0)]) 24 rfl Tryd.underlying27 info44 rfl (by decide) (by omega) u3 x3_3 (⟨x4_1, x5_2, x6_3⟩ : S44) [.int .i64 x4_1, .int .i64 x5_2, .int .i64 x6_3] (fun _ => True) (fun _ => False) rfl rfl ?aP (fun _ hk => hk.elim) ?aF ?aO ?aB ?aS ?aL ?_; (case aP => exact k44_mkM _ _ _ (⟨x4_1, x5_2, x6_3⟩ : S44)); (case aB => exact (by repeat (first | (with_reducible first | exact HB.out | apply below_alloc | apply pw_below_drewN | apply below_drew1) | exact HB.out))); (case aF => exact (fun _ _ => trivial)); (case aO => exact (by (with_reducible repeat (first | apply Kd.R_alloc | apply Kd.R_drewN | apply Kd.R_drew)); exact HO_3.out)); (case aS => exact (below_size (by repeat (first | (with_reducible first | exact HB.out | apply below_alloc | apply pw_below_drewN | apply below_drew1) | exact HB.out)))); (case aL => have := LMc7.out; omega); intro v264 w8 ho hb hg hat; rw [← Ny263.out] at ho; have n0_ := Aside0.mk (hb); have n1_ := Aside0.mk (ho); clear HB; clear HO_3; have HB := n0_; have HO265 := n1_; clear n0_ n1_; clear ho hb hg hat))
                          go_roundg k3
                          case measure => have := HK1.out; have := HK2.out; have := HK3.out; omega
                          case rel => exact ⟨(y263), (wrap64 (x6_3 + 1)), (by first | rfl | (simp; done) | (simp [*]; done)), H', ⟨by have := HK1.out; have := HK2.out; have := HK3.out; omega⟩, ⟨by (with_reducible repeat (first | apply Kd.R_alloc | apply Kd.R_drewN | apply Kd.R_drew)); exact HO265.out⟩, ⟨by repeat (first | (with_reducible first | exact HB.out | apply below_alloc | apply pw_below_drewN | apply below_drew1) | exact HB.out)⟩⟩
                        · rw [if_neg c7] at H
                          exact absurd H (by simp)
                  · rw [if_neg c4] at H
                    have c4b0 : decide (x6_3 < a0) = false := decide_eq_false c4
                    clear c4
                    have H' := Aside0.mk H
                    clear H
                    go_wp2
                    go_roundg k3
                    case measure => have := HK1.out; have := HK2.out; have := HK3.out; omega
                    case rel => exact ⟨(x3_3), (wrap64 (x5_2 + 1)), (by first | rfl | (simp; done) | (simp [*]; done)), H', ⟨by have := HK1.out; have := HK2.out; have := HK3.out; omega⟩, ⟨by (with_reducible repeat (first | apply Kd.R_alloc | apply Kd.R_drewN | apply Kd.R_drew)); exact HO_3.out⟩, ⟨by repeat (first | (with_reducible first | exact HB.out | apply below_alloc | apply pw_below_drewN | apply below_drew1) | exact HB.out)⟩⟩
            · rw [if_neg c3] at H
              have c3b0 : decide (x5_2 < a0) = false := decide_eq_false c3
              clear c3
              have H' := Aside0.mk H
              clear H
              go_wp2
              go_roundg k2
              case measure => have := HK1.out; have := HK2.out; omega
              case rel => exact ⟨(x3_2), (wrap64 (x4_1 + 1)), (by first | rfl | (simp; done) | (simp [*]; done)), H', ⟨by have := HK1.out; have := HK2.out; omega⟩, ⟨by (with_reducible repeat (first | apply Kd.R_alloc | apply Kd.R_drewN | apply Kd.R_drew)); exact HO_3.out⟩, ⟨by repeat (first | (with_reducible first | exact HB.out | apply below_alloc | apply pw_below_drewN | apply below_drew1) | exact HB.out)⟩⟩
      · rw [if_neg c2] at H
        have c2b0 : decide (x4_1 < a0) = false := decide_eq_false c2
        clear c2
        obtain rfl := Option.some.inj H
        go_wp2
        go_ret
        exact ⟨_, by first | rfl | (simp [errW_none, errW_some] <;> rfl) | (simp [*, errW_none, errW_some] <;> rfl), by (with_reducible repeat (first | apply Kd.R_alloc | apply Kd.R_drewN | apply Kd.R_drew)); exact HO_3.out, by repeat (first | (with_reducible first | exact HB.out | apply below_alloc | apply pw_below_drewN | apply below_drew1) | exact HB.out)⟩

end
end Go.Proofs.YtdbbcngmnpejnaaDoor.B

/- The law package's small functions, as the kit's print writes them. -/
namespace Go.Proofs.YtdbbcngmnpejnaaDoor.B
open Go.Proofs.YtdbbcngmnpejnaaDoor.A
open Go.RowKit Go.Proofs.YtdbbcngmnpejnaaDoorW.PrintWords Go.Proofs.YtdbbcngmnpejnaaDoorW.PrintLast Go.Proofs.YtdbbcngmnpejnaaDoorW.PrintMore
section
attribute [local go_sem] max2_int min2_int max_two min_two max_three min_three max_four min_four   -- for this text's walks alone
set_option linter.unusedVariables false
set_option linter.unusedSimpArgs false
attribute [local go_sem high] eqA44
/-! ### drovewaylaw05_few: function 16 -/
def drovewaylaw05_few.f (l0 : List (S44)) (a1 : ByteArray) : Option (Bool) := if (l0.length : Int) ≤ 100 then (some (decide ((a1.size : Int) ≤ 100))) else (some false)
/-! ### drovewaylaw05_same: function 23 -/
def drovewaylaw05_same.l0 : Nat → List (S44) → List (S44) → Int → Option (Bool)
  | 0, _, _, _ => none
  | k + 1, x0, x1, x5 => if x5 < (x0.length : Int) then (if 0 ≤ x5 then (if x5 < (x1.length : Int) then (if (!(((rd_T44 x0 x5).f0) == ((rd_T44 x1 x5).f0)) || (!(((rd_T44 x0 x5).f1) == ((rd_T44 x1 x5).f1)) || (!(((rd_T44 x0 x5).f2) == ((rd_T44 x1 x5).f2))))) = true then (some false) else (drovewaylaw05_same.l0 k x0 x1 (wrap64 (x5 + 1)))) else (none)) else (none)) else (some true)
def drovewaylaw05_same.f (k : Nat) (l0 : List (S44)) (l1 : List (S44)) : Option (Bool) := if (l0.length : Int) = (l1.length : Int) then (drovewaylaw05_same.l0 k l0 l1 0) else (some false)
set_option maxHeartbeats 8000000 in
set_option maxRecDepth 100000 in
theorem drovewaylaw05_same.calls (k : Nat) (A0 : Option Addr) (c0 : Nat) (l0 : List (S44)) (A1 : Option Addr) (c1 : Nat) (l1 : List (S44)) (r : Bool) (w : World) (hr0 : Kd.C k44 w A0 l0.length l0) (hc0 : l0.length ≤ c0) (hr1 : Kd.C k44 w A1 l1.length l1) (hc1 : l1.length ≤ c1) (h : drovewaylaw05_same.f k l0 l1 = some r) :
    Calls Tryd.prog 23 #[.slice A0 l0.length c0, .slice A1 l1.length c1] w fun e w' => e = .returned (.bool r) ∧ Drawn0 w w' := by
  have hu44 := Tryd.underlying44
  have HR0 := Aside0.mk hr0
  have HC0 := Aside0.mk hc0
  clear hr0 hc0
  have HR1 := Aside0.mk hr1
  have HC1 := Aside0.mk hc1
  clear hr1 hc1
  have H : (if (l0.length : Int) = (l1.length : Int) then (drovewaylaw05_same.l0 k l0 l1 0) else (some false)) = some r := h
  clear h
  by_cases c3 : (l0.length : Int) = (l1.length : Int)
  · rw [if_pos c3] at H
    have c3b0 : ((l0.length : Int) == (l1.length : Int)) = true := beq_iff_eq.mpr c3
    have c3b1 : ((l0.length : Int) != (l1.length : Int)) = false := bne_eq_false_iff_eq.mpr c3
    have c3b2 : (l0.length == l1.length) = true := by first | simpa using c3 | (simp at c3 ⊢; omega)
    clear c3
    have H' := Aside0.mk H
    clear H
    go_enter Tryd.func23, Tryd.ntmps23
    go_wp2
    repeat (go_quiet (fail); try go_wp2)
    go_loopg [5] k (fun kq v5 w' => ∃ (x5_1 : Int), v5 = .int .i64 x5_1 ∧ Aside0 (drovewaylaw05_same.l0 kq l0 l1 x5_1 = some r) ∧ Aside0 (kq ≤ k) ∧ Drawn0 w w')
    case atStart => exact ⟨(0), (by first | rfl | (simp; done) | (simp [*]; done)), H', ⟨Nat.le_refl _⟩, by repeat (first | exact Drawn0.refl _ | apply Drawn0.step)⟩
    case round =>
      clear H'
      try clear c1
      try clear c2
      try clear p2
      try clear c3
      try clear c3b0
      try clear c3b1
      try clear c3b2
      obtain ⟨x5_1, rfl, HA, HK1, ⟨m1, rfl⟩⟩ := hrel
      cases gk with
      | zero => exact absurd HA.out (by simp [drovewaylaw05_same.l0])
      | succ k1 =>
        have H := HA.out
        clear HA
        simp only [drovewaylaw05_same.l0] at H
        by_cases c4 : x5_1 < (l0.length : Int)
        · rw [if_pos c4] at H
          have c4b0 : decide (x5_1 < (l0.length : Int)) = true := decide_eq_true c4
          clear c4
          by_cases c5 : 0 ≤ x5_1
          · rw [if_pos c5] at H
            have c5b0 : decide (0 ≤ x5_1) = true := decide_eq_true c5
            clear c5
            by_cases c6 : x5_1 < (l1.length : Int)
            · rw [if_pos c6] at H
              have c6b0 : decide (x5_1 < (l1.length : Int)) = true := decide_eq_true c6
              clear c6
              by_cases c7 : (!(((rd_T44 l0 x5_1).f0) == ((rd_T44 l1 x5_1).f0)) || (!(((rd_T44 l0 x5_1).f1) == ((rd_T44 l1 x5_1).f1)) || (!(((rd_T44 l0 x5_1).f2) == ((rd_T44 l1 x5_1).f2))))) = true
              · rw [if_pos c7] at H
                have c7b0 : (!(((rd_T44 l0 x5_1).f0) == ((rd_T44 l1 x5_1).f0)) || (!(((rd_T44 l0 x5_1).f1) == ((rd_T44 l1 x5_1).f1)) || (!(((rd_T44 l0 x5_1).f2) == ((rd_T44 l1 x5_1).f2))))) = true := c7
                clear c7
                obtain rfl := Option.some.inj H
                have p253 : 0 ≤ (x5_1 : Int) := of_decide_eq_true (by first | (with_reducible assumption) | assumption)
                have q253 : x5_1 < (l0.length : Int) := of_decide_eq_true (by first | (with_reducible assumption) | assumption)
                obtain ⟨ad253, e253, hx253_0, hx253_1, hx253_2⟩ := at_T44 HR0.out x5_1 p253 q253
                cases e253
                replace p253 := eq_true p253
                replace q253 := eq_true q253
                have p254 : 0 ≤ (x5_1 : Int) := of_decide_eq_true (by first | (with_reducible assumption) | assumption)
                have q254 : x5_1 < (l1.length : Int) := of_decide_eq_true (by first | (with_reducible assumption) | assumption)
                obtain ⟨ad254, e254, hx254_0, hx254_1, hx254_2⟩ := at_T44 HR1.out x5_1 p254 q254
                cases e254
                replace p254 := eq_true p254
                replace q254 := eq_true q254
                go_wp2
                repeat (go_quiet (fail); try go_wp2)
                go_ret
                exact ⟨by first | rfl | (simp; done) | (simp [*]; done), by repeat (first | exact Drawn0.refl _ | apply Drawn0.step)⟩
              · rw [if_neg c7] at H
                have c7b0 : (!(((rd_T44 l0 x5_1).f0) == ((rd_T44 l1 x5_1).f0)) || (!(((rd_T44 l0 x5_1).f1) == ((rd_T44 l1 x5_1).f1)) || (!(((rd_T44 l0 x5_1).f2) == ((rd_T44 l1 x5_1).f2))))) = false := by simpa using c7
                clear c7
                have H' := Aside0.mk H
                clear H
                have p253 : 0 ≤ (x5_1 : Int) := of_decide_eq_true (by first | (with_reducible assumption) | assumption)
                have q253 : x5_1 < (l0.length : Int) := of_decide_eq_true (by first | (with_reducible assumption) | assumption)
                obtain ⟨ad253, e253, hx253_0, hx253_1, hx253_2⟩ := at_T44 HR0.out x5_1 p253 q253
                cases e253
                replace p253 := eq_true p253
                replace q253 := eq_true q253
                have p254 : 0 ≤ (x5_1 : Int) := of_decide_eq_true (by first | (with_reducible assumption) | assumption)
                have q254 : x5_1 < (l1.length : Int) := of_decide_eq_true (by first | (with_reducible assumption) | assumption)
                obtain ⟨ad254, e254, hx254_0, hx254_1, hx254_2⟩ := at_T44 HR1.out x5_1 p254 q254
                cases e254
                replace p254 := eq_true p254
                replace q254 := eq_true q254
                go_wp2
                repeat (go_quiet (fail); try go_wp2)
                go_roundg k1
                case measure => have := HK1.out; omega
                case rel => exact ⟨(wrap64 (x5_1 + 1)), (by first | rfl | (simp; done) | (simp [*]; done)), H', ⟨by have := HK1.out; omega⟩, by repeat (first | exact Drawn0.refl _ | apply Drawn0.step)⟩
            · rw [if_neg c6] at H
              exact absurd H (by simp)
          · rw [if_neg c5] at H
            exact absurd H (by simp)
        · rw [if_neg c4] at H
          have c4b0 : decide (x5_1 < (l0.length : Int)) = false := decide_eq_false c4
          clear c4
          obtain rfl := Option.some.inj H
          go_wp2
          repeat (go_quiet (fail); try go_wp2)
          go_ret
          exact ⟨by first | rfl | (simp; done) | (simp [*]; done), by repeat (first | exact Drawn0.refl _ | apply Drawn0.step)⟩
  · rw [if_neg c3] at H
    have c3b0 : ((l0.length : Int) == (l1.length : Int)) = false := beq_eq_false_iff_ne.mpr c3
    have c3b1 : ((l0.length : Int) != (l1.length : Int)) = true := bne_iff_ne.mpr c3
    have c3b2 : (l0.length == l1.length) = false := by first | simpa using c3 | (simp at c3 ⊢; omega)
    obtain rfl := Option.some.inj H
    go_enter Tryd.func23, Tryd.ntmps23
    go_wp2
    repeat (go_quiet (fail); try go_wp2)
    go_ret
    exact ⟨by first | rfl | (simp; done) | (simp [*]; done), by repeat (first | exact Drawn0.refl _ | apply Drawn0.step)⟩

end
end Go.Proofs.YtdbbcngmnpejnaaDoor.B

/- The reference's IsTriple, List and given, as the kit's print writes them. -/
namespace Go.Proofs.YtdbbcngmnpejnaaDoor.B
open Go.Proofs.YtdbbcngmnpejnaaDoor.A
open Go.RowKit Go.Proofs.YtdbbcngmnpejnaaDoorW.PrintWords Go.Proofs.YtdbbcngmnpejnaaDoorW.PrintLast Go.Proofs.YtdbbcngmnpejnaaDoorW.PrintMore
section
attribute [local go_sem] max2_int min2_int max_two min_two max_three min_three max_four min_four   -- for this text's walks alone
set_option linter.unusedVariables false
set_option linter.unusedSimpArgs false
/-! ### drovewayref05_IsTriple: function 31 -/
def drovewayref05_IsTriple.f (a0 : Int) (a1_0 : Int) (a1_1 : Int) (a1_2 : Int) : Option (Bool) := if a1_0 ≥ 0 then (if a1_0 < a1_1 then (if a1_1 < a0 then (if a1_2 ≥ 0 then (if a1_2 < a0 then (if a1_2 = a1_0 then (some false) else (some (a1_2 != a1_1))) else (some false)) else (some false)) else (some false)) else (some false)) else (some false)
set_option maxHeartbeats 8000000 in
set_option maxRecDepth 100000 in
theorem drovewayref05_IsTriple.calls (a0 : Int) (a1_0 : Int) (a1_1 : Int) (a1_2 : Int) (r : Bool) (w : World) (h : drovewayref05_IsTriple.f a0 a1_0 a1_1 a1_2 = some r) :
    Calls Tryd.prog 31 #[.int .i64 a0, .agg #[.int .i64 a1_0, .int .i64 a1_1, .int .i64 a1_2]] w fun e w' => e = .returned (.bool r) ∧ Below w.heap.size w w' := by
  have hu44 := Tryd.underlying44
  have HB := Aside0.mk (Below.refl w.heap.size w)
  have H : (if a1_0 ≥ 0 then (if a1_0 < a1_1 then (if a1_1 < a0 then (if a1_2 ≥ 0 then (if a1_2 < a0 then (if a1_2 = a1_0 then (some false) else (some (a1_2 != a1_1))) else (some false)) else (some false)) else (some false)) else (some false)) else (some false)) = some r := h
  clear h
  by_cases c3 : a1_0 ≥ 0
  · rw [if_pos c3] at H
    have c3b0 : decide (0 ≤ a1_0) = true := decide_eq_true c3
    clear c3
    by_cases c4 : a1_0 < a1_1
    · rw [if_pos c4] at H
      have c4b0 : decide (a1_0 < a1_1) = true := decide_eq_true c4
      clear c4
      by_cases c5 : a1_1 < a0
      · rw [if_pos c5] at H
        have c5b0 : decide (a1_1 < a0) = true := decide_eq_true c5
        clear c5
        by_cases c6 : a1_2 ≥ 0
        · rw [if_pos c6] at H
          have c6b0 : decide (0 ≤ a1_2) = true := decide_eq_true c6
          clear c6
          by_cases c7 : a1_2 < a0
          · rw [if_pos c7] at H
            have c7b0 : decide (a1_2 < a0) = true := decide_eq_true c7
            clear c7
            by_cases c8 : a1_2 = a1_0
            · rw [if_pos c8] at H
              have c8b0 : (a1_2 == a1_0) = true := beq_iff_eq.mpr c8
              have c8b1 : (a1_2 != a1_0) = false := bne_eq_false_iff_eq.mpr c8
              clear c8
              obtain rfl := Option.some.inj H
              go_enter Tryd.func31, Tryd.ntmps31
              go_wp2_with (first | ((with_reducible refine gate_dst (N := 3) rfl ?_); refine box_event ?hg (N := 3) ?hd (cs := #[.int .i64 a1_0, .int .i64 a1_1, .int .i64 a1_2]) (t := 44) ?hr ?_; (case hd => rfl); (case hg => rfl); (case hr => first | (go_simp; done) | (go_simp; rfl)); intro gb258 hg w9 hbox hb; have n0_ := Aside0.mk (below_step (by repeat (first | (with_reducible first | exact HB.out | apply below_alloc | apply pw_below_drewN | apply below_drew1) | exact HB.out)) hb); have n1_ := Aside0.mk (hbox); have n2_ := Aside0.mk ((by rw [hg]; exact (below_size (by repeat (first | (with_reducible first | exact HB.out | apply below_alloc | apply pw_below_drewN | apply below_drew1) | exact HB.out))) : w.heap.size ≤ gb258)); have n3_ := Aside0.mk ((by rw [hg]; exact (below_size (by repeat (first | (with_reducible first | exact HB.out | apply below_alloc | apply pw_below_drewN | apply below_drew1) | exact HB.out))) : w.heap.size ≤ gb258)); clear HB; have HB := n0_; have BK258 := n1_; have GW258 := n2_; have GE258 := n3_; clear n0_ n1_ n2_ n3_; clear hb hbox hg; have hcz10_0 : w9.cell? ⟨gb258, 0, none⟩ = some (.int .i64 a1_0) := (blk_cell BK258.out 0).trans rfl; have hcz10_1 : w9.cell? ⟨gb258, 1, none⟩ = some (.int .i64 a1_1) := (blk_cell BK258.out 1).trans rfl; have hcz10_2 : w9.cell? ⟨gb258, 2, none⟩ = some (.int .i64 a1_2) := (blk_cell BK258.out 2).trans rfl; have hfz10_0 := blk_frozen BK258.out 0; have hfz10_1 := blk_frozen BK258.out 1; have hfz10_2 := blk_frozen BK258.out 2))
              go_ret
              exact ⟨by first | rfl | (simp [errW_none, errW_some] <;> rfl) | (simp [*, errW_none, errW_some] <;> rfl), by repeat (first | (with_reducible first | exact HB.out | apply below_alloc | apply pw_below_drewN | apply below_drew1 | refine below_set ?_ GE258.out) | exact HB.out)⟩
            · rw [if_neg c8] at H
              have c8b0 : (a1_2 == a1_0) = false := beq_eq_false_iff_ne.mpr c8
              have c8b1 : (a1_2 != a1_0) = true := bne_iff_ne.mpr c8
              obtain rfl := Option.some.inj H
              go_enter Tryd.func31, Tryd.ntmps31
              go_wp2_with (first | ((with_reducible refine gate_dst (N := 3) rfl ?_); refine box_event ?hg (N := 3) ?hd (cs := #[.int .i64 a1_0, .int .i64 a1_1, .int .i64 a1_2]) (t := 44) ?hr ?_; (case hd => rfl); (case hg => rfl); (case hr => first | (go_simp; done) | (go_simp; rfl)); intro gb258 hg w11 hbox hb; have n0_ := Aside0.mk (below_step (by repeat (first | (with_reducible first | exact HB.out | apply below_alloc | apply pw_below_drewN | apply below_drew1) | exact HB.out)) hb); have n1_ := Aside0.mk (hbox); have n2_ := Aside0.mk ((by rw [hg]; exact (below_size (by repeat (first | (with_reducible first | exact HB.out | apply below_alloc | apply pw_below_drewN | apply below_drew1) | exact HB.out))) : w.heap.size ≤ gb258)); have n3_ := Aside0.mk ((by rw [hg]; exact (below_size (by repeat (first | (with_reducible first | exact HB.out | apply below_alloc | apply pw_below_drewN | apply below_drew1) | exact HB.out))) : w.heap.size ≤ gb258)); clear HB; have HB := n0_; have BK258 := n1_; have GW258 := n2_; have GE258 := n3_; clear n0_ n1_ n2_ n3_; clear hb hbox hg; have hcz12_0 : w11.cell? ⟨gb258, 0, none⟩ = some (.int .i64 a1_0) := (blk_cell BK258.out 0).trans rfl; have hcz12_1 : w11.cell? ⟨gb258, 1, none⟩ = some (.int .i64 a1_1) := (blk_cell BK258.out 1).trans rfl; have hcz12_2 : w11.cell? ⟨gb258, 2, none⟩ = some (.int .i64 a1_2) := (blk_cell BK258.out 2).trans rfl; have hfz12_0 := blk_frozen BK258.out 0; have hfz12_1 := blk_frozen BK258.out 1; have hfz12_2 := blk_frozen BK258.out 2))
              go_ret
              exact ⟨by first | rfl | (simp [errW_none, errW_some] <;> rfl) | (simp [*, errW_none, errW_some] <;> rfl), by repeat (first | (with_reducible first | exact HB.out | apply below_alloc | apply pw_below_drewN | apply below_drew1 | refine below_set ?_ GE258.out) | exact HB.out)⟩
          · rw [if_neg c7] at H
            have c7b0 : decide (a1_2 < a0) = false := decide_eq_false c7
            clear c7
            obtain rfl := Option.some.inj H
            go_enter Tryd.func31, Tryd.ntmps31
            go_wp2_with (first | ((with_reducible refine gate_dst (N := 3) rfl ?_); refine box_event ?hg (N := 3) ?hd (cs := #[.int .i64 a1_0, .int .i64 a1_1, .int .i64 a1_2]) (t := 44) ?hr ?_; (case hd => rfl); (case hg => rfl); (case hr => first | (go_simp; done) | (go_simp; rfl)); intro gb258 hg w13 hbox hb; have n0_ := Aside0.mk (below_step (by repeat (first | (with_reducible first | exact HB.out | apply below_alloc | apply pw_below_drewN | apply below_drew1) | exact HB.out)) hb); have n1_ := Aside0.mk (hbox); have n2_ := Aside0.mk ((by rw [hg]; exact (below_size (by repeat (first | (with_reducible first | exact HB.out | apply below_alloc | apply pw_below_drewN | apply below_drew1) | exact HB.out))) : w.heap.size ≤ gb258)); have n3_ := Aside0.mk ((by rw [hg]; exact (below_size (by repeat (first | (with_reducible first | exact HB.out | apply below_alloc | apply pw_below_drewN | apply below_drew1) | exact HB.out))) : w.heap.size ≤ gb258)); clear HB; have HB := n0_; have BK258 := n1_; have GW258 := n2_; have GE258 := n3_; clear n0_ n1_ n2_ n3_; clear hb hbox hg; have hcz14_0 : w13.cell? ⟨gb258, 0, none⟩ = some (.int .i64 a1_0) := (blk_cell BK258.out 0).trans rfl; have hcz14_1 : w13.cell? ⟨gb258, 1, none⟩ = some (.int .i64 a1_1) := (blk_cell BK258.out 1).trans rfl; have hcz14_2 : w13.cell? ⟨gb258, 2, none⟩ = some (.int .i64 a1_2) := (blk_cell BK258.out 2).trans rfl; have hfz14_0 := blk_frozen BK258.out 0; have hfz14_1 := blk_frozen BK258.out 1; have hfz14_2 := blk_frozen BK258.out 2))
            go_ret
            exact ⟨by first | rfl | (simp [errW_none, errW_some] <;> rfl) | (simp [*, errW_none, errW_some] <;> rfl), by repeat (first | (with_reducible first | exact HB.out | apply below_alloc | apply pw_below_drewN | apply below_drew1 | refine below_set ?_ GE258.out) | exact HB.out)⟩
        · rw [if_neg c6] at H
          have c6b0 : decide (0 ≤ a1_2) = false := decide_eq_false c6
          clear c6
          obtain rfl := Option.some.inj H
          go_enter Tryd.func31, Tryd.ntmps31
          go_wp2_with (first | ((with_reducible refine gate_dst (N := 3) rfl ?_); refine box_event ?hg (N := 3) ?hd (cs := #[.int .i64 a1_0, .int .i64 a1_1, .int .i64 a1_2]) (t := 44) ?hr ?_; (case hd => rfl); (case hg => rfl); (case hr => first | (go_simp; done) | (go_simp; rfl)); intro gb258 hg w15 hbox hb; have n0_ := Aside0.mk (below_step (by repeat (first | (with_reducible first | exact HB.out | apply below_alloc | apply pw_below_drewN | apply below_drew1) | exact HB.out)) hb); have n1_ := Aside0.mk (hbox); have n2_ := Aside0.mk ((by rw [hg]; exact (below_size (by repeat (first | (with_reducible first | exact HB.out | apply below_alloc | apply pw_below_drewN | apply below_drew1) | exact HB.out))) : w.heap.size ≤ gb258)); have n3_ := Aside0.mk ((by rw [hg]; exact (below_size (by repeat (first | (with_reducible first | exact HB.out | apply below_alloc | apply pw_below_drewN | apply below_drew1) | exact HB.out))) : w.heap.size ≤ gb258)); clear HB; have HB := n0_; have BK258 := n1_; have GW258 := n2_; have GE258 := n3_; clear n0_ n1_ n2_ n3_; clear hb hbox hg; have hcz16_0 : w15.cell? ⟨gb258, 0, none⟩ = some (.int .i64 a1_0) := (blk_cell BK258.out 0).trans rfl; have hcz16_1 : w15.cell? ⟨gb258, 1, none⟩ = some (.int .i64 a1_1) := (blk_cell BK258.out 1).trans rfl; have hcz16_2 : w15.cell? ⟨gb258, 2, none⟩ = some (.int .i64 a1_2) := (blk_cell BK258.out 2).trans rfl; have hfz16_0 := blk_frozen BK258.out 0; have hfz16_1 := blk_frozen BK258.out 1; have hfz16_2 := blk_frozen BK258.out 2))
          go_ret
          exact ⟨by first | rfl | (simp [errW_none, errW_some] <;> rfl) | (simp [*, errW_none, errW_some] <;> rfl), by repeat (first | (with_reducible first | exact HB.out | apply below_alloc | apply pw_below_drewN | apply below_drew1 | refine below_set ?_ GE258.out) | exact HB.out)⟩
      · rw [if_neg c5] at H
        have c5b0 : decide (a1_1 < a0) = false := decide_eq_false c5
        clear c5
        obtain rfl := Option.some.inj H
        go_enter Tryd.func31, Tryd.ntmps31
        go_wp2_with (first | ((with_reducible refine gate_dst (N := 3) rfl ?_); refine box_event ?hg (N := 3) ?hd (cs := #[.int .i64 a1_0, .int .i64 a1_1, .int .i64 a1_2]) (t := 44) ?hr ?_; (case hd => rfl); (case hg => rfl); (case hr => first | (go_simp; done) | (go_simp; rfl)); intro gb258 hg w17 hbox hb; have n0_ := Aside0.mk (below_step (by repeat (first | (with_reducible first | exact HB.out | apply below_alloc | apply pw_below_drewN | apply below_drew1) | exact HB.out)) hb); have n1_ := Aside0.mk (hbox); have n2_ := Aside0.mk ((by rw [hg]; exact (below_size (by repeat (first | (with_reducible first | exact HB.out | apply below_alloc | apply pw_below_drewN | apply below_drew1) | exact HB.out))) : w.heap.size ≤ gb258)); have n3_ := Aside0.mk ((by rw [hg]; exact (below_size (by repeat (first | (with_reducible first | exact HB.out | apply below_alloc | apply pw_below_drewN | apply below_drew1) | exact HB.out))) : w.heap.size ≤ gb258)); clear HB; have HB := n0_; have BK258 := n1_; have GW258 := n2_; have GE258 := n3_; clear n0_ n1_ n2_ n3_; clear hb hbox hg; have hcz18_0 : w17.cell? ⟨gb258, 0, none⟩ = some (.int .i64 a1_0) := (blk_cell BK258.out 0).trans rfl; have hcz18_1 : w17.cell? ⟨gb258, 1, none⟩ = some (.int .i64 a1_1) := (blk_cell BK258.out 1).trans rfl; have hcz18_2 : w17.cell? ⟨gb258, 2, none⟩ = some (.int .i64 a1_2) := (blk_cell BK258.out 2).trans rfl; have hfz18_0 := blk_frozen BK258.out 0; have hfz18_1 := blk_frozen BK258.out 1; have hfz18_2 := blk_frozen BK258.out 2))
        go_ret
        exact ⟨by first | rfl | (simp [errW_none, errW_some] <;> rfl) | (simp [*, errW_none, errW_some] <;> rfl), by repeat (first | (with_reducible first | exact HB.out | apply below_alloc | apply pw_below_drewN | apply below_drew1 | refine below_set ?_ GE258.out) | exact HB.out)⟩
    · rw [if_neg c4] at H
      have c4b0 : decide (a1_0 < a1_1) = false := decide_eq_false c4
      clear c4
      obtain rfl := Option.some.inj H
      go_enter Tryd.func31, Tryd.ntmps31
      go_wp2_with (first | ((with_reducible refine gate_dst (N := 3) rfl ?_); refine box_event ?hg (N := 3) ?hd (cs := #[.int .i64 a1_0, .int .i64 a1_1, .int .i64 a1_2]) (t := 44) ?hr ?_; (case hd => rfl); (case hg => rfl); (case hr => first | (go_simp; done) | (go_simp; rfl)); intro gb258 hg w19 hbox hb; have n0_ := Aside0.mk (below_step (by repeat (first | (with_reducible first | exact HB.out | apply below_alloc | apply pw_below_drewN | apply below_drew1) | exact HB.out)) hb); have n1_ := Aside0.mk (hbox); have n2_ := Aside0.mk ((by rw [hg]; exact (below_size (by repeat (first | (with_reducible first | exact HB.out | apply below_alloc | apply pw_below_drewN | apply below_drew1) | exact HB.out))) : w.heap.size ≤ gb258)); have n3_ := Aside0.mk ((by rw [hg]; exact (below_size (by repeat (first | (with_reducible first | exact HB.out | apply below_alloc | apply pw_below_drewN | apply below_drew1) | exact HB.out))) : w.heap.size ≤ gb258)); clear HB; have HB := n0_; have BK258 := n1_; have GW258 := n2_; have GE258 := n3_; clear n0_ n1_ n2_ n3_; clear hb hbox hg; have hcz20_0 : w19.cell? ⟨gb258, 0, none⟩ = some (.int .i64 a1_0) := (blk_cell BK258.out 0).trans rfl; have hcz20_1 : w19.cell? ⟨gb258, 1, none⟩ = some (.int .i64 a1_1) := (blk_cell BK258.out 1).trans rfl; have hcz20_2 : w19.cell? ⟨gb258, 2, none⟩ = some (.int .i64 a1_2) := (blk_cell BK258.out 2).trans rfl; have hfz20_0 := blk_frozen BK258.out 0; have hfz20_1 := blk_frozen BK258.out 1; have hfz20_2 := blk_frozen BK258.out 2))
      go_ret
      exact ⟨by first | rfl | (simp [errW_none, errW_some] <;> rfl) | (simp [*, errW_none, errW_some] <;> rfl), by repeat (first | (with_reducible first | exact HB.out | apply below_alloc | apply pw_below_drewN | apply below_drew1 | refine below_set ?_ GE258.out) | exact HB.out)⟩
  · rw [if_neg c3] at H
    have c3b0 : decide (0 ≤ a1_0) = false := decide_eq_false c3
    clear c3
    obtain rfl := Option.some.inj H
    go_enter Tryd.func31, Tryd.ntmps31
    go_wp2_with (first | ((with_reducible refine gate_dst (N := 3) rfl ?_); refine box_event ?hg (N := 3) ?hd (cs := #[.int .i64 a1_0, .int .i64 a1_1, .int .i64 a1_2]) (t := 44) ?hr ?_; (case hd => rfl); (case hg => rfl); (case hr => first | (go_simp; done) | (go_simp; rfl)); intro gb258 hg w21 hbox hb; have n0_ := Aside0.mk (below_step (by repeat (first | (with_reducible first | exact HB.out | apply below_alloc | apply pw_below_drewN | apply below_drew1) | exact HB.out)) hb); have n1_ := Aside0.mk (hbox); have n2_ := Aside0.mk ((by rw [hg]; exact (below_size (by repeat (first | (with_reducible first | exact HB.out | apply below_alloc | apply pw_below_drewN | apply below_drew1) | exact HB.out))) : w.heap.size ≤ gb258)); have n3_ := Aside0.mk ((by rw [hg]; exact (below_size (by repeat (first | (with_reducible first | exact HB.out | apply below_alloc | apply pw_below_drewN | apply below_drew1) | exact HB.out))) : w.heap.size ≤ gb258)); clear HB; have HB := n0_; have BK258 := n1_; have GW258 := n2_; have GE258 := n3_; clear n0_ n1_ n2_ n3_; clear hb hbox hg; have hcz22_0 : w21.cell? ⟨gb258, 0, none⟩ = some (.int .i64 a1_0) := (blk_cell BK258.out 0).trans rfl; have hcz22_1 : w21.cell? ⟨gb258, 1, none⟩ = some (.int .i64 a1_1) := (blk_cell BK258.out 1).trans rfl; have hcz22_2 : w21.cell? ⟨gb258, 2, none⟩ = some (.int .i64 a1_2) := (blk_cell BK258.out 2).trans rfl; have hfz22_0 := blk_frozen BK258.out 0; have hfz22_1 := blk_frozen BK258.out 1; have hfz22_2 := blk_frozen BK258.out 2))
    go_ret
    exact ⟨by first | rfl | (simp [errW_none, errW_some] <;> rfl) | (simp [*, errW_none, errW_some] <;> rfl), by repeat (first | (with_reducible first | exact HB.out | apply below_alloc | apply pw_below_drewN | apply below_drew1 | refine below_set ?_ GE258.out) | exact HB.out)⟩

/-! ### drovewayref05_List: function 30 -/
def drovewayref05_List.l0 : Nat → Int → List (S44) → Int → Option (Int)
  | 0, _, _, _ => none
  | k + 1, x0, x1, x5 => if x5 < (x1.length : Int) then (if 0 ≤ x5 then ((drovewayref05_IsTriple.f x0 ((rd_T44 x1 x5).f0) ((rd_T44 x1 x5).f1) ((rd_T44 x1 x5).f2)).bind fun t260 => (if t260 = true then (drovewayref05_List.l0 k x0 x1 (wrap64 (x5 + 1))) else (some 2))) else (none)) else (some 0)
def drovewayref05_List.f (k : Nat) (a0 : Int) (l1 : List (S44)) : Option (Int) := if (l1.length : Int) > 60 then (some 3) else (drovewayref05_List.l0 k a0 l1 0)
set_option maxHeartbeats 8000000 in
set_option maxRecDepth 100000 in
theorem drovewayref05_List.calls (k : Nat) (a0 : Int) (A1 : Option Addr) (c1 : Nat) (l1 : List (S44)) (r : Int) (w : World) (hr1 : Kd.C k44 w A1 l1.length l1) (hc1 : l1.length ≤ c1) (h : drovewayref05_List.f k a0 l1 = some r) :
    Calls Tryd.prog 30 #[.int .i64 a0, .slice A1 l1.length c1] w fun e w' => e = .returned (.int .i64 r) ∧ Below w.heap.size w w' := by
  have hu44 := Tryd.underlying44
  have HR1 := Aside0.mk hr1
  have HC1 := Aside0.mk hc1
  clear hr1 hc1
  have HB := Aside0.mk (Below.refl w.heap.size w)
  have H : (if (l1.length : Int) > 60 then (some 3) else (drovewayref05_List.l0 k a0 l1 0)) = some r := h
  clear h
  by_cases c3 : (l1.length : Int) > 60
  · rw [if_pos c3] at H
    have c3b0 : decide (60 < (l1.length : Int)) = true := decide_eq_true c3
    have c3b1 : decide (60 < l1.length) = true := decide_eq_true (by omega)
    clear c3
    obtain rfl := Option.some.inj H
    go_enter Tryd.func30, Tryd.ntmps30
    go_wp2
    go_ret
    exact ⟨by first | rfl | (simp [errW_none, errW_some] <;> rfl) | (simp [*, errW_none, errW_some] <;> rfl), by repeat (first | (with_reducible first | exact HB.out | apply below_alloc | apply pw_below_drewN | apply below_drew1) | exact HB.out)⟩
  · rw [if_neg c3] at H
    have c3b0 : decide (60 < (l1.length : Int)) = false := decide_eq_false c3
    have c3b1 : decide (60 < l1.length) = false := decide_eq_false (by omega)
    clear c3
    have H' := Aside0.mk H
    clear H
    go_enter Tryd.func30, Tryd.ntmps30
    go_wp2
    go_loopg [5] k (fun kq v5 w' => ∃ (x5_1 : Int), v5 = .int .i64 x5_1 ∧ Aside0 (drovewayref05_List.l0 kq a0 l1 x5_1 = some r) ∧ Aside0 (kq ≤ k) ∧ Aside0 (Below w.heap.size w w'))
    case atStart => exact ⟨(0), (by first | rfl | (simp; done) | (simp [*]; done)), H', ⟨Nat.le_refl _⟩, ⟨by repeat (first | (with_reducible first | exact HB.out | apply below_alloc | apply pw_below_drewN | apply below_drew1) | exact HB.out)⟩⟩
    case round =>
      clear H'
      try clear c1
      try clear p2
      try clear c3
      try clear c3b0
      try clear c3b1
      obtain ⟨x5_1, rfl, HA, HK1, HB⟩ := hrel
      cases gk with
      | zero => exact absurd HA.out (by simp [drovewayref05_List.l0])
      | succ k1 =>
        have H := HA.out
        clear HA
        simp only [drovewayref05_List.l0] at H
        by_cases c4 : x5_1 < (l1.length : Int)
        · rw [if_pos c4] at H
          have c4b0 : decide (x5_1 < (l1.length : Int)) = true := decide_eq_true c4
          clear c4
          by_cases c5 : 0 ≤ x5_1
          · rw [if_pos c5] at H
            have c5b0 : decide (0 ≤ x5_1) = true := decide_eq_true c5
            clear c5
            replace H := Option.bind_eq_some_iff.mp H
            obtain ⟨t260, A60, H⟩ := H
            replace H : (if t260 = true then (drovewayref05_List.l0 k1 a0 l1 (wrap64 (x5_1 + 1))) else (some 2)) = some r := H
            have A6 := Aside0.mk A60
            clear A60
            by_cases c7 : t260 = true
            · subst c7
              have H1 : (drovewayref05_List.l0 k1 a0 l1 (wrap64 (x5_1 + 1))) = some r := by rw [if_pos rfl] at H; exact H
              clear H
              have H := H1
              clear H1
              have H' := Aside0.mk H
              clear H
              have p259 : 0 ≤ (x5_1 : Int) := of_decide_eq_true (by first | (with_reducible assumption) | assumption)
              have q259 : x5_1 < (l1.length : Int) := of_decide_eq_true (by first | (with_reducible assumption) | assumption)
              obtain ⟨ad259, e259, hx259_0, hx259_1, hx259_2⟩ := at_T44 HR1.out x5_1 p259 q259
              cases e259
              replace hx259_0 := (HB.out.cell (World.block_lt_of_cell? w _ hx259_0)).trans hx259_0
              replace hx259_1 := (HB.out.cell (World.block_lt_of_cell? w _ hx259_1)).trans hx259_1
              replace hx259_2 := (HB.out.cell (World.block_lt_of_cell? w _ hx259_2)).trans hx259_2
              replace p259 := eq_true p259
              replace q259 := eq_true q259
              go_wp2_with (first | ((with_reducible refine gate_callee (f := 31) rfl ?_); refine goesL_ (some 20) rfl rfl Tryd.func31 (by kernel_rfl) rfl #[.int .i64 a0, .agg #[.int .i64 ((rd_T44 l1 x5_1).f0), .int .i64 ((rd_T44 l1 x5_1).f1), .int .i64 ((rd_T44 l1 x5_1).f2)]] rfl (by (try simp only [List.map_toArray, List.map_cons, List.map_nil]); first | done | rfl | (simp only [List.length_drop, List.length_take]; rfl)) ?_; (with_reducible refine (drovewayref05_IsTriple.calls a0 ((rd_T44 l1 x5_1).f0) ((rd_T44 l1 x5_1).f1) ((rd_T44 l1 x5_1).f2) true _ A6.out).mono ?_); rintro e w8 ⟨rfl, hb⟩; refine ⟨_, rfl, ?_⟩; have n0_ := Aside0.mk (below_step (by repeat (first | (with_reducible first | exact HB.out | apply below_alloc | apply pw_below_drewN | apply below_drew1) | exact HB.out)) hb); clear HB; have HB := n0_; clear n0_; (try clear hb); (try clear hb2); (try clear hk); (try clear hi)))
              go_roundg k1
              case measure => have := HK1.out; omega
              case rel => exact ⟨(wrap64 (x5_1 + 1)), (by first | rfl | (simp; done) | (simp [*]; done)), H', ⟨by have := HK1.out; omega⟩, ⟨by repeat (first | (with_reducible first | exact HB.out | apply below_alloc | apply pw_below_drewN | apply below_drew1) | exact HB.out)⟩⟩
            · replace c7 := Bool.eq_false_iff.mpr c7
              subst c7
              have H1 : (some 2) = some r := by rw [if_neg (show ¬ (false = true) by decide)] at H; exact H
              clear H
              have H := H1
              clear H1
              obtain rfl := Option.some.inj H
              have p259 : 0 ≤ (x5_1 : Int) := of_decide_eq_true (by first | (with_reducible assumption) | assumption)
              have q259 : x5_1 < (l1.length : Int) := of_decide_eq_true (by first | (with_reducible assumption) | assumption)
              obtain ⟨ad259, e259, hx259_0, hx259_1, hx259_2⟩ := at_T44 HR1.out x5_1 p259 q259
              cases e259
              replace hx259_0 := (HB.out.cell (World.block_lt_of_cell? w _ hx259_0)).trans hx259_0
              replace hx259_1 := (HB.out.cell (World.block_lt_of_cell? w _ hx259_1)).trans hx259_1
              replace hx259_2 := (HB.out.cell (World.block_lt_of_cell? w _ hx259_2)).trans hx259_2
              replace p259 := eq_true p259
              replace q259 := eq_true q259
              go_wp2_with (first | ((with_reducible refine gate_callee (f := 31) rfl ?_); refine goesL_ (some 20) rfl rfl Tryd.func31 (by kernel_rfl) rfl #[.int .i64 a0, .agg #[.int .i64 ((rd_T44 l1 x5_1).f0), .int .i64 ((rd_T44 l1 x5_1).f1), .int .i64 ((rd_T44 l1 x5_1).f2)]] rfl (by (try simp only [List.map_toArray, List.map_cons, List.map_nil]); first | done | rfl | (simp only [List.length_drop, List.length_take]; rfl)) ?_; (with_reducible refine (drovewayref05_IsTriple.calls a0 ((rd_T44 l1 x5_1).f0) ((rd_T44 l1 x5_1).f1) ((rd_T44 l1 x5_1).f2) false _ A6.out).mono ?_); rintro e w9 ⟨rfl, hb⟩; refine ⟨_, rfl, ?_⟩; have n0_ := Aside0.mk (below_step (by repeat (first | (with_reducible first | exact HB.out | apply below_alloc | apply pw_below_drewN | apply below_drew1) | exact HB.out)) hb); clear HB; have HB := n0_; clear n0_; (try clear hb); (try clear hb2); (try clear hk); (try clear hi)))
              go_ret
              exact ⟨by first | rfl | (simp [errW_none, errW_some] <;> rfl) | (simp [*, errW_none, errW_some] <;> rfl), by repeat (first | (with_reducible first | exact HB.out | apply below_alloc | apply pw_below_drewN | apply below_drew1) | exact HB.out)⟩
          · rw [if_neg c5] at H
            exact absurd H (by simp)
        · rw [if_neg c4] at H
          have c4b0 : decide (x5_1 < (l1.length : Int)) = false := decide_eq_false c4
          clear c4
          obtain rfl := Option.some.inj H
          go_wp2
          go_ret
          exact ⟨by first | rfl | (simp [errW_none, errW_some] <;> rfl) | (simp [*, errW_none, errW_some] <;> rfl), by repeat (first | (with_reducible first | exact HB.out | apply below_alloc | apply pw_below_drewN | apply below_drew1) | exact HB.out)⟩

/-! ### drovewayref05_given: function 45 -/
def drovewayref05_given.f (k : Nat) (a0 : Int) (l1 : List (S44)) : Option (Int) := if a0 < 1 then (some 2) else (if a0 > 8 then (some 2) else ((drovewayref05_List.f k a0 l1).bind fun t256 => (some t256)))
end
end Go.Proofs.YtdbbcngmnpejnaaDoor.B

/- few, same, IsTriple, List, given: what they answer, plain. -/
namespace Go.Proofs.YtdbbcngmnpejnaaDoor.B
open Go.Proofs.YtdbbcngmnpejnaaDoor.A
open Go.RowKit Go.Proofs.YtdbbcngmnpejnaaDoorW.PrintWords Go.Proofs.YtdbbcngmnpejnaaDoorW.PrintMore
theorem s44_ext {a b : S44} : a = b ↔ a.f0 = b.f0 ∧ a.f1 = b.f1 ∧ a.f2 = b.f2 := by
  obtain ⟨a0, a1, a2⟩ := a
  obtain ⟨b0, b1, b2⟩ := b
  simp
instance : DecidableEq S44 := fun _ _ => decidable_of_iff _ s44_ext.symm
theorem triple_some (n : Int) (t : S44) : drovewayref05_IsTriple.f n t.f0 t.f1 t.f2 = some (okTri n t) := by
  unfold drovewayref05_IsTriple.f okTri
  by_cases h1 : 0 ≤ t.f0
  · rw [if_pos h1, decide_eq_true h1]
    by_cases h2 : t.f0 < t.f1
    · rw [if_pos h2, decide_eq_true h2]
      by_cases h3 : t.f1 < n
      · rw [if_pos h3, decide_eq_true h3]
        by_cases h4 : 0 ≤ t.f2
        · rw [if_pos h4, decide_eq_true h4]
          by_cases h5 : t.f2 < n
          · rw [if_pos h5, decide_eq_true h5]
            by_cases h6 : t.f2 = t.f0
            · rw [if_pos h6, decide_eq_false (show ¬ t.f2 ≠ t.f0 from fun h => h h6)]; rfl
            · rw [if_neg h6, decide_eq_true (show t.f2 ≠ t.f0 from h6)]
              by_cases h7 : t.f2 = t.f1
              · rw [decide_eq_false (show ¬ t.f2 ≠ t.f1 from fun h => h h7), bne_eq_false_iff_eq.mpr h7]; rfl
              · rw [decide_eq_true (show t.f2 ≠ t.f1 from h7), bne_iff_ne.mpr h7]; rfl
          · rw [if_neg h5, decide_eq_false h5]; rfl
        · rw [if_neg h4, decide_eq_false h4]; rfl
      · rw [if_neg h3, decide_eq_false h3]; rfl
    · rw [if_neg h2, decide_eq_false h2]; rfl
  · rw [if_neg h1, decide_eq_false h1]; rfl
theorem list_loop (n : Int) (l : List S44) (hl : l.length ≤ 60) : ∀ d i : Nat, i + d = l.length → drovewayref05_List.l0 (d + 1) n l (i : Int) = some (if (l.drop i).all (okTri n) = true then 0 else 2)
  | 0, i, h => by
    rw [drovewayref05_List.l0, if_neg (by omega), List.drop_of_length_le (by omega)]
    rfl
  | d + 1, i, h => by
    have hi : i < l.length := by omega
    have hw : wrap64 ((i : Int) + 1) = ((i + 1 : Nat) : Int) := by unfold wrap64; omega
    have hrd : rd_T44 l (i : Int) = l[i] := by simp only [rd_T44, Int.toNat_natCast, List.getD_eq_getElem?_getD, List.getElem?_eq_getElem hi, Option.getD_some]
    rw [drovewayref05_List.l0, if_pos (by omega), if_pos (by omega), hrd, triple_some, Option.bind_some, hw, list_loop n l hl d (i + 1) (by omega), List.drop_eq_getElem_cons hi, List.all_cons]
    cases okTri n l[i] with
    | true => rw [if_pos rfl, Bool.true_and]
    | false => rw [if_neg Bool.false_ne_true, Bool.false_and, if_neg Bool.false_ne_true]
theorem list_some (n : Int) (l : List S44) : ∃ k, drovewayref05_List.f k n l = some (listE n l) := by
  unfold drovewayref05_List.f listE
  by_cases h : 60 < l.length
  · exact ⟨0, by rw [if_pos (by omega), if_pos h]⟩
  · refine ⟨l.length + 1, ?_⟩
    rw [if_neg (by omega), if_neg h]
    have := list_loop n l (by omega) l.length 0 (by omega)
    rw [List.drop_zero] at this
    exact this
theorem List_calls (n : Int) (A : Option Addr) (c : Nat) (l : List S44) (w : World) (hr : Kd.C k44 w A l.length l) (hc : l.length ≤ c) :
    Calls Tryd.prog 30 #[.int .i64 n, .slice A l.length c] w fun e w' => e = .returned (.int .i64 (listE n l)) ∧ Below w.heap.size w w' := by
  obtain ⟨k, hk⟩ := list_some n l
  exact drovewayref05_List.calls k n A c l _ w hr hc hk
theorem same_loop (l m : List S44) (hl : l.length = m.length) (hb : l.length ≤ 9223372036854775807) : ∀ d i : Nat, i + d = l.length → drovewaylaw05_same.l0 (d + 1) l m (i : Int) = some (decide (l.drop i = m.drop i))
  | 0, i, h => by
    rw [drovewaylaw05_same.l0, if_neg (by omega), List.drop_of_length_le (by omega), List.drop_of_length_le (by omega)]
    rfl
  | d + 1, i, h => by
    have hi : i < l.length := by omega
    have hi2 : i < m.length := by omega
    have hw : wrap64 ((i : Int) + 1) = ((i + 1 : Nat) : Int) := by unfold wrap64; omega
    have hrd : rd_T44 l (i : Int) = l[i] := by simp only [rd_T44, Int.toNat_natCast, List.getD_eq_getElem?_getD, List.getElem?_eq_getElem hi, Option.getD_some]
    have hrd2 : rd_T44 m (i : Int) = m[i] := by simp only [rd_T44, Int.toNat_natCast, List.getD_eq_getElem?_getD, List.getElem?_eq_getElem hi2, Option.getD_some]
    rw [drovewaylaw05_same.l0, if_pos (by omega), if_pos (by omega), if_pos (by omega), hrd, hrd2, hw, same_loop l m hl hb d (i + 1) (by omega), List.drop_eq_getElem_cons hi, List.drop_eq_getElem_cons hi2]
    generalize l[i] = a
    generalize m[i] = b
    by_cases e : a = b
    · subst e
      rw [if_neg (by simp)]
      congr 1
      simp
    · have e2 := fun h => e (s44_ext.mpr h)
      rw [if_pos (by
        rw [Bool.or_eq_true, Bool.or_eq_true, Bool.not_eq_true', Bool.not_eq_true', Bool.not_eq_true', beq_eq_false_iff_ne, beq_eq_false_iff_ne, beq_eq_false_iff_ne]
        by_cases e3 : a.f0 = b.f0
        · by_cases e4 : a.f1 = b.f1
          · by_cases e5 : a.f2 = b.f2
            · exact absurd ⟨e3, e4, e5⟩ e2
            · exact .inr (.inr e5)
          · exact .inr (.inl e4)
        · exact .inl e3), decide_eq_false (by intro h; injection h with h1 h2; exact e h1)]
theorem same_calls (A : Option Addr) (c : Nat) (l : List S44) (A2 : Option Addr) (c2 : Nat) (m : List S44) (w : World) (hr : Kd.C k44 w A l.length l) (hc : l.length ≤ c) (hr2 : Kd.C k44 w A2 m.length m) (hc2 : m.length ≤ c2) :
    Calls Tryd.prog 23 #[.slice A l.length c, .slice A2 m.length c2] w fun e w' => e = .returned (.bool (decide (l = m))) ∧ Below w.heap.size w w' := by
  refine (drovewaylaw05_same.calls (l.length + 1) A c l A2 c2 m (decide (l = m)) w hr hc hr2 hc2 ?_).mono fun _ _ ⟨p, q⟩ => ⟨p, q.below⟩
  unfold drovewaylaw05_same.f
  by_cases h : l.length = m.length
  · have := same_loop l m h (by have := hr.2.1; omega) l.length 0 (by omega)
    rw [List.drop_zero, List.drop_zero] at this
    rw [if_pos (by omega)]
    exact this
  · rw [if_neg (by omega), decide_eq_false (fun e => h (by rw [e]))]
end Go.Proofs.YtdbbcngmnpejnaaDoor.B

/- all and Triples, walked. (Printed by gen_d21.py.) -/
namespace Go.Proofs.YtdbbcngmnpejnaaDoor.B
open Go.Proofs.YtdbbcngmnpejnaaDoor.A
open Go.RowKit Go.Proofs.YtdbbcngmnpejnaaDoorW.PrintWords Go.Proofs.YtdbbcngmnpejnaaDoorW.PrintMore
/-- All triples of n beasts. -/
def allF (n : Nat) : List S44 := (List.range n).flatMap fun a : Nat => (List.range n).flatMap fun b : Nat => (List.range n).flatMap fun c : Nat => if a < b ∧ c ≠ a ∧ c ≠ b then [⟨(a : Int), (b : Int), (c : Int)⟩] else []
theorem all_tab : ∀ n : Nat, n ≤ 8 → breed_all.f 1000 (n : Int) = some (allF n) := by decide +kernel
theorem rall_tab : ∀ n : Nat, n ≤ 8 → drovewayref05_All.f 1000 (n : Int) = some (allF n) := by decide +kernel
theorem all_len : ∀ n : Nat, n ≤ 8 → (allF n).length ≤ 168 := by decide +kernel
theorem all_calls (n : Nat) (hn : n ≤ 8) (w : World) : Calls Tryd.prog 64 #[.int .i64 (n : Int)] w fun e w' => ∃ v, e = .returned v ∧ Kd.R k44 44 w' w.heap.size (fun _ => True) v (allF n) ∧ Below w.heap.size w w' :=
  breed_all.calls 1000 (n : Int) _ w (all_tab n hn)
theorem rall_calls (n : Nat) (hn : n ≤ 8) (w : World) : Calls Tryd.prog 39 #[.int .i64 (n : Int)] w fun e w' => ∃ v, e = .returned v ∧ Kd.R k44 44 w' w.heap.size (fun _ => True) v (allF n) ∧ Below w.heap.size w w' :=
  drovewayref05_All.calls 1000 (n : Int) _ w (rall_tab n hn)
theorem all_mem {n : Nat} {x : S44} : x ∈ allF n ↔ okTri (n : Int) x = true := by
  unfold allF okTri
  simp only [List.mem_flatMap, List.mem_range, Bool.and_eq_true, decide_eq_true_iff]
  constructor
  · rintro ⟨a, ha, b, hb, c, hc, h⟩
    by_cases e : a < b ∧ c ≠ a ∧ c ≠ b
    · rw [if_pos e, List.mem_singleton] at h
      subst h
      dsimp only
      omega
    · rw [if_neg e] at h; cases h
  · intro h
    obtain ⟨x0, x1, x2⟩ := x
    dsimp only at h
    refine ⟨x0.toNat, by omega, x1.toNat, by omega, x2.toNat, by omega, ?_⟩
    rw [if_pos (by omega), List.mem_singleton]
    congr 1 <;> omega

set_option maxRecDepth 100000 in
set_option maxHeartbeats 4000000 in
theorem delete_any {v : Value} {xs : List S44} {w0 w : World} (g : Nat) (lb : Array Value) (p : S44 → Bool) (eg : ∀ args w, (callFunc g args).run Tryd.prog w = .ok (.enter g args) w)
    (h : Kd.R k44 44 w w0.heap.size (fun _ => True) v xs) (hl : xs.length ≤ 1000) (hb : Below w0.heap.size w0 w) (hp : PredW g lb p xs w0) :
    Calls Tryd.prog 63 #[v, .func (.func g) #[] lb] w fun e w' => ∃ v', e = .returned v' ∧ Kd.R k44 44 w' w0.heap.size (fun _ => True) v' (xs.filter fun x => !p x) ∧ Below w0.heap.size w0 w' := by
  by_cases h0 : 0 < xs.length
  · obtain ⟨bk, cap, rfl, _⟩ := Kd.R_form h h0
    refine (DeleteFunc_tri bk cap g lb p eg xs w0 w h hl hb (Kd.R_base h bk rfl) hp).mono ?_
    rintro e w' ⟨rfl, h1, h2⟩
    exact ⟨_, rfl, h1, h2⟩
  · have hnil : xs = [] := List.length_eq_zero_iff.1 (by omega)
    subst hnil
    obtain ⟨A, c, rfl, _, hC⟩ := Kd.R_reads h
    have HI : Aside0 (Calls Tryd.prog 75 #[.slice A 0 c, .func (.func g) #[] lb] w fun e w' => e = .returned (.int .i64 (-1)) ∧ Below w.heap.size w w') := ⟨by
      refine (IndexFunc_tri g lb p eg A 0 c [] w hC (hp.pred hb)).mono ?_
      rintro e w' ⟨⟨i, rfl, ⟨hi⟩⟩, hb⟩
      rcases hi with ⟨rfl, _⟩ | ⟨k, _, hk, _, _⟩
      · exact ⟨rfl, hb⟩
      · exact absurd hk (Nat.not_lt_zero _)⟩
    have H := Aside0.mk h
    have HB := Aside0.mk hb
    clear h hl hb hp hC h0
    show Calls Tryd.prog 63 #[.slice A 0 c, .func (.func g) #[] lb] w _
    go_enter Tryd.func63, Tryd.ntmps63
    go_wp2_with (go_at_call 75; refine HI.out.mono ?_; rintro e w1 ⟨rfl, hb1⟩; have HB1 := Aside0.mk hb1; clear hb1)
    go_ret
    exact ⟨_, rfl, Kd.R_below H.out HB1.out, below_then HB.out HB.out.size HB1.out⟩

/-! ### Triples -/
def RowT (Z : List S44 × Int) (W : World) (e : Ending) (w' : World) : Prop := ∃ v, e = .returned (.tuple #[v, .int .i64 Z.2]) ∧ Kd.R k44 44 w' W.heap.size (fun _ => True) v Z.1 ∧ Below W.heap.size W w'
end Go.Proofs.YtdbbcngmnpejnaaDoor.B
