/- Triples as they lie in memory. -/
import Derived.Test.YtdbbcngmnpejnaaDoorZCl0
import Derived.Test.YtdbbcngmnpejnaaDoorProg
import Derived.Below
import Derived.Deep.Draws
import Derived.Deep.AppendLies
import Derived.Maps.AppendAt
import Derived.OwnWalk
import Derived.Laws.BytesArg
import Derived.Laws.MakeOwn
import Derived.Laws.OwnMore
import Derived.Deep.OwnRows
import Derived.Tactics
import Derived.Lib.ConvBytes
import Derived.Laws.Slices
import Derived.WalkKit
import Derived.KernelRfl
import Derived.RowKit3
import Derived.Deep.LoopGhost
import Derived.Deep.QuietTactic
import Derived.BigQuiet
import Derived.WideLaws
import Derived.Deep.DeepCutAuto
import Derived.Deep.CutBlock
import Derived.Deep.RegionHeld3
import Derived.Laws.Rows
import Derived.Lib.AppendStr
import Derived.ArgAppend
import Derived.Laws.IdiomCopy
import Derived.OrdersHeld
import Derived.Laws.BitsLemmas
import Derived.RowKit
import Derived.Test.YtdbbcngmnpejnaaDoorWWords
import Derived.Test.YtdbbcngmnpejnaaDoorWLast
import Derived.Test.YtdbbcngmnpejnaaDoorWTab
import Derived.Test.YtdbbcngmnpejnaaDoorWRepsOne
import Derived.Test.YtdbbcngmnpejnaaDoorWGuard
import Derived.Shelf.Strings.Builder1
import Derived.Shelf.Strings.Builder2
import Derived.Shelf.Strings.OnBuilder
import Derived.Shelf.Small.Bits
import Derived.Shelf.Small.Wraps
import Derived.Shelf.Strings.BuilderF
import Derived.Shelf.Strings.BuilderK
import Derived.Shelf.Strings.Builder2Cap
import Derived.Shelf.Strconv.Itoa0
import Derived.Shelf.Strconv.Itoa1
import Derived.Shelf.LaysM
import Derived.Shelf.Strconv.Itoa2
import Derived.Shelf.Strconv.Itoa3
import Derived.Shelf.Sort.Plain
import Derived.Ground.Names2Prog
import Derived.Shelf.Slices.SearchI
import Derived.Shelf.Slices.In.SortNone
import Derived.Ground.SlsfProg
import Derived.Shelf.SlSortCmp.Insertion
import Derived.Shelf.SlSortCmp.SiftDown1
import Derived.Shelf.SlSortCmp.HeapSort1
import Derived.Shelf.SlSortCmp.Insertion1
import Derived.Shelf.SlSortCmp.Median1
import Derived.Shelf.SlSortCmp.Pivot1
import Derived.Shelf.SlSortCmp.ReverseRange1
import Derived.Shelf.SlSortCmp.PartialInsertion1
import Derived.Shelf.SlSortCmp.PartitionEqual1
import Derived.Shelf.SlSortCmp.Partition1
import Derived.Shelf.SlSortCmp.Pdq1
import Derived.Shelf.SlSortCmp.Whole1
import Derived.Shelf.SlSortCmp.NoneTotal
import Derived.Outline
import Derived.Shelf.Abstract
import Derived.WalkSpells
import Derived.Lib.SliceRun
import Derived.Sort.OwnSortedInts
import Derived.Lib.Join
import Derived.Lib.IndexBytes
/- Triples as they lie in memory. -/
namespace Go.Proofs.YtdbbcngmnpejnaaDoor.A
open Go.RowKit Go.Proofs.YtdbbcngmnpejnaaDoorW.PrintWords Go.Proofs.YtdbbcngmnpejnaaDoorW.PrintLast Go.Proofs.YtdbbcngmnpejnaaDoorW.PrintMore
section
attribute [local go_sem] max2_int min2_int max_two min_two max_three min_three max_four min_four   -- for this text's walks alone
set_option linter.unusedVariables false
set_option linter.unusedSimpArgs false
def errW : Option Int → Value
  | none => .nilIface
  | some c => .iface 0 (.int .i64 c)
theorem errW_none : errW none = .nilIface := rfl
theorem errW_some (c : Int) : errW (some c) = .iface 0 (.int .i64 c) := rfl

theorem info3 : (Tryd.prog.info? 3).map (fun i => (i.zero, i.size, i.bytes)) = some (some (.int .i64 0), 1, 8) := by kernel_rfl
/-! #### struct type 44 -/
structure S44 where
  f0 : Int
  f1 : Int
  f2 : Int
def z44 : S44 := ⟨(0 : Int), (0 : Int), (0 : Int)⟩
def k44 : Kd S44 := Kd.iso (Kd.pair (Kd.int .i64) (Kd.pair (Kd.int .i64) (Kd.int .i64))) (fun x : S44 => (x.f0, x.f1, x.f2))
theorem k44_open {w : World} {x : S44} {cs : List Value} (h : k44.K w x cs) : cs = [.int .i64 x.f0, .int .i64 x.f1, .int .i64 x.f2] := by
  obtain ⟨_, _, rfl, rfl, ⟨_, _, rfl, rfl, rfl⟩⟩ := h
  exact rfl
theorem k44_openM {w : World} {base : Nat} {ok : Nat → Prop} {x : S44} {cs : List Value} (h : k44.M w base ok x cs) : cs = [.int .i64 x.f0, .int .i64 x.f1, .int .i64 x.f2] := by
  obtain ⟨_, _, rfl, rfl, ⟨_, _, rfl, rfl, rfl⟩⟩ := h
  exact rfl
theorem k44_mk (w : World) (x : S44)  : k44.K w x [.int .i64 x.f0, .int .i64 x.f1, .int .i64 x.f2] := ⟨[.int .i64 x.f0], [.int .i64 x.f1, .int .i64 x.f2], rfl, rfl, ⟨[.int .i64 x.f1], [.int .i64 x.f2], rfl, rfl, rfl⟩⟩
theorem k44_mkM (w : World) (base : Nat) (ok : Nat → Prop) (x : S44)  : k44.M w base ok x [.int .i64 x.f0, .int .i64 x.f1, .int .i64 x.f2] := ⟨[.int .i64 x.f0], [.int .i64 x.f1, .int .i64 x.f2], rfl, rfl, ⟨[.int .i64 x.f1], [.int .i64 x.f2], rfl, rfl, rfl⟩⟩
def rd_T44 (xs : List S44) (i : Int) : S44 := xs.getD i.toNat z44
theorem at_T44 {w : World} {A : Option Addr} {n : Nat} {xs : List S44} (h : Kd.C k44 w A n xs) (i : Int) (h0 : 0 ≤ i) (h1 : i < n) : ∃ ad , A = some ad ∧ w.cell? (ad.add (i.toNat * 3)) = some (.int .i64 (rd_T44 xs i).f0) ∧ w.cell? ⟨(ad.add (i.toNat * 3)).block, (ad.add (i.toNat * 3)).off + 1, none⟩ = some (.int .i64 (rd_T44 xs i).f1) ∧ w.cell? ⟨(ad.add (i.toNat * 3)).block, (ad.add (i.toNat * 3)).off + 2, none⟩ = some (.int .i64 (rd_T44 xs i).f2) := by
  obtain ⟨ad, c, e, _, hK, hc0⟩ := Kd.C_get h z44 i h0 h1
  have hc : ∀ j u, c[j]? = some u → w.cell? (ad.add (i.toNat * 3 + j)) = some u := hc0
  obtain rfl := k44_open hK
  exact ⟨ad, e, hc 0 _ rfl, by rw [← add_field _ _ 1 (by omega)]; exact hc 1 _ rfl, by rw [← add_field _ _ 2 (by omega)]; exact hc 2 _ rfl⟩

end
end Go.Proofs.YtdbbcngmnpejnaaDoor.A

/- The reader's take, as the kit's print writes it. -/
namespace Go.Proofs.YtdbbcngmnpejnaaDoor.B
open Go.Proofs.YtdbbcngmnpejnaaDoor.A
open Go.RowKit Go.Proofs.YtdbbcngmnpejnaaDoorW.PrintWords Go.Proofs.YtdbbcngmnpejnaaDoorW.PrintLast Go.Proofs.YtdbbcngmnpejnaaDoorW.PrintMore
section
attribute [local go_sem] max2_int min2_int max_two min_two max_three min_three max_four min_four   -- for this text's walks alone
set_option linter.unusedVariables false
set_option linter.unusedSimpArgs false
def IsS116 (w0 W : World) (g : Nat) (f0 : ByteArray) (f1 : Bool) : Prop := W.heap[g]? = some (.cells #[.string f0, .bool f1] 116 (0, 0)) ∧ w0.heap.size ≤ g
theorem IsS116.ge {w0 W : World} {g : Nat} {f0 : ByteArray} {f1 : Bool} (h : IsS116 w0 W g f0 f1) : w0.heap.size ≤ g := by
  obtain ⟨hb, hg⟩ := h
  exact hg
theorem cellS116_0 {W : World} {g : Nat} {f0 : ByteArray} {f1 : Bool} (h : W.heap[g]? = some (.cells #[.string f0, .bool f1] 116 (0, 0))) : W.cell? ⟨g, 0, none⟩ = some (.string f0) := (blk_cell h 0).trans rfl
theorem IsS116.set_0 {w0 W : World} {g : Nat} {f0 : ByteArray} {f1 : Bool} (h : IsS116 w0 W g f0 f1) (x : ByteArray) : IsS116 w0 (W.setCell ⟨g, 0, none⟩ (.string x)) g x f1 := by
  obtain ⟨hb, hg⟩ := h
  exact ⟨by simpa using blk_set hb 0 (.string x), hg⟩
theorem cellS116_1 {W : World} {g : Nat} {f0 : ByteArray} {f1 : Bool} (h : W.heap[g]? = some (.cells #[.string f0, .bool f1] 116 (0, 0))) : W.cell? ⟨g, 1, none⟩ = some (.bool f1) := (blk_cell h 1).trans rfl
theorem IsS116.set_1 {w0 W : World} {g : Nat} {f0 : ByteArray} {f1 : Bool} (h : IsS116 w0 W g f0 f1) (x : Bool) : IsS116 w0 (W.setCell ⟨g, 1, none⟩ (.bool x)) g f0 x := by
  obtain ⟨hb, hg⟩ := h
  exact ⟨by simpa using blk_set hb 1 (.bool x), hg⟩
/-! ### breed_reader_take: function 84 -/
def breed_reader_take.f (s0_0 : ByteArray) (s0_1 : Bool) : Option (Int × ByteArray × Bool) := if s0_0.toList = ([] : List UInt8) then (some (0, s0_0, false)) else (if 0 < (s0_0.size : Int) then (if 1 ≤ (s0_0.size : Int) then (some (bt s0_0 0, s0_0.extract 1 s0_0.size, s0_1)) else (none)) else (none))
set_option maxHeartbeats 8000000 in
set_option maxRecDepth 100000 in
theorem breed_reader_take.calls (g : Nat) (s0_0 : ByteArray) (s0_1 : Bool) (r1 : Int) (r2 : ByteArray) (r3 : Bool) (w0 w : World) (hI : IsS116 w0 w g s0_0 s0_1) (hB : Below w0.heap.size w0 w) (h : breed_reader_take.f s0_0 s0_1 = some (r1, r2, r3)) :
    Calls Tryd.prog 84 #[.pointer (some ⟨g, 0, none⟩)] w fun e w' => e = .returned (.int .u8 r1) ∧ IsS116 w0 w' g r2 r3 ∧ Below w0.heap.size w0 w' ∧ KeepBut w w' g none := by
  have HI0 := Aside0.mk hI
  have HK := Aside0.mk (KeepBut.refl w g none)
  have HL := Aside0.mk hB.size
  clear hI
  have HW0 := Aside0.mk hB.size
  have HB := Aside0.mk hB
  clear hB
  have H : (if s0_0.toList = ([] : List UInt8) then (some (0, s0_0, false)) else (if 0 < (s0_0.size : Int) then (if 1 ≤ (s0_0.size : Int) then (some (bt s0_0 0, s0_0.extract 1 s0_0.size, s0_1)) else (none)) else (none))) = some (r1, r2, r3) := h
  clear h
  by_cases c2 : s0_0.toList = ([] : List UInt8)
  · rw [if_pos c2] at H
    have c2b0 : (s0_0.toList == ([] : List UInt8)) = true := beq_iff_eq.mpr c2
    have c2b1 : (s0_0.toList != ([] : List UInt8)) = false := bne_eq_false_iff_eq.mpr c2
    clear c2
    simp only [Option.some.injEq, Prod.mk.injEq] at H
    obtain ⟨rfl, rfl, rfl⟩ := H
    obtain ⟨HGz3, hgz3⟩ := HI0.out
    have hcz3_0 := cellS116_0 HGz3
    have hcz3_1 := cellS116_1 HGz3
    have hfz3_0 := blk_frozen HGz3 0
    have hfz3_1 := blk_frozen HGz3 1
    clear HGz3 hgz3
    go_enter Tryd.func84, Tryd.ntmps84
    go_wp2
    go_ret
    exact ⟨by first | rfl | (simp [errW_none, errW_some] <;> rfl) | (simp [*, errW_none, errW_some] <;> rfl), by repeat (first | (with_reducible first | exact HI0.out | apply IsS116.alloc | apply IsS116.drewN | apply IsS116.drew | apply IsS116.set_0 | apply IsS116.set_1) | exact HI0.out), by repeat (first | (with_reducible first | exact HB.out | apply below_alloc | apply pw_below_drewN | apply below_drew1 | refine below_set ?_ (IsS116.ge HI0.out)) | exact HB.out), by repeat (first | (with_reducible first | exact HK.out | apply KeepBut.set_ | apply keep_drewN | apply keep_drew | apply keep_alloc) | exact HK.out)⟩
  · rw [if_neg c2] at H
    have c2b0 : (s0_0.toList == ([] : List UInt8)) = false := beq_eq_false_iff_ne.mpr c2
    have c2b1 : (s0_0.toList != ([] : List UInt8)) = true := bne_iff_ne.mpr c2
    by_cases c4 : 0 < (s0_0.size : Int)
    · rw [if_pos c4] at H
      have c4b0 : decide (0 < (s0_0.size : Int)) = true := decide_eq_true c4
      have c4b1 : decide (0 < s0_0.size) = true := decide_eq_true (by omega)
      clear c4
      by_cases c6 : 1 ≤ (s0_0.size : Int)
      · rw [if_pos c6] at H
        have c6b0 := eq_true c6
        have c6b1 : decide (1 ≤ (s0_0.size : Int)) = true := decide_eq_true c6
        clear c6
        simp only [Option.some.injEq, Prod.mk.injEq] at H
        obtain ⟨rfl, rfl, rfl⟩ := H
        obtain ⟨HGz7, hgz7⟩ := HI0.out
        have hcz7_0 := cellS116_0 HGz7
        have hcz7_1 := cellS116_1 HGz7
        have hfz7_0 := blk_frozen HGz7 0
        have hfz7_1 := blk_frozen HGz7 1
        clear HGz7 hgz7
        have p5 : 0 ≤ (0 : Int) := (by omega)
        have q5 : 0 < s0_0.size := (by have : (0 : Int) < (s0_0.size : Int) := of_decide_eq_true (by first | (with_reducible assumption) | assumption); omega)
        have hx5 : ∀ h : 0 < s0_0.size, ((s0_0[0]'h).toNat : Int) = bt s0_0 0 := bt_at s0_0 0
        clear p5
        have qi5 : (0 < (s0_0.size : Int)) = True := eq_true (of_decide_eq_true (by first | (with_reducible assumption) | assumption))
        replace q5 := eq_true q5
        go_enter Tryd.func84, Tryd.ntmps84
        go_wp2
        go_ret
        exact ⟨by first | rfl | (simp [errW_none, errW_some] <;> rfl) | (simp [*, errW_none, errW_some] <;> rfl), by repeat (first | (with_reducible first | exact HI0.out | apply IsS116.alloc | apply IsS116.drewN | apply IsS116.drew | apply IsS116.set_0 | apply IsS116.set_1) | exact HI0.out), by repeat (first | (with_reducible first | exact HB.out | apply below_alloc | apply pw_below_drewN | apply below_drew1 | refine below_set ?_ (IsS116.ge HI0.out)) | exact HB.out), by repeat (first | (with_reducible first | exact HK.out | apply KeepBut.set_ | apply keep_drewN | apply keep_drew | apply keep_alloc) | exact HK.out)⟩
      · rw [if_neg c6] at H
        exact absurd H (by simp)
    · rw [if_neg c4] at H
      exact absurd H (by simp)

end
end Go.Proofs.YtdbbcngmnpejnaaDoor.B

/- Trees of beasts, plain: their sets, the least part that has some beasts, what a tree shows. -/
namespace Go.Proofs.YtdbbcngmnpejnaaDoor.A
inductive BT where
  | leaf (i : Nat) : BT
  | node (ks : List BT) : BT
instance : Inhabited BT := ⟨.leaf 0⟩

theorem BT.ind {P : BT → Prop} (hl : ∀ i, P (.leaf i)) (hn : ∀ ks, (∀ k ∈ ks, P k) → P (.node ks)) (t : BT) : P t :=
  BT.rec (motive_1 := P) (motive_2 := fun ks => ∀ k ∈ ks, P k) hl hn (fun _ h => by cases h) (fun k ks h1 h2 x hx => by
    rcases List.mem_cons.mp hx with h | h
    · rw [h]; exact h1
    · exact h2 x h) t

/-! ### sets of beasts -/
def hasB (b s : Nat) : Bool := decide (b &&& s = b)
theorem has_iff {b s : Nat} : hasB b s = true ↔ ∀ i, b.testBit i = true → s.testBit i = true := by
  unfold hasB
  rw [decide_eq_true_iff]
  constructor
  · intro h i hi
    rw [← h, Nat.testBit_and, Bool.and_eq_true] at hi
    exact hi.2
  · intro h
    refine Nat.eq_of_testBit_eq fun i => ?_
    rw [Nat.testBit_and]
    cases e : b.testBit i with
    | false => rfl
    | true => rw [h i e]; rfl
theorem two_bit (i j : Nat) : (2 ^ i).testBit j = decide (i = j) := Nat.testBit_two_pow
theorem pair_bit (a b j : Nat) : (2 ^ a ||| 2 ^ b).testBit j = (decide (a = j) || decide (b = j)) := by rw [Nat.testBit_or, two_bit, two_bit]
theorem has_pair {a b s : Nat} : hasB (2 ^ a ||| 2 ^ b) s = true ↔ s.testBit a = true ∧ s.testBit b = true := by
  rw [has_iff]
  constructor
  · intro h
    exact ⟨h a (by rw [pair_bit]; simp), h b (by rw [pair_bit]; simp)⟩
  · rintro ⟨h1, h2⟩ i hi
    rw [pair_bit, Bool.or_eq_true, decide_eq_true_iff, decide_eq_true_iff] at hi
    rcases hi with rfl | rfl
    · exact h1
    · exact h2
theorem disj_iff {a b : Nat} : a &&& b = 0 ↔ ∀ i, a.testBit i = true → b.testBit i = false := by
  constructor
  · intro h i hi
    have := congrArg (fun x => x.testBit i) h
    simp only [Nat.testBit_and, Nat.zero_testBit, hi, Bool.true_and] at this
    exact this
  · intro h
    refine Nat.eq_of_testBit_eq fun i => ?_
    rw [Nat.testBit_and, Nat.zero_testBit]
    cases e : a.testBit i with
    | false => rfl
    | true => rw [h i e]; rfl
theorem ne_bit {s : Nat} (h : s ≠ 0) : ∃ i, s.testBit i = true := Nat.exists_testBit_of_ne_zero h
theorem bit_ne {s i : Nat} (h : s.testBit i = true) : s ≠ 0 := by intro e; rw [e, Nat.zero_testBit] at h; cases h
theorem bit_lt {s i k : Nat} (hs : s < 2 ^ k) (h : s.testBit i = true) : i < k := by
  rcases Nat.lt_or_ge i k with h2 | h2
  · exact h2
  · rw [Nat.testBit_lt_two_pow (Nat.lt_of_lt_of_le hs (Nat.pow_le_pow_right (by decide) h2))] at h; cases h

/-- The least beast of a set (of at most k). -/
def lowB (F : Nat) : Nat → Nat
  | 0 => 0
  | k + 1 => if F % 2 = 1 then 0 else 1 + lowB (F / 2) k
def low (s : Nat) : Nat := lowB s 8
theorem lowB_spec : ∀ k s, s ≠ 0 → s < 2 ^ k → s.testBit (lowB s k) = true ∧ ∀ j, j < lowB s k → s.testBit j = false
  | 0, s, h0, h => by rw [Nat.pow_zero] at h; omega
  | k + 1, s, h0, h => by
    rw [lowB]
    by_cases e : s % 2 = 1
    · rw [if_pos e]
      exact ⟨by rw [Nat.testBit_zero, decide_eq_true_iff]; exact e, fun j hj => absurd hj (Nat.not_lt_zero _)⟩
    · rw [if_neg e]
      have h2 : s / 2 ≠ 0 := by omega
      have h3 : s / 2 < 2 ^ k := by rw [Nat.pow_succ] at h; omega
      obtain ⟨a, b⟩ := lowB_spec k (s / 2) h2 h3
      refine ⟨by rw [Nat.add_comm, Nat.testBit_succ]; exact a, fun j hj => ?_⟩
      match j with
      | 0 => rw [Nat.testBit_zero, decide_eq_false_iff_not]; exact e
      | j + 1 => rw [Nat.testBit_succ]; exact b j (by omega)
theorem low_bit {s : Nat} (h0 : s ≠ 0) (h : s < 256) : s.testBit (low s) = true := (lowB_spec 8 s h0 h).1
theorem low_le {s j : Nat} (h : s < 256) (hj : s.testBit j = true) : low s ≤ j := by
  rcases Nat.lt_or_ge j (low s) with h2 | h2
  · rw [(lowB_spec 8 s (bit_ne hj) h).2 j h2] at hj; cases hj
  · exact h2
theorem low_lt {s : Nat} (h0 : s ≠ 0) (h : s < 256) : low s < 8 := bit_lt (k := 8) h (low_bit h0 h)

/-! ### trees -/
mutual
def BT.set : BT → Nat
  | .leaf i => 2 ^ i
  | .node ks => BT.sets ks
def BT.sets : List BT → Nat
  | [] => 0
  | k :: ks => k.set ||| BT.sets ks
end
mutual
def BT.common (b : Nat) : BT → Nat
  | .leaf i => 2 ^ i
  | .node ks => BT.commons b (BT.sets ks) ks
def BT.commons (b s : Nat) : List BT → Nat
  | [] => s
  | k :: ks => if hasB b k.set = true then BT.common b k else BT.commons b s ks
end
mutual
def BT.Good : BT → Prop
  | .leaf i => i < 8
  | .node ks => 2 ≤ ks.length ∧ BT.Goods ks ∧ ks.Pairwise fun a b => a.set &&& b.set = 0 ∧ low a.set < low b.set
def BT.Goods : List BT → Prop
  | [] => True
  | k :: ks => BT.Good k ∧ BT.Goods ks
end
theorem goods_iff : ∀ {ks : List BT}, BT.Goods ks ↔ ∀ k ∈ ks, k.Good
  | [] => by rw [BT.Goods]; simp
  | k :: ks => by rw [BT.Goods, goods_iff (ks := ks)]; simp
theorem sets_bit {i : Nat} : ∀ {ks : List BT}, (BT.sets ks).testBit i = true ↔ ∃ k ∈ ks, k.set.testBit i = true
  | [] => by rw [BT.sets, Nat.zero_testBit]; simp
  | k :: ks => by rw [BT.sets, Nat.testBit_or, Bool.or_eq_true, sets_bit (ks := ks)]; simp
theorem set_leaf (i : Nat) : (BT.leaf i).set = 2 ^ i := by rw [BT.set]
theorem set_node (ks : List BT) : (BT.node ks).set = BT.sets ks := by rw [BT.set]
theorem good_node {ks : List BT} : (BT.node ks).Good ↔ 2 ≤ ks.length ∧ (∀ k ∈ ks, k.Good) ∧ ks.Pairwise fun a b => a.set &&& b.set = 0 ∧ low a.set < low b.set := by rw [BT.Good, goods_iff]
theorem good_bit {t : BT} : t.Good → ∃ i, t.set.testBit i = true := by
  refine BT.ind (P := fun t => t.Good → ∃ i, t.set.testBit i = true) (fun i _ => ⟨i, by rw [set_leaf, two_bit, decide_eq_true_iff]⟩) (fun ks ih h => ?_) t
  obtain ⟨h1, h2, _⟩ := good_node.mp h
  match ks, h1, h2, ih with
  | k :: ks, _, h2, ih =>
    obtain ⟨i, hi⟩ := ih k List.mem_cons_self (h2 k List.mem_cons_self)
    exact ⟨i, by rw [set_node, sets_bit]; exact ⟨k, List.mem_cons_self, hi⟩⟩
theorem good_ne {t : BT} (h : t.Good) : t.set ≠ 0 := by obtain ⟨i, hi⟩ := good_bit h; exact bit_ne hi
theorem good_lt {t : BT} : t.Good → ∀ i, t.set.testBit i = true → i < 8 := by
  refine BT.ind (P := fun t => t.Good → ∀ i, t.set.testBit i = true → i < 8) (fun i h j hj => ?_) (fun ks ih h j hj => ?_) t
  · rw [set_leaf, two_bit, decide_eq_true_iff] at hj
    rw [BT.Good] at h
    omega
  · obtain ⟨_, h2, _⟩ := good_node.mp h
    rw [set_node, sets_bit] at hj
    obtain ⟨k, hk, hkj⟩ := hj
    exact ih k hk (h2 k hk) j hkj
theorem lt_of_bits {s k : Nat} (h : ∀ i, s.testBit i = true → i < k) : s < 2 ^ k := Nat.lt_pow_two_of_testBit s fun i hi => by
  cases e : s.testBit i with
  | false => rfl
  | true => have := h i e; omega
theorem good_256 {t : BT} (h : t.Good) : t.set < 256 := lt_of_bits (k := 8) (good_lt h)
/-- A tree of some of eight beasts (what the reader may hold, though it is no good tree). -/
def Small (t : BT) : Prop := t.set ≠ 0 ∧ t.set < 256
theorem BT.Good.small {t : BT} (h : t.Good) : Small t := ⟨good_ne h, good_256 h⟩
/-- Beasts of different parts. -/
theorem part_one {ks : List BT} (hp : ks.Pairwise fun a b => a.set &&& b.set = 0 ∧ low a.set < low b.set) {k k' : BT} (hk : k ∈ ks) (hk' : k' ∈ ks) {i : Nat} (h : k.set.testBit i = true) (h' : k'.set.testBit i = true) : k = k' := by
  induction ks with
  | nil => cases hk
  | cons x xs ih =>
    rw [List.pairwise_cons] at hp
    rcases List.mem_cons.mp hk with e | e <;> rcases List.mem_cons.mp hk' with e' | e'
    · rw [e, e']
    · subst e
      have := disj_iff.mp (hp.1 k' e').1 i h
      rw [h'] at this; cases this
    · subst e'
      have := disj_iff.mp (hp.1 k e).1 i h'
      rw [h] at this; cases this
    · exact ih hp.2 e e'
theorem commons_none {b s : Nat} : ∀ {ks : List BT}, (∀ k ∈ ks, hasB b k.set = false) → BT.commons b s ks = s
  | [], _ => by rw [BT.commons]
  | k :: ks, h => by
    rw [BT.commons, h k List.mem_cons_self, if_neg Bool.false_ne_true]
    exact commons_none fun x hx => h x (List.mem_cons_of_mem _ hx)
theorem commons_one {b s : Nat} {k : BT} : ∀ {ks : List BT}, k ∈ ks → hasB b k.set = true → (∀ k' ∈ ks, hasB b k'.set = true → k' = k) → BT.commons b s ks = BT.common b k
  | [], h, _, _ => by cases h
  | x :: xs, h, hb, h1 => by
    rw [BT.commons]
    by_cases e : hasB b x.set = true
    · rw [if_pos e, h1 x List.mem_cons_self e]
    · rw [if_neg e]
      rcases List.mem_cons.mp h with r | r
      · rw [r] at hb; exact absurd hb e
      · exact commons_one r hb fun k' hk' => h1 k' (List.mem_cons_of_mem _ hk')
/-- The part of a tree that has two of its beasts: that of its own part that has both. -/
theorem common_in {ks : List BT} (hg : (BT.node ks).Good) {k : BT} (hk : k ∈ ks) {b : Nat} (h0 : b ≠ 0) (hb : hasB b k.set = true) : BT.common b (.node ks) = BT.common b k := by
  obtain ⟨_, _, hp⟩ := good_node.mp hg
  rw [BT.common]
  refine commons_one hk hb fun k' hk' hb' => ?_
  obtain ⟨i, hi⟩ := ne_bit h0
  exact part_one hp hk' hk (has_iff.mp hb' i hi) (has_iff.mp hb i hi)
theorem common_out {ks : List BT} {b : Nat} (h : ∀ k ∈ ks, hasB b k.set = false) : BT.common b (.node ks) = BT.sets ks := by
  rw [BT.common]
  exact commons_none h
theorem common_leaf (b i : Nat) : BT.common b (.leaf i) = 2 ^ i := by rw [BT.common]
/-- What has the beasts: it lies in the tree, and has them. -/
theorem common_sub {b : Nat} {t : BT} : ∀ i, (BT.common b t).testBit i = true → t.set.testBit i = true := by
  refine BT.ind (P := fun t => ∀ i, (BT.common b t).testBit i = true → t.set.testBit i = true) (fun i j h => ?_) (fun ks ih j h => ?_) t
  · rw [common_leaf] at h; rw [set_leaf]; exact h
  · rw [set_node, sets_bit]
    rw [BT.common] at h
    have hh : ∀ l : List BT, (∀ k ∈ l, k ∈ ks) → (BT.commons b (BT.sets ks) l).testBit j = true → ∃ k ∈ ks, k.set.testBit j = true := by
      intro l
      induction l with
      | nil => intro _ h; rw [BT.commons] at h; exact sets_bit.mp h
      | cons x xs ih2 =>
        intro hl h
        rw [BT.commons] at h
        by_cases e : hasB b x.set = true
        · rw [if_pos e] at h; exact ⟨x, hl x List.mem_cons_self, ih x (hl x List.mem_cons_self) j h⟩
        · rw [if_neg e] at h; exact ih2 (fun k hk => hl k (List.mem_cons_of_mem _ hk)) h
    exact hh ks (fun _ h => h) h
/-- Does a tree show of three beasts that the first two are nearer? -/
def showsB (t : BT) (a b c : Nat) : Bool := !(BT.common (2 ^ a ||| 2 ^ b) t).testBit c
theorem pair_ne (a b : Nat) : (2 ^ a ||| 2 ^ b) ≠ 0 := bit_ne (i := a) (by rw [pair_bit]; simp)
theorem shows_in {ks : List BT} (hg : (BT.node ks).Good) {k : BT} (hk : k ∈ ks) {a b c : Nat} (ha : k.set.testBit a = true) (hb : k.set.testBit b = true) : showsB (.node ks) a b c = showsB k a b c := by
  unfold showsB
  rw [common_in hg hk (pair_ne a b) (has_pair.mpr ⟨ha, hb⟩)]
/-- Beasts that are in no part together: nothing is shown of them. -/
theorem shows_out {ks : List BT} {a b c : Nat} (h : ∀ k ∈ ks, k.set.testBit a = true → k.set.testBit b = false) (hc : (BT.node ks).set.testBit c = true) : showsB (.node ks) a b c = false := by
  unfold showsB
  rw [common_out fun k hk => ?_, ← set_node, hc]
  · rfl
  · cases e : hasB (2 ^ a ||| 2 ^ b) k.set with
    | false => rfl
    | true => obtain ⟨h1, h2⟩ := has_pair.mp e; rw [h k hk h1] at h2; cases h2
theorem shows_apart {ks : List BT} (hg : (BT.node ks).Good) {k : BT} (hk : k ∈ ks) {a b c : Nat} (ha : k.set.testBit a = true) (hb : k.set.testBit b = true) (hc : k.set.testBit c = false) : showsB (.node ks) a b c = true := by
  rw [shows_in hg hk ha hb]
  unfold showsB
  cases e : (BT.common (2 ^ a ||| 2 ^ b) k).testBit c with
  | false => rfl
  | true => rw [common_sub c e] at hc; cases hc
end Go.Proofs.YtdbbcngmnpejnaaDoor.A

/-
  DERIVED: THE SHELF's CONTRACTS AT THIS DUMP, IN PLAIN WORDS (tools/lay-plain.mjs out of 'TrydShelf.lean', which tools/lay-shelf.mjs wrote): THE SAME DECLARATIONS UNDER THE SAME NAMES: 'import', 'namespace', 'open', 'def', 'theorem' AND NOTHING ELSE: no command of the shelf's: FOR A HAND-IN. Each laying: the table of numbers ('.._ren') and one theorem, a field a fact of the dump's own or the kernel's comparison; each contract: ONE APPLICATION.
-/
namespace Go.Proofs
open Go.Shelf
def Tryd.lays156_ren : Go.Shelf.Ren := ⟨fun | 156 => 147 | 165 => 148 | 166 => 149 | 169 => 150 | 240 => 151 | 241 => 152 | 276 => 153 | 277 => 154 | n => n, fun | 31 => 56 | 9 => 9 | 3 => 3 | 4 => 4 | 0 => 0 | 20 => 20 | 72 => 180 | 76 => 184 | 70 => 178 | 37 => 64 | 75 => 183 | 127 => 163 | 164 => 186 | 5 => 5 | 80 => 71 | n => n, fun | n => n⟩
theorem Tryd.lays156 : Go.Proofs.Lays.n156 Tryd.prog Tryd.lays156_ren := {
  mixed := by kernel_rfl
  f156 := Tryd.func147.trans (congrArg some (by kernel_rfl))
  f165 := Tryd.func148.trans (congrArg some (by kernel_rfl))
  f166 := Tryd.func149.trans (congrArg some (by kernel_rfl))
  f169 := Tryd.func150.trans (congrArg some (by kernel_rfl))
  f240 := Tryd.func151.trans (congrArg some (by kernel_rfl))
  f241 := Tryd.func152.trans (congrArg some (by kernel_rfl))
  f276 := Tryd.func153.trans (congrArg some (by kernel_rfl))
  f277 := Tryd.func154.trans (congrArg some (by kernel_rfl))
  t0 := Tryd.underlying0
  a0 := Tryd.isAgg0
  z0 := Tryd.sizeOf0
  v0 := Tryd.zeroValue0
  t3 := Tryd.underlying3
  a3 := Tryd.isAgg3
  z3 := Tryd.sizeOf3
  v3 := Tryd.zeroValue3
  t4 := Tryd.underlying4
  a4 := Tryd.isAgg4
  z4 := Tryd.sizeOf4
  v4 := Tryd.zeroValue4
  t9 := Tryd.underlying9
  a9 := Tryd.isAgg9
  z9 := Tryd.sizeOf9
  v9 := Tryd.zeroValue9
  t20 := Tryd.underlying20
  a20 := Tryd.isAgg20
  z20 := Tryd.sizeOf20
  v20 := Tryd.zeroValue20
  t31 := Tryd.underlying56
  a31 := Tryd.isAgg56
  z31 := Tryd.sizeOf56
  v31 := Tryd.zeroValue56
  t37 := Tryd.underlying64
  a37 := Tryd.isAgg64
  z37 := Tryd.sizeOf64
  v37 := Tryd.zeroValue64
  t70 := Tryd.underlying178
  a70 := Tryd.isAgg178
  z70 := Tryd.sizeOf178
  v70 := Tryd.zeroValue178
  t72 := Tryd.underlying180
  a72 := Tryd.isAgg180
  z72 := Tryd.sizeOf180
  v72 := Tryd.zeroValue180
  t75 := Tryd.underlying183
  a75 := Tryd.isAgg183
  z75 := Tryd.sizeOf183
  v75 := Tryd.zeroValue183
  t76 := Tryd.underlying184
  a76 := Tryd.isAgg184
  z76 := Tryd.sizeOf184
  v76 := Tryd.zeroValue184
  t127 := Tryd.underlying163
  a127 := Tryd.isAgg163
  z127 := Tryd.sizeOf163
  v127 := Tryd.zeroValue163
  t164 := Tryd.underlying186
  a164 := Tryd.isAgg186
  z164 := Tryd.sizeOf186
  v164 := Tryd.zeroValue186 }
theorem Tryd.Builder_Extra_156 : Builder.Extra Tryd.prog Tryd.lays156_ren := {
  sizeBuilder := by kernel_rfl
  liesBuilder := by kernel_rfl
  t5 := Tryd.underlying5
  a5 := Tryd.isAgg5
  z5 := Tryd.sizeOf5
  v5 := Tryd.zeroValue5
  infoByte := by kernel_rfl
  cellsByte := by kernel_rfl
  sizeByte := by kernel_rfl
  neB5 := by decide }
open Go.RowKit in
/-- strings.Join: "Join concatenates the elements of its first argument to create a single string. The separator string sep is placed between elements in the resulting string.": HOWEVER MANY ELEMENTS. Below the heap's end the world is as it was. (LAID: no walk: one application.) -/
theorem Tryd.strings_Join (bk o c : Nat) (xs : List ByteArray) (sep : ByteArray) (w : World) (hcells : ∀ (j : Nat) x, xs[j]? = some x → w.cell? ⟨bk, o + j, none⟩ = some (.string x)) (hbk : bk < w.heap.size) (hN : xs.length ≤ 140737488355328) (hcap : xs.length ≤ c) (hlen : (Lib.join (xs.map (·.data.toList)) sep.data.toList).length ≤ 140737488355328) :
    Calls Tryd.prog 147 #[.slice (some ⟨bk, o, none⟩) xs.length c, .string sep] w fun e w' => e = .returned (.string ⟨(Lib.join (xs.map (·.data.toList)) sep.data.toList).toArray⟩) ∧ Below w.heap.size w w' := Any.strings_Join Tryd.lays156 Tryd.Builder_Extra_156 bk o c xs sep w hcells hbk hN hcap hlen
def Tryd.lays171_ren : Go.Shelf.Ren := ⟨fun | 171 => 136 | 243 => 137 | 246 => 138 | 283 => 139 | 284 => 140 | 285 => 141 | 286 => 142 | 129 => 97 | 317 => 143 | 318 => 144 | 319 => 145 | 320 => 86 | 337 => 106 | 338 => 107 | n => n, fun | 3 => 3 | 9 => 9 | 2 => 2 | 4 => 4 | 171 => 170 | 0 => 0 | 53 => 107 | 37 => 64 | 5 => 5 | 173 => 172 | 212 => 175 | 51 => 105 | 20 => 20 | 213 => 176 | 46 => 75 | 232 => 149 | 233 => 150 | n => n, fun | 17 => 2 | 18 => 0 | 19 => 1 | n => n⟩
theorem Tryd.lays171 : Go.Proofs.Lays.n171 Tryd.prog Tryd.lays171_ren := {
  mixed := by kernel_rfl
  f129 := Tryd.func97.trans (congrArg some (by kernel_rfl))
  f171 := Tryd.func136.trans (congrArg some (by kernel_rfl))
  f243 := Tryd.func137.trans (congrArg some (by kernel_rfl))
  f246 := Tryd.func138.trans (congrArg some (by kernel_rfl))
  f283 := Tryd.func139.trans (congrArg some (by kernel_rfl))
  f284 := Tryd.func140.trans (congrArg some (by kernel_rfl))
  f285 := Tryd.func141.trans (congrArg some (by kernel_rfl))
  f286 := Tryd.func142.trans (congrArg some (by kernel_rfl))
  f317 := Tryd.func143.trans (congrArg some (by kernel_rfl))
  f318 := Tryd.func144.trans (congrArg some (by kernel_rfl))
  f319 := Tryd.func145.trans (congrArg some (by kernel_rfl))
  f320 := Tryd.func86.trans (congrArg some (by kernel_rfl))
  f337 := Tryd.func106.trans (congrArg some (by kernel_rfl))
  f338 := Tryd.func107.trans (congrArg some (by kernel_rfl))
  t0 := Tryd.underlying0
  a0 := Tryd.isAgg0
  z0 := Tryd.sizeOf0
  v0 := Tryd.zeroValue0
  t2 := Tryd.underlying2
  a2 := Tryd.isAgg2
  z2 := Tryd.sizeOf2
  v2 := Tryd.zeroValue2
  t3 := Tryd.underlying3
  a3 := Tryd.isAgg3
  z3 := Tryd.sizeOf3
  v3 := Tryd.zeroValue3
  t4 := Tryd.underlying4
  a4 := Tryd.isAgg4
  z4 := Tryd.sizeOf4
  v4 := Tryd.zeroValue4
  t5 := Tryd.underlying5
  a5 := Tryd.isAgg5
  z5 := Tryd.sizeOf5
  v5 := Tryd.zeroValue5
  t9 := Tryd.underlying9
  a9 := Tryd.isAgg9
  z9 := Tryd.sizeOf9
  v9 := Tryd.zeroValue9
  t20 := Tryd.underlying20
  a20 := Tryd.isAgg20
  z20 := Tryd.sizeOf20
  v20 := Tryd.zeroValue20
  t37 := Tryd.underlying64
  a37 := Tryd.isAgg64
  z37 := Tryd.sizeOf64
  v37 := Tryd.zeroValue64
  t46 := Tryd.underlying75
  a46 := Tryd.isAgg75
  z46 := Tryd.sizeOf75
  v46 := Tryd.zeroValue75
  t51 := Tryd.underlying105
  a51 := Tryd.isAgg105
  z51 := Tryd.sizeOf105
  v51 := Tryd.zeroValue105
  t53 := Tryd.underlying107
  a53 := Tryd.isAgg107
  z53 := Tryd.sizeOf107
  v53 := Tryd.zeroValue107
  t171 := Tryd.underlying170
  a171 := Tryd.isAgg170
  z171 := Tryd.sizeOf170
  v171 := Tryd.zeroValue170
  t173 := Tryd.underlying172
  a173 := Tryd.isAgg172
  z173 := Tryd.sizeOf172
  v173 := Tryd.zeroValue172
  t212 := Tryd.underlying175
  a212 := Tryd.isAgg175
  z212 := Tryd.sizeOf175
  v212 := Tryd.zeroValue175
  t213 := Tryd.underlying176
  a213 := Tryd.isAgg176
  z213 := Tryd.sizeOf176
  t232 := Tryd.underlying149
  a232 := Tryd.isAgg149
  z232 := Tryd.sizeOf149
  v232 := Tryd.zeroValue149
  t233 := Tryd.underlying150
  a233 := Tryd.isAgg150
  z233 := Tryd.sizeOf150
  v233 := Tryd.zeroValue150
  g17 := by kernel_rfl
  g18 := by kernel_rfl
  g19 := by kernel_rfl }
open Go.RowKit Go.Sort Go.Lib in
/-- THE ROAD WITHOUT THE TABLE: 0 <= i < 100: NO PREMISE ON THE WORLD, AND THE WORLD IS AS IT WAS: a row that keeps its argument in that range need list no table ('laid = []'). (LAID: no walk: one application.) -/
theorem Tryd.strconv_Itoa_small (i : Nat) (hi : i < 100) (w : World) :
    Calls Tryd.prog 136 #[.int .i64 i] w fun e w' => e = .returned (.string ⟨(Lib.decDigits i).toArray⟩) ∧ w' = w := Any.strconv_Itoa_small Tryd.lays171 i hi w
def Tryd.lays189_ren : Go.Shelf.Ren := ⟨fun | 189 => 74 | 125 => 83 | 257 => 82 | 128 => 96 | 129 => 97 | 294 => 87 | 295 => 88 | 296 => 89 | 297 => 90 | 298 => 91 | 299 => 92 | 216 => 93 | 300 => 94 | 301 => 95 | 328 => 108 | 329 => 109 | 330 => 110 | 331 => 111 | 332 => 112 | 215 => 113 | 343 => 117 | n => n, fun | 28 => 32 | 3 => 3 | 46 => 75 | 0 => 0 | 51 => 105 | 53 => 107 | 4 => 4 | 183 => 129 | 182 => 128 | 131 => 134 | 5 => 5 | 9 => 9 | 218 => 141 | 222 => 145 | 228 => 151 | 229 => 152 | n => n, fun | n => n⟩
theorem Tryd.lays189 : Go.Proofs.Lays.n189 Tryd.prog Tryd.lays189_ren := {
  mixed := by kernel_rfl
  f125 := Tryd.func83.trans (congrArg some (by kernel_rfl))
  f128 := Tryd.func96.trans (congrArg some (by kernel_rfl))
  f129 := Tryd.func97.trans (congrArg some (by kernel_rfl))
  f189 := Tryd.func74.trans (congrArg some (by kernel_rfl))
  f215 := Tryd.func113.trans (congrArg some (by kernel_rfl))
  f216 := Tryd.func93.trans (congrArg some (by kernel_rfl))
  f257 := Tryd.func82.trans (congrArg some (by kernel_rfl))
  f294 := Tryd.func87.trans (congrArg some (by kernel_rfl))
  f295 := Tryd.func88.trans (congrArg some (by kernel_rfl))
  f296 := Tryd.func89.trans (congrArg some (by kernel_rfl))
  f297 := Tryd.func90.trans (congrArg some (by kernel_rfl))
  f298 := Tryd.func91.trans (congrArg some (by kernel_rfl))
  f299 := Tryd.func92.trans (congrArg some (by kernel_rfl))
  f300 := Tryd.func94.trans (congrArg some (by kernel_rfl))
  f301 := Tryd.func95.trans (congrArg some (by kernel_rfl))
  f328 := Tryd.func108.trans (congrArg some (by kernel_rfl))
  f329 := Tryd.func109.trans (congrArg some (by kernel_rfl))
  f330 := Tryd.func110.trans (congrArg some (by kernel_rfl))
  f331 := Tryd.func111.trans (congrArg some (by kernel_rfl))
  f332 := Tryd.func112.trans (congrArg some (by kernel_rfl))
  f343 := Tryd.func117.trans (congrArg some (by kernel_rfl))
  t0 := Tryd.underlying0
  a0 := Tryd.isAgg0
  z0 := Tryd.sizeOf0
  v0 := Tryd.zeroValue0
  t3 := Tryd.underlying3
  a3 := Tryd.isAgg3
  z3 := Tryd.sizeOf3
  v3 := Tryd.zeroValue3
  t4 := Tryd.underlying4
  a4 := Tryd.isAgg4
  z4 := Tryd.sizeOf4
  v4 := Tryd.zeroValue4
  t5 := Tryd.underlying5
  a5 := Tryd.isAgg5
  z5 := Tryd.sizeOf5
  v5 := Tryd.zeroValue5
  t9 := Tryd.underlying9
  a9 := Tryd.isAgg9
  z9 := Tryd.sizeOf9
  v9 := Tryd.zeroValue9
  t28 := Tryd.underlying32
  a28 := Tryd.isAgg32
  z28 := Tryd.sizeOf32
  v28 := Tryd.zeroValue32
  t46 := Tryd.underlying75
  a46 := Tryd.isAgg75
  z46 := Tryd.sizeOf75
  v46 := Tryd.zeroValue75
  t51 := Tryd.underlying105
  a51 := Tryd.isAgg105
  z51 := Tryd.sizeOf105
  v51 := Tryd.zeroValue105
  t53 := Tryd.underlying107
  a53 := Tryd.isAgg107
  z53 := Tryd.sizeOf107
  v53 := Tryd.zeroValue107
  t131 := Tryd.underlying134
  a131 := Tryd.isAgg134
  z131 := Tryd.sizeOf134
  v131 := Tryd.zeroValue134
  t182 := Tryd.underlying128
  a182 := Tryd.isAgg128
  z182 := Tryd.sizeOf128
  v182 := Tryd.zeroValue128
  t183 := Tryd.underlying129
  a183 := Tryd.isAgg129
  z183 := Tryd.sizeOf129
  v183 := Tryd.zeroValue129
  t218 := Tryd.underlying141
  a218 := Tryd.isAgg141
  z218 := Tryd.sizeOf141
  v218 := Tryd.zeroValue141
  t222 := Tryd.underlying145
  a222 := Tryd.isAgg145
  z222 := Tryd.sizeOf145
  v222 := Tryd.zeroValue145
  t228 := Tryd.underlying151
  a228 := Tryd.isAgg151
  z228 := Tryd.sizeOf151
  v228 := Tryd.zeroValue151
  t229 := Tryd.underlying152
  a229 := Tryd.isAgg152
  z229 := Tryd.sizeOf152
  v229 := Tryd.zeroValue152 }
open Go.Sort Go.RowKit in
theorem Tryd.slices_Sort_int (blk off cap : Nat) (zs : List Int) (w : World) (hH : Holds (Value.int .i64) w blk off zs.toArray) (hblk : blk < w.heap.size) (hsz : zs.length < 4611686018427387904) :
    Calls Tryd.prog 74 #[.slice (some ⟨blk, off, none⟩) zs.length cap] w fun e w' =>
      e = .returned (.tuple #[]) ∧ ∃ n os, w' = grow (putRow (Value.int .i64) (Sort.ahead w n) blk off (zs.mergeSort fun x y => decide (x ≤ y)).toArray) os := Any.slices_Sort_int Tryd.lays189 blk off cap zs w hH hblk hsz
open Go.RowKit Go.Sort in
/-- .. and plain. (LAID: no walk: one application.) -/
theorem Tryd.slices_Sort_int_none (p : Option Addr) (cap : Nat) (w : World) :
    Calls Tryd.prog 74 #[.slice p 0 cap] w fun e w' => e = .returned (.tuple #[]) ∧ w' = w := Any.slices_Sort_int_none Tryd.lays189 p cap w
def Tryd.laysSlF6_f79_ren : Go.Shelf.Ren := ⟨fun | 6 => 79 | 15 => 83 | 14 => 85 | 28 => 96 | 29 => 97 | 20 => 98 | 21 => 99 | 22 => 100 | 23 => 101 | 24 => 102 | 25 => 103 | 26 => 104 | 27 => 105 | 46 => 114 | 47 => 109 | 48 => 110 | 49 => 115 | 50 => 116 | 57 => 118 | n => n, fun | 22 => 79 | 24 => 69 | 25 => 122 | 3 => 3 | 39 => 75 | 0 => 0 | 53 => 105 | 55 => 107 | 4 => 4 | 46 => 129 | 45 => 128 | 50 => 134 | 5 => 5 | 9 => 9 | 66 => 141 | 70 => 145 | 76 => 151 | 77 => 152 | n => n, fun | n => n⟩
theorem Tryd.laysSlF6_f79 : Go.Proofs.SlLaysF.n6 Tryd.prog Tryd.laysSlF6_f79_ren := {
  mixed := by kernel_rfl
  f6 := ⟨Tryd.f79.name, by decide, Tryd.func79.trans (congrArg some (by kernel_rfl))⟩
  f14 := ⟨Tryd.f85.name, by decide, Tryd.func85.trans (congrArg some (by kernel_rfl))⟩
  f15 := Tryd.func83.trans (congrArg some (by kernel_rfl))
  f20 := ⟨Tryd.f98.name, by decide, Tryd.func98.trans (congrArg some (by kernel_rfl))⟩
  f21 := ⟨Tryd.f99.name, by decide, Tryd.func99.trans (congrArg some (by kernel_rfl))⟩
  f22 := ⟨Tryd.f100.name, by decide, Tryd.func100.trans (congrArg some (by kernel_rfl))⟩
  f23 := ⟨Tryd.f101.name, by decide, Tryd.func101.trans (congrArg some (by kernel_rfl))⟩
  f24 := ⟨Tryd.f102.name, by decide, Tryd.func102.trans (congrArg some (by kernel_rfl))⟩
  f25 := ⟨Tryd.f103.name, by decide, Tryd.func103.trans (congrArg some (by kernel_rfl))⟩
  f26 := ⟨Tryd.f104.name, by decide, Tryd.func104.trans (congrArg some (by kernel_rfl))⟩
  f27 := ⟨Tryd.f105.name, by decide, Tryd.func105.trans (congrArg some (by kernel_rfl))⟩
  f28 := Tryd.func96.trans (congrArg some (by kernel_rfl))
  f29 := Tryd.func97.trans (congrArg some (by kernel_rfl))
  f46 := ⟨Tryd.f114.name, by decide, Tryd.func114.trans (congrArg some (by kernel_rfl))⟩
  f47 := Tryd.func109.trans (congrArg some (by kernel_rfl))
  f48 := Tryd.func110.trans (congrArg some (by kernel_rfl))
  f49 := ⟨Tryd.f115.name, by decide, Tryd.func115.trans (congrArg some (by kernel_rfl))⟩
  f50 := ⟨Tryd.f116.name, by decide, Tryd.func116.trans (congrArg some (by kernel_rfl))⟩
  f57 := ⟨Tryd.f118.name, by decide, Tryd.func118.trans (congrArg some (by kernel_rfl))⟩
  t0 := Tryd.underlying0
  a0 := Tryd.isAgg0
  z0 := Tryd.sizeOf0
  v0 := Tryd.zeroValue0
  t3 := Tryd.underlying3
  a3 := Tryd.isAgg3
  z3 := Tryd.sizeOf3
  v3 := Tryd.zeroValue3
  t4 := Tryd.underlying4
  a4 := Tryd.isAgg4
  z4 := Tryd.sizeOf4
  v4 := Tryd.zeroValue4
  t5 := Tryd.underlying5
  a5 := Tryd.isAgg5
  z5 := Tryd.sizeOf5
  v5 := Tryd.zeroValue5
  t9 := Tryd.underlying9
  a9 := Tryd.isAgg9
  z9 := Tryd.sizeOf9
  v9 := Tryd.zeroValue9
  t22 := Tryd.underlying79
  a22 := Tryd.isAgg79
  z22 := Tryd.sizeOf79
  v22 := Tryd.zeroValue79
  a24 := Tryd.isAgg69
  z24 := Tryd.sizeOf69
  t25 := Tryd.underlying122
  a25 := Tryd.isAgg122
  z25 := Tryd.sizeOf122
  v25 := Tryd.zeroValue122
  t39 := Tryd.underlying75
  a39 := Tryd.isAgg75
  z39 := Tryd.sizeOf75
  v39 := Tryd.zeroValue75
  t45 := Tryd.underlying128
  a45 := Tryd.isAgg128
  z45 := Tryd.sizeOf128
  v45 := Tryd.zeroValue128
  t46 := Tryd.underlying129
  a46 := Tryd.isAgg129
  z46 := Tryd.sizeOf129
  v46 := Tryd.zeroValue129
  t50 := Tryd.underlying134
  a50 := Tryd.isAgg134
  z50 := Tryd.sizeOf134
  v50 := Tryd.zeroValue134
  t53 := Tryd.underlying105
  a53 := Tryd.isAgg105
  z53 := Tryd.sizeOf105
  v53 := Tryd.zeroValue105
  t55 := Tryd.underlying107
  a55 := Tryd.isAgg107
  z55 := Tryd.sizeOf107
  v55 := Tryd.zeroValue107
  t66 := Tryd.underlying141
  a66 := Tryd.isAgg141
  z66 := Tryd.sizeOf141
  v66 := Tryd.zeroValue141
  t70 := Tryd.underlying145
  a70 := Tryd.isAgg145
  z70 := Tryd.sizeOf145
  v70 := Tryd.zeroValue145
  t76 := Tryd.underlying151
  a76 := Tryd.isAgg151
  z76 := Tryd.sizeOf151
  v76 := Tryd.zeroValue151
  t77 := Tryd.underlying152
  a77 := Tryd.isAgg152
  z77 := Tryd.sizeOf152
  v77 := Tryd.zeroValue152 }
open Go.RowKit Go.Lib Go.Sort in
/-- **slices.SortFunc, IN THE DOCUMENTATION's OWN TERMS: A PERMUTATION OF WHAT THE ROW HELD, SORTED BY 'cmp(a, b) < 0'.** Which of two equals comes first is left open ("The sort is not guaranteed to be stable"). (LAID AT THE INSTANCE 'slices.SortFunc[[]droveway/breed.tree,droveway/breed.tree]': no walk: one application.) -/
theorem Tryd.slices_SortFunc {α : Type} [Inhabited α] (enc : α → Value) (h1 : OneCell enc) (cf : α → α → Int) (hO : SWO (ltOf cf)) (g : Nat) (cb : Array Value) (blk off cap : Nat) (d : Array α) (w : World) (eg : ∀ args w, (callFunc g args).run Tryd.prog w = .ok (.enter g args) w) (hcmp : CmpLays1 Tryd.prog g cb enc cf blk off d.size w) (hH : Holds enc w blk off d) (hblk : blk < w.heap.size) (hsz : d.size < 4611686018427387904) :
    Calls Tryd.prog 79 #[.slice (some ⟨blk, off, none⟩) d.size cap, .func (.func g) #[] cb] w fun e w' =>
      e = .returned (.tuple #[]) ∧ ∃ d' n os, PermIn 0 d.size d d' ∧ SortedIn (ltOf cf) 0 d.size d' ∧ w' = sortWorld enc w blk off n d' os := Any.slices_SortFunc Tryd.laysSlF6_f79 enc h1 cf hO g cb blk off cap d w eg hcmp hH hblk hsz
end Go.Proofs

/- Small laws of the walks: a drawn region's operations, numbers, cells. -/
namespace Go.Proofs.YtdbbcngmnpejnaaDoor.A
open Go.RowKit Go.Proofs.YtdbbcngmnpejnaaDoorW.PrintWords
section
variable {P : Program} {ops : Array Oper} {Q : Exit → Act → World → Prop} {md : Region.Mode} {S : World → Prop} {oi : Oper} {fuel : Nat} {listed : Array Bool} {a : Act} {w : World}
theorem noPanic_not {Q : Exit → Act → World → Prop} {c : List PanicEntry} {a : Act} {w : World} : ¬ NoPanic Q (.panic c) a w := fun h => h

theorem H_off (i d : Nat) (ho : ops[i]? = some oi) (hd : oi.dst = some d) (hn : Region.noSelect ops = true) (hf : Region.free md ops listed i = true) (hr : (Region.ready md ops listed).contains i = true)
    (hw : Region.wanted oi (yielded ops a.tmps) = false) (hS : S w) (h : wpAnyH P md ops (NoPanic Q) S fuel (listed.setIfInBounds i true) (a.put (some d) undef) w) : wpAnyH P md ops (NoPanic Q) S (fuel + 1) listed a w :=
  wpAnyH_take ho hn hf hr (fun _ _ _ h => (noPanic_not h).elim) (Or.inr ⟨hw, rfl⟩) hS (by rw [hd]; exact h)

theorem H_on (i d : Nat) (v : Value) (ho : ops[i]? = some oi) (hd : oi.dst = some d) (hn : Region.noSelect ops = true) (hf : Region.free md ops listed i = true) (hr : (Region.ready md ops listed).contains i = true)
    (hw : Region.wanted oi (yielded ops a.tmps) = true) (hy : ∀ w, S w → (execOp a.eval oi).run P w = .ok (.value v) w) (hS : S w) (h : wpAnyH P md ops (NoPanic Q) S fuel (listed.setIfInBounds i true) (a.put (some d) v) w) : wpAnyH P md ops (NoPanic Q) S (fuel + 1) listed a w :=
  wpAnyH_take ho hn hf hr (fun _ _ _ h => (noPanic_not h).elim) (Or.inl ⟨hw, hy⟩) hS (by rw [hd]; exact h)
end
theorem getD_mem {α : Type} {l : List α} {k : Nat} (d : α) (h : k < l.length) : l.getD k d ∈ l := by
  rw [List.getD_eq_getElem?_getD, List.getElem?_eq_getElem h]; exact List.getElem_mem h

theorem cells2 {w : World} {g : Nat} {a b : Value} {t : TypeId} (h : w.heap[g]? = some (.cells #[a, b] t (0, 0))) :
    w.cell? ⟨g, 0, none⟩ = some a ∧ w.cell? ⟨g, 1, none⟩ = some b ∧ w.frozen? ⟨g, 0, none⟩ = false ∧ w.frozen? ⟨g, 1, none⟩ = false :=
  ⟨blk_cell h 0, blk_cell h 1, blk_frozen h 0, blk_frozen h 1⟩
theorem cells3 {w : World} {g : Nat} {a b d : Value} {t : TypeId} (h : w.heap[g]? = some (.cells #[a, b, d] t (0, 0))) :
    w.cell? ⟨g, 0, none⟩ = some a ∧ w.cell? ⟨g, 1, none⟩ = some b ∧ w.cell? ⟨g, 2, none⟩ = some d ∧ w.frozen? ⟨g, 0, none⟩ = false ∧ w.frozen? ⟨g, 1, none⟩ = false ∧ w.frozen? ⟨g, 2, none⟩ = false :=
  ⟨blk_cell h 0, blk_cell h 1, blk_cell h 2, blk_frozen h 0, blk_frozen h 1, blk_frozen h 2⟩
theorem wrap64_nat (n : Int) (h0 : 0 ≤ n) (h1 : n < 2 ^ 62) : IntKind.i64.wrap n = n := by
  rw [IntKind.wrap_i64]; omega
theorem or64 (a b : Nat) (ha : a < 2 ^ 62) (hb : b < 2 ^ 62) : bits .or .i64 (a : Int) (b : Int) = ((a ||| b : Nat) : Int) :=
  (bits_nat .i64 62 (by decide) wrap64_nat a b ha hb).2
theorem and64 (a b : Nat) (ha : a < 2 ^ 62) (hb : b < 2 ^ 62) : bits .and .i64 (a : Int) (b : Int) = ((a &&& b : Nat) : Int) :=
  (bits_nat .i64 62 (by decide) wrap64_nat a b ha hb).1
theorem set_drew (w : World) (p : Addr) (v : Value) : w.drew.setCell p v = (w.setCell p v).drew := by
  unfold World.setCell World.drew
  rfl
end Go.Proofs.YtdbbcngmnpejnaaDoor.A

/- Trees as they lie in memory; the least beast of a tree. -/
namespace Go.Proofs.YtdbbcngmnpejnaaDoor.A
open Go.RowKit Go.Proofs.YtdbbcngmnpejnaaDoorW.PrintWords
/-- The table of math/bits, as it lies. -/
def tab64 : List Int := [0, 1, 56, 2, 57, 49, 28, 3, 61, 58, 42, 50, 38, 29, 17, 4, 62, 47, 59, 36, 45, 43, 51, 22, 53, 39, 33, 30, 24, 18, 12, 5, 63, 55, 48, 27, 60, 41, 37, 16, 46, 35, 44, 21, 52, 32, 23, 11, 54, 26, 40, 15, 34, 20, 31, 10, 25, 14, 19, 9, 13, 8, 7, 6]
def TabAt (w : World) : Prop := ∀ j : Nat, j < 64 → w.cell? ⟨1, j, none⟩ = some (.int .u8 (tab64.getD j 0))
theorem TabAt.next {w W : World} (h : TabAt w) (hb : Below w.heap.size w W) : TabAt W := fun j hj => pw_cell_below hb (h j hj)
/-- The place in the table, as Go computes it. -/
def tzIx (F : Int) : Int := (IntKind.u64.wrap (bits .and .u64 F (IntKind.u64.wrap (-F)) * 285870213051353865)) / 288230376151711744
theorem tz_table : (List.range 256).all (fun F => F == 0 || (decide (0 ≤ tzIx F) && decide (tzIx F < 64) && decide (tab64.getD (tzIx F).toNat 0 = (low F : Int)))) = true := by decide +kernel
theorem low_le8 (s : Nat) : low s ≤ 8 := by
  have : ∀ k F, lowB F k ≤ k := fun k => by
    induction k with
    | zero => intro F; exact Nat.le_refl _
    | succ k ih => intro F; have := ih (F / 2); rw [lowB]; split <;> omega
  exact this 8 s

set_option maxRecDepth 100000 in
set_option maxHeartbeats 800000 in
theorem tz64_calls (F : Nat) (h0 : F ≠ 0) (h1 : F < 256) (w : World) (hT : TabAt w) : Calls Tryd.prog 107 #[.int .u64 F] w fun e w' => e = .returned (.int .i64 (low F)) ∧ w = w' := by
  have ht := List.all_eq_true.1 tz_table F (List.mem_range.2 h1)
  simp [h0] at ht
  obtain ⟨⟨ht0, ht1⟩, ht2⟩ := ht
  have hne : ((F : Int) == 0) = false := by rw [beq_eq_false_iff_ne]; omega
  have hc := hT (tzIx F).toNat (by omega)
  have hc2 : tab64.getD (tzIx F).toNat 0 = (low F : Int) := by simpa using ht2
  rw [hc2] at hc
  obtain ⟨Z, hZ⟩ : ∃ Z : Nat, tzIx F = Z := ⟨(tzIx F).toNat, by omega⟩
  rw [hZ] at hc ht0 ht1
  rw [Int.toNat_natCast] at hc
  unfold tzIx at hZ
  have hlow := low_le8 F
  generalize low F = b at *
  clear ht2 hT hc2
  go_enter Tryd.func107, Tryd.ntmps107
  go_wp2_with fail
  go_ret
  exact ⟨rfl, rfl⟩
set_option maxRecDepth 100000 in
set_option maxHeartbeats 800000 in
theorem tz_calls (F : Nat) (h0 : F ≠ 0) (h1 : F < 256) (w : World) (hT : TabAt w) : Calls Tryd.prog 86 #[.int .u64 F] w fun e w' => e = .returned (.int .i64 (low F)) ∧ w = w' := by
  have HT := Aside0.mk hT
  have H1 := Aside0.mk h1
  have H0 := Aside0.mk h0
  clear hT h1 h0
  go_enter Tryd.func86, Tryd.ntmps86
  go_wp2_with (go_at_call 107; refine (tz64_calls F H0.out H1.out _ HT.out).mono ?_; rintro e w1 ⟨rfl, rfl⟩)
  go_ret
  exact ⟨rfl, rfl⟩

/-! ### trees -/
mutual
/-- A value is a tree, as it lies; its rows lie in blocks of which ok holds. -/
def TrV (W : World) (ok : Nat → Prop) : Value → BT → Prop
  | v, .leaf i => v = .iface 102 (.agg #[.int .i64 ((2 ^ i : Nat) : Int)])
  | v, .node ks => ∃ b c : Nat, v = .iface 111 (.agg #[.int .i64 ((BT.sets ks : Nat) : Int), .slice (some ⟨b, 0, none⟩) ks.length c]) ∧ ks.length ≤ c ∧ (ok b ∧ b < W.heap.size) ∧ TrL W ok b 0 ks
def TrL (W : World) (ok : Nat → Prop) (b : Nat) : Nat → List BT → Prop
  | _, [] => True
  | j, k :: ks => (∃ v, W.cell? ⟨b, j, none⟩ = some v ∧ TrV W ok v k) ∧ TrL W ok b (j + 1) ks
end
variable {W W' : World} {ok ok' : Nat → Prop}
theorem trl_iff {b : Nat} : ∀ {ks : List BT} {j : Nat}, TrL W ok b j ks ↔ ∀ i k, ks[i]? = some k → ∃ v, W.cell? ⟨b, j + i, none⟩ = some v ∧ TrV W ok v k
  | [], j => by rw [TrL]; simp
  | x :: xs, j => by
    rw [TrL, trl_iff (ks := xs)]
    constructor
    · rintro ⟨h0, h1⟩ i k hi
      cases i with
      | zero => simp at hi; rw [← hi]; exact h0
      | succ i =>
        obtain ⟨v, hv, ht⟩ := h1 i k (by simpa using hi)
        exact ⟨v, by rw [← hv]; congr 2; omega, ht⟩
    · intro h
      refine ⟨by simpa using h 0 x rfl, fun i k hi => ?_⟩
      obtain ⟨v, hv, ht⟩ := h (i + 1) k (by simpa using hi)
      exact ⟨v, by rw [← hv]; congr 2; omega, ht⟩
theorem trv_leaf {v : Value} {i : Nat} : TrV W ok v (.leaf i) ↔ v = .iface 102 (.agg #[.int .i64 ((2 ^ i : Nat) : Int)]) := by rw [TrV]
theorem trv_node {v : Value} {ks : List BT} : TrV W ok v (.node ks) ↔ ∃ b c : Nat, v = .iface 111 (.agg #[.int .i64 ((BT.sets ks : Nat) : Int), .slice (some ⟨b, 0, none⟩) ks.length c]) ∧ ks.length ≤ c ∧ (ok b ∧ b < W.heap.size) ∧ ∀ i k, ks[i]? = some k → ∃ u, W.cell? ⟨b, i, none⟩ = some u ∧ TrV W ok u k := by
  rw [TrV]
  constructor
  · rintro ⟨b, c, h1, h2, h4, h3⟩
    exact ⟨b, c, h1, h2, h4, fun i k hi => by simpa using trl_iff.mp h3 i k hi⟩
  · rintro ⟨b, c, h1, h2, h4, h3⟩
    exact ⟨b, c, h1, h2, h4, trl_iff.mpr fun i k hi => by simpa using h3 i k hi⟩
/-- A tree stays one where its blocks stay. -/
theorem TrV.move (hs : W.heap.size ≤ W'.heap.size) (hb : ∀ b, ok b → b < W.heap.size → W'.heap[b]? = W.heap[b]?) (hk : ∀ b, ok b → b < W.heap.size → ok' b) {t : BT} : ∀ {v : Value}, TrV W ok v t → TrV W' ok' v t := by
  refine BT.ind (P := fun t => ∀ {v : Value}, TrV W ok v t → TrV W' ok' v t) (fun i v h => ?_) (fun ks ih v h => ?_) t
  · rw [trv_leaf] at h ⊢; exact h
  · obtain ⟨b, c, h1, h2, h4, h3⟩ := trv_node.mp h
    refine trv_node.mpr ⟨b, c, h1, h2, ⟨hk b h4.1 h4.2, Nat.lt_of_lt_of_le h4.2 hs⟩, fun i k hi => ?_⟩
    obtain ⟨u, hu, ht⟩ := h3 i k hi
    exact ⟨u, (World.cell?_of_block (hb b h4.1 h4.2)).trans hu, ih k (List.mem_of_getElem? hi) ht⟩
theorem TrV.below (hb : Below W.heap.size W W') {t : BT} {v : Value} (h : TrV W ok v t) : TrV W' ok v t := h.move hb.size (fun b _ hl => hb.block b hl) fun _ h _ => h
theorem TrV.mono (hk : ∀ b, ok b → ok' b) {t : BT} {v : Value} (h : TrV W ok v t) : TrV W ok' v t := h.move (Nat.le_refl _) (fun _ _ _ => rfl) fun b h _ => hk b h
/-- A tree is no nil; it has one of two shapes. -/
theorem TrV.shape {v : Value} {t : BT} (h : TrV W ok v t) : (∃ i, t = .leaf i ∧ v = .iface 102 (.agg #[.int .i64 ((2 ^ i : Nat) : Int)])) ∨ ∃ (ks : List BT) (b c : Nat), t = .node ks ∧ v = .iface 111 (.agg #[.int .i64 ((BT.sets ks : Nat) : Int), .slice (some ⟨b, 0, none⟩) ks.length c]) ∧ ks.length ≤ c ∧ (ok b ∧ b < W.heap.size) ∧ ∀ i k, ks[i]? = some k → ∃ u, W.cell? ⟨b, i, none⟩ = some u ∧ TrV W ok u k := by
  cases t with
  | leaf i => exact .inl ⟨i, rfl, trv_leaf.mp h⟩
  | node ks => obtain ⟨b, c, h1⟩ := trv_node.mp h; exact .inr ⟨ks, b, c, rfl, h1⟩

set_option maxRecDepth 100000 in
set_option maxHeartbeats 800000 in
theorem set_beasts (s : Int) (w : World) : Calls Tryd.prog 134 #[.int .i64 s] w fun e w' => e = .returned (.int .i64 s) ∧ w = w' := by
  go_enter Tryd.func134, Tryd.ntmps134
  go_wp2
  go_ret
  exact ⟨rfl, rfl⟩
theorem meth_leaf (s : Int) (w : World) : (method 289 102 (.agg #[.int .i64 s]) "droveway/breed.beasts").run Tryd.prog w = .ok (134, .int .i64 s) w := by kernel_rfl
theorem meth_node (s : Int) (v : Value) (w : World) : (method 289 111 (.agg #[.int .i64 s, v]) "droveway/breed.beasts").run Tryd.prog w = .ok (134, .int .i64 s) w := by kernel_rfl
set_option maxRecDepth 100000 in
set_option maxHeartbeats 800000 in
theorem first_leaf (s : Nat) (h0 : s ≠ 0) (h1 : s < 256) (w : World) (hT : TabAt w) : Calls Tryd.prog 81 #[.iface 102 (.agg #[.int .i64 (s : Int)])] w fun e w' => e = .returned (.int .i64 (low s)) ∧ w = w' := by
  have HT := Aside0.mk hT
  have H0 := Aside0.mk h0
  have H1 := Aside0.mk h1
  have hm := meth_leaf (s : Int)
  have hw : IntKind.u64.wrap (s : Int) = (s : Int) := by rw [IntKind.wrap_u64]; omega
  clear hT h0
  go_enter Tryd.func81, Tryd.ntmps81
  go_wp2_with (first
    | (go_at_call 134; go_must (refine (set_beasts _ _).mono ?_; rintro e w1 ⟨rfl, rfl⟩))
    | (go_at_call 86; go_must (refine (tz_calls s H0.out H1.out _ HT.out).mono ?_; rintro e w2 ⟨rfl, rfl⟩)))
  go_ret
  exact ⟨rfl, rfl⟩
set_option maxRecDepth 100000 in
set_option maxHeartbeats 800000 in
theorem first_node (s : Nat) (u : Value) (h0 : s ≠ 0) (h1 : s < 256) (w : World) (hT : TabAt w) : Calls Tryd.prog 81 #[.iface 111 (.agg #[.int .i64 (s : Int), u])] w fun e w' => e = .returned (.int .i64 (low s)) ∧ w = w' := by
  have HT := Aside0.mk hT
  have H0 := Aside0.mk h0
  have H1 := Aside0.mk h1
  have hm := meth_node (s : Int) u
  have hw : IntKind.u64.wrap (s : Int) = (s : Int) := by rw [IntKind.wrap_u64]; omega
  clear hT h0
  go_enter Tryd.func81, Tryd.ntmps81
  go_wp2_with (first
    | (go_at_call 134; go_must (refine (set_beasts _ _).mono ?_; rintro e w1 ⟨rfl, rfl⟩))
    | (go_at_call 86; go_must (refine (tz_calls s H0.out H1.out _ HT.out).mono ?_; rintro e w2 ⟨rfl, rfl⟩)))
  go_ret
  exact ⟨rfl, rfl⟩
theorem first_calls {t : BT} (hg : Small t) {v : Value} {w : World} (hv : TrV w ok v t) (hT : TabAt w) : Calls Tryd.prog 81 #[v] w fun e w' => e = .returned (.int .i64 (low t.set)) ∧ w = w' := by
  have h0 := hg.1
  have h1 := hg.2
  rcases hv.shape with ⟨i, rfl, rfl⟩ | ⟨ks, b, c, rfl, rfl, _⟩
  · rw [set_leaf] at h0 h1 ⊢
    exact first_leaf _ h0 h1 w hT
  · rw [set_node] at h0 h1 ⊢
    exact first_node _ _ h0 h1 w hT
set_option maxRecDepth 100000 in
set_option maxHeartbeats 800000 in
/-- The comparison by which parts are sorted. -/
theorem cmp_calls {t u : BT} (hg : Small t) (hgu : Small u) {v x : Value} {w : World} (hv : TrV w ok v t) (hx : TrV w ok' x u) (hT : TabAt w) : Calls Tryd.prog 80 #[v, x] w fun e w' => e = .returned (.int .i64 ((low t.set : Int) - (low u.set : Int))) ∧ w = w' := by
  have H1 : Aside0 (Calls Tryd.prog 81 #[v] w fun e w' => e = .returned (.int .i64 (low t.set)) ∧ w = w') := ⟨first_calls hg hv hT⟩
  have H2 : Aside0 (Calls Tryd.prog 81 #[x] w fun e w' => e = .returned (.int .i64 (low u.set)) ∧ w = w') := ⟨first_calls hgu hx hT⟩
  have a1 := low_le8 t.set
  have a2 := low_le8 u.set
  generalize low t.set = a at *
  generalize low u.set = b at *
  clear hv hx hT
  go_enter Tryd.func80, Tryd.ntmps80
  go_upto_region 1 with fail
  go_wp2_with (first
    | (go_at_call 81; refine H1.out.mono ?_; rintro e w1 ⟨rfl, rfl⟩; clear H1)
    | (go_at_call 81; refine H2.out.mono ?_; rintro e w1 ⟨rfl, rfl⟩; clear H2))
  go_ret
  exact ⟨rfl, rfl⟩
end Go.Proofs.YtdbbcngmnpejnaaDoor.A

/- Rows of trees: sorted by the least beasts; a family made of them. -/
namespace Go.Proofs.YtdbbcngmnpejnaaDoor.A
open Go.RowKit Go.Proofs.YtdbbcngmnpejnaaDoorW.PrintWords Go.Proofs.YtdbbcngmnpejnaaDoorW.PrintMore Go.Sort Go.Lib
theorem info69 : (Tryd.prog.info? 69).map (fun i => (i.zero, i.size, i.bytes)) = some (some .nilIface, 1, 16) := by kernel_rfl
/-- A tree's value, told apart by its shape. -/
inductive TV where
  | lf (s : Int) : TV
  | nd (s : Int) (b n c : Nat) : TV
def encV : TV → Value
  | .lf s => .iface 102 (.agg #[.int .i64 s])
  | .nd s b n c => .iface 111 (.agg #[.int .i64 s, .slice (some ⟨b, 0, none⟩) n c])
abbrev TT := TV × BT
instance : Inhabited TT := ⟨(.lf 0, .leaf 0)⟩
def encT (x : TT) : Value := encV x.1
theorem encT_one (x : TT) : (encT x).oneCell' = true := by obtain ⟨x, _⟩ := x; cases x <;> rfl
def kT : Kd TT := Kd.scalar encT encT_one
theorem TrV.tok {W : World} {ok : Nat → Prop} {v : Value} {t : BT} (h : TrV W ok v t) : ∃ x : TT, x.2 = t ∧ encT x = v := by
  rcases h.shape with ⟨i, rfl, rfl⟩ | ⟨ks, b, c, rfl, rfl, _⟩
  · exact ⟨(.lf _, .leaf i), rfl, rfl⟩
  · exact ⟨(.nd _ b _ c, .node ks), rfl, rfl⟩
/-- A tree that is held by its value. -/
def TOk (W : World) (ok : Nat → Prop) (x : TT) : Prop := TrV W ok (encT x) x.2 ∧ Small x.2
theorem TOk.move {W W' : World} {ok ok' : Nat → Prop} {x : TT} (h : TOk W ok x) (hs : W.heap.size ≤ W'.heap.size) (hb : ∀ b, ok b → b < W.heap.size → W'.heap[b]? = W.heap[b]?) (hk : ∀ b, ok b → b < W.heap.size → ok' b) : TOk W' ok' x := ⟨h.1.move hs hb hk, h.2⟩
theorem TOk.below {W W' : World} {ok : Nat → Prop} {x : TT} (h : TOk W ok x) (hb : Below W.heap.size W W') : TOk W' ok x := ⟨h.1.below hb, h.2⟩

theorem cells_of_R {α : Type} {enc : α → Value} {h1 : ∀ x, (enc x).oneCell' = true} {e : Nat} {W : World} {base g n cap : Nat} {ok : Nat → Prop} {xs : List α} (h : (Kd.scalar enc h1).R e W base ok (.slice (some ⟨g, 0, none⟩) n cap) xs) :
    ∃ cur : Array Value, W.heap[g]? = some (.cells cur e (0, 0)) ∧ base ≤ g ∧ xs.length ≤ cap ∧ cap ≤ maxLen ∧ cur.size = cap ∧ cur.toList.take xs.length = xs.map enc := by
  rcases (Kd.own_of_R h).2 with ⟨h0, _⟩ | ⟨g', cap', cur, hv, hg, hb, h1, h2, h3, h4⟩
  · cases h0
  · cases hv
    exact ⟨cur, hb, hg, h1, h2, by simpa using h3, by simpa [encs] using h4⟩

/-! ### a row's cells put anew -/
section
variable {α : Type} [Inhabited α] {enc : α → Value}
theorem holds_of_row {w : World} {g : Nat} {cur : Array Value} {e : TypeId} {ss : List α} (hb : w.heap[g]? = some (.cells cur e (0, 0))) (ht : cur.toList.take ss.length = ss.map enc) : Holds enc w g 0 ss.toArray := by
  intro j hj
  have hj' : j < ss.length := by simpa using hj
  refine ⟨?_, by simp [World.frozen?, hb]⟩
  have h1 : (cur.toList.take ss.length)[j]? = (ss.map enc)[j]? := by rw [ht]
  rw [List.getElem?_take_of_lt hj'] at h1
  simp only [World.cell?, hb, Nat.zero_add]
  simp only [Option.isSome_none, Bool.false_eq_true, if_false]
  rw [← Array.getElem?_toList, h1]
  simp [hj']
theorem heap_sortedR {w : World} {g n : Nat} {os : Array Obj} {cur : Array Value} {e : TypeId} {fr : Nat × Nat} (d : Array α) (hb : w.heap[g]? = some (.cells cur e fr)) :
    (sortWorld enc w g 0 n d os).heap[g]? = some (.cells (putCells enc 0 d cur) e fr) := by
  have hg : g < w.heap.size := (Array.getElem?_eq_some_iff.1 hb).1
  unfold sortWorld
  rw [heap_grow_old _ _ (by simpa using hg)]
  simp [putRow, mapBlock, Sort.ahead, Array.getElem?_modify, hb, onCells]
theorem grownBy_sortedR {w : World} {g n : Nat} {os : Array Obj} (d : Array α) : w.grownBy (sortWorld enc w g 0 n d os) (some g) := by
  unfold sortWorld
  refine ⟨rfl, rfl, rfl, by simp, fun k hk hne => ?_⟩
  rw [heap_grow_old _ _ (by simpa using hk)]
  have : g ≠ k := fun e => hne (by rw [e])
  simp [putRow, mapBlock, Sort.ahead, Array.getElem?_modify, this]
theorem take_putCellsR (cur : Array Value) (ts : List α) (h : ts.length ≤ cur.size) : (putCells enc 0 ts.toArray cur).toList.take ts.length = ts.map enc := by
  apply List.ext_getElem?
  intro j
  by_cases hj : j < ts.length
  · rw [List.getElem?_take_of_lt hj, Array.getElem?_toList]
    simp [putCells, hj, show j < cur.size by omega]
  · rw [List.getElem?_take_eq_none (by omega), List.getElem?_eq_none (by simp; omega)]
end
/-! ### the order of trees -/
theorem low_swo {α : Type} (key : α → Nat) : SWO (ltOf fun x y : α => (key x : Int) - (key y : Int)) where
  irrefl x := decide_eq_false (by show ¬ (key x : Int) - (key x : Int) < 0; omega)
  trans x y z h1 h2 := by
    unfold ltOf at *
    dsimp only at *
    rw [decide_eq_true_iff] at *
    omega
  ntrans x y z h1 h2 := by
    unfold ltOf at *
    dsimp only at *
    rw [decide_eq_false_iff_not] at *
    omega
theorem enters80 : ∀ args w, (callFunc 80 args).run Tryd.prog w = .ok (.enter 80 args) w := enters_of Tryd.func80 (by kernel_rfl) rfl
/-- slices.SortFunc by the least beasts. -/
theorem sortT_any {g cap n base : Nat} {xs : List TT} {w : World} (h : kT.R 69 w base (fun _ => True) (.slice (some ⟨g, 0, none⟩) n cap) xs) (hn : n = xs.length) (hok : ∀ x ∈ xs, TOk w (fun b => b ≠ g) x) (hT : TabAt w) (hg1 : g ≠ 1) (hl : xs.length ≤ 1000000) (h0 : 0 < xs.length) :
    Calls Tryd.prog 79 #[.slice (some ⟨g, 0, none⟩) n cap, .func (.func 80) #[] #[]] w fun e w' => e = .returned (.tuple #[]) ∧ ∃ ys : List TT, ys.Perm xs ∧ ys.Pairwise (fun x y => low x.2.set ≤ low y.2.set) ∧ kT.R 69 w' base (fun _ => True) (.slice (some ⟨g, 0, none⟩) n cap) ys ∧ w.grownBy w' (some g) := by
  subst hn
  obtain ⟨cur, hb, hbase, h1, h2, h3, h4⟩ := cells_of_R h
  have hlt : g < w.heap.size := blk_lt hb
  obtain ⟨x0, hx0⟩ : ∃ x0, x0 ∈ xs := ⟨_, List.getElem_mem h0⟩
  let α := { x : TT // x ∈ xs }
  let enc : α → Value := fun x => encT x.1
  haveI : Inhabited α := ⟨⟨x0, hx0⟩⟩
  obtain ⟨d, hd⟩ : ∃ d : List α, d.map (·.1) = xs := ⟨xs.attach, List.attach_map_subtype_val xs⟩
  have hdl : d.length = xs.length := by rw [← hd, List.length_map]
  have hmap : d.map enc = xs.map encT := by rw [← hd, List.map_map]; rfl
  have hH : Holds enc w g 0 d.toArray := holds_of_row hb (by rw [hdl, h4, hmap])
  have hcmp : CmpReads Tryd.prog 80 #[] enc (fun x y : α => (low x.1.2.set : Int) - (low y.1.2.set : Int)) g 0 d.toArray.size w := fun m os dk _ x y => by
    have hgr : w.grownBy (sortWorld enc w g 0 m dk os) (some g) := grownBy_sortedR dk
    have hmv : ∀ x : α, TOk (sortWorld enc w g 0 m dk os) (fun b => b ≠ g) x.1 := fun x =>
      (hok x.1 x.2).move hgr.size (fun b hb2 hl2 => hgr.block b hl2 (fun e => hb2 (by cases e; rfl))) fun _ h _ => h
    have hT2 : TabAt (sortWorld enc w g 0 m dk os) := fun j hj => by
      have h1' := hT j hj
      have hl1 : 1 < w.heap.size := World.block_lt_of_cell? w _ h1'
      exact (World.cell?_of_block (hgr.block 1 hl1 (fun e => hg1 (by cases e; rfl)))).trans h1'
    exact (cmp_calls (hmv x).2 (hmv y).2 (hmv x).1 (hmv y).1 hT2).mono fun e w' ⟨he, hw⟩ => ⟨he, 0, by rw [← hw]; rfl⟩
  have hcon := Tryd.slices_SortFunc enc (fun x => encT_one x.1) (fun x y : α => (low x.1.2.set : Int) - (low y.1.2.set : Int)) (low_swo fun x : α => low x.1.2.set) 80 #[] g 0 cap d.toArray w enters80 hcmp.lays hH hlt (by simp; omega)
  have hsz : d.toArray.size = xs.length := by simp [hdl]
  rw [hsz] at hcon
  refine hcon.mono ?_
  rintro e w' ⟨rfl, d', n, os, hp, hs, rfl⟩
  refine ⟨rfl, d'.toList.map (·.1), ?_, ?_, ?_, grownBy_sortedR d'⟩
  · have hp2 := hp.2.2
    have e1 : d'.extract 0 xs.length = d' := by rw [← hsz, ← hp.1]; simp
    have e2 : d.toArray.extract 0 xs.length = d.toArray := by rw [← hsz]; simp
    rw [e1, e2] at hp2
    have := hp2.map (fun x : α => x.1)
    rw [List.toList_toArray, hd] at this
    exact this
  · rw [List.pairwise_map, List.pairwise_iff_getElem]
    intro i j hi hj hij
    have hjs : j < xs.length := by rw [← hsz, ← hp.1]; simpa using hj
    have := hs i j (Nat.zero_le _) hij hjs
    rw [getElem!_pos d' i (by simpa using hi), getElem!_pos d' j (by simpa using hj)] at this
    unfold ltOf at this
    dsimp only at this
    rw [decide_eq_false_iff_not] at this
    simp only [Array.getElem_toList]
    omega
  · have hd'l : d'.toList.length = xs.length := by rw [Array.length_toList, hp.1, hsz]
    have hml : (d'.toList.map fun x : α => x.1).length = xs.length := by rw [List.length_map, hd'l]
    rw [← hml]
    refine Kd.R_of_own ?_ (fun _ _ => trivial)
    rw [hml]
    refine ⟨by simp [encs, hd'l], .inr ⟨g, cap, _, rfl, hbase, heap_sortedR d' hb, h1, h2, by simp [putCells, h3], ?_⟩⟩
    have := take_putCellsR (enc := enc) cur d'.toList (by rw [hd'l, h3]; exact h1)
    rw [hd'l] at this
    rw [Nat.mul_one]
    show (putCells enc 0 d' cur).toList.take xs.length = encs encT (d'.toList.map fun x : α => x.1)
    rw [Array.toArray_toList] at this
    rw [this, encs, List.map_map]
    rfl

/-! ### of: the tree of some trees -/
theorem sets_append : ∀ (a b : List BT), BT.sets (a ++ b) = BT.sets a ||| BT.sets b
  | [], b => by rw [List.nil_append, BT.sets, Nat.zero_or]
  | x :: a, b => by rw [List.cons_append, BT.sets, BT.sets, sets_append a b, Nat.or_assoc]
theorem sets_take {ts : List BT} {k : Nat} (h : k < ts.length) : BT.sets (ts.take (k + 1)) = BT.sets (ts.take k) ||| (ts.getD k default).set := by
  rw [List.take_add_one, sets_append, List.getElem?_eq_getElem h, List.getD_eq_getElem?_getD, List.getElem?_eq_getElem h]
  show _ ||| (_ ||| 0) = _
  rw [Nat.or_zero]
  rfl
set_option maxRecDepth 100000 in
set_option maxHeartbeats 1600000 in
theorem of_one {g cap base : Nat} {x : TT} {w : World} (h : kT.R 69 w base (fun _ => True) (.slice (some ⟨g, 0, none⟩) 1 cap) [x]) :
    Calls Tryd.prog 70 #[.slice (some ⟨g, 0, none⟩) 1 cap] w fun e w' => e = .returned (encT x) ∧ w' = w := by
  have hC := (Kd.R_reads' h).2.2
  obtain ⟨ad, had, hx0⟩ := ReadsOf.at_ (Kd.reads_of_C (d := default) hC) 0 (by decide) (by simp)
  cases had
  have hx : w.cell? ⟨g, 0, none⟩ = some (encT x) := hx0
  clear hx0 hC h
  generalize encT x = v at *
  go_enter Tryd.func70, Tryd.ntmps70
  go_wp2
  go_ret
  exact ⟨rfl, rfl⟩
/-- What a tree's value answers when it is asked for its beasts. -/
theorem TrV.ask {W : World} {ok : Nat → Prop} {v : Value} {t : BT} (h : TrV W ok v t) : ∃ (T : TypeId) (u : Value), v = .iface T u ∧ ∀ w : World, (method 289 T u "droveway/breed.beasts").run Tryd.prog w = .ok (134, .int .i64 ((t.set : Nat) : Int)) w := by
  rcases h.shape with ⟨i, rfl, rfl⟩ | ⟨ks, b, c, rfl, rfl, _⟩
  · exact ⟨_, _, rfl, fun w => by rw [set_leaf]; exact meth_leaf _ w⟩
  · exact ⟨_, _, rfl, fun w => by rw [set_node]; exact meth_node _ _ w⟩
/-- A family on its way: the sets of its first k trees are in it. -/
def FamSt (w1 : World) (g n cap : Nat) (ys : List TT) (k : Nat) (wr : World) : Prop :=
  wr.heap[w1.heap.size]? = some (.cells #[.int .i64 ((BT.sets ((ys.map (·.2)).take k) : Nat) : Int), .slice (some ⟨g, 0, none⟩) n cap] 111 (0, 0)) ∧ Below w1.heap.size w1 wr
theorem low_or {a b : Nat} (ha : a < 256) (hb : b < 256) : bits .or .i64 (a : Int) (b : Int) = ((a ||| b : Nat) : Int) := by
  exact or64 a b (by omega) (by omega)
theorem sets_lt {ts : List BT} (h : ∀ t ∈ ts, Small t) : BT.sets ts < 256 := lt_of_bits (k := 8) fun i hi => by
  obtain ⟨k, hk, hi⟩ := sets_bit.mp hi
  exact bit_lt (k := 8) (h k hk).2 hi
set_option maxRecDepth 100000 in
set_option maxHeartbeats 1600000 in
theorem of_many {g cap n base : Nat} {xs : List TT} {w : World} (h : kT.R 69 w base (fun _ => True) (.slice (some ⟨g, 0, none⟩) n cap) xs) (hn : n = xs.length) (hok : ∀ x ∈ xs, TOk w (fun b => b ≠ g) x) (hT : TabAt w) (hg1 : g ≠ 1) (hl : xs.length ≤ 1000) (h2 : 2 ≤ xs.length) :
    Calls Tryd.prog 70 #[.slice (some ⟨g, 0, none⟩) n cap] w fun e w' => ∃ ys : List TT, e = .returned (.iface 111 (.agg #[.int .i64 ((BT.sets (ys.map (·.2)) : Nat) : Int), .slice (some ⟨g, 0, none⟩) n cap])) ∧ ys.Perm xs ∧ ys.Pairwise (fun x y => low x.2.set ≤ low y.2.set) ∧ kT.R 69 w' base (fun _ => True) (.slice (some ⟨g, 0, none⟩) n cap) ys ∧ w.grownBy w' (some g) := by
  have HS := Aside0.mk (sortT_any h hn hok hT hg1 (by omega) (by omega))
  have HOK := Aside0.mk hok
  have hn1 : ((n : Int) == 1) = false := by rw [beq_eq_false_iff_ne]; omega
  have hn2 : 2 ≤ n := by omega
  have hn8 : n ≤ 1000 := by omega
  have HN := Aside0.mk hn
  clear h hok hT hn h2 hl
  go_enter Tryd.func70, Tryd.ntmps70
  go_upto_region 4 with (go_at_call 79; go_must (refine HS.out.mono ?_; rintro e w1 ⟨rfl, ys, hp, hs, hR, hg⟩; have HP := Aside0.mk hp; have HSS := Aside0.mk hs; have HR := Aside0.mk hR; have HG := Aside0.mk hg; clear hp hs hR hg))
  go_upto_region 5 with fail
  go_wp2
  have HF0 : Aside0 (FamSt w1 g n cap ys 0 (w1.alloc (.cells #[.int .i64 0, .slice (some ⟨g, 0, none⟩) n cap] 111))) := ⟨⟨by
    have := heap_alloc_new w1 (.cells #[.int .i64 0, .slice (some ⟨g, 0, none⟩) n cap] 111)
    rw [List.take_zero]
    exact this, (Below.refl _ _).alloc (Nat.le_refl _) _⟩⟩
  generalize w1.alloc (.cells #[.int .i64 0, .slice (some ⟨g, 0, none⟩) n cap] 111) = W2 at HF0 ⊢
  have hyn : ys.length = n := by rw [HP.out.length_eq, ← HN.out]
  have HY := Aside0.mk hyn
  clear hyn
  go_loopg [5, 18] n (fun gg _ v18 wr => ∃ k : Nat, k ≤ n ∧ n - k ≤ gg ∧ v18 = .int .i64 k ∧ Aside0 (FamSt w1 g n cap ys k wr))
  case atStart => exact ⟨0, Nat.zero_le _, by omega, rfl, HF0⟩
  case round =>
    clear HF0
    obtain ⟨k, hk, hgg, rfl, HF⟩ := hrel
    by_cases hkn : k < n
    · have hkz : (k : Int) < (n : Int) := by omega
      have hky : k < ys.length := by rw [HY.out]; exact hkn
      have hC := (Kd.R_reads' HR.out).2.2
      obtain ⟨ad, had, hx0⟩ := ReadsOf.at_ (Kd.reads_of_C (d := default) hC) (k : Int) (by omega) (by rw [HY.out]; omega)
      cases had
      rw [Int.toNat_natCast] at hx0
      have hrd : rdOf default ys (k : Int) = ys.getD k default := by simp [rdOf]
      rw [hrd] at hx0
      have hm : ys.getD k default ∈ ys := getD_mem default hky
      have hTO := HOK.out _ (HP.out.mem_iff.mp hm)
      have HSTEP : Aside0 (BT.sets ((ys.map (·.2)).take (k + 1)) = BT.sets ((ys.map (·.2)).take k) ||| (ys.getD k default).2.set) := ⟨by
        rw [sets_take (by rw [List.length_map]; exact hky)]
        congr 2
        rw [List.getD_eq_getElem?_getD, List.getD_eq_getElem?_getD, List.getElem?_map, List.getElem?_eq_getElem hky]
        rfl⟩
      have HSL : Aside0 (BT.sets ((ys.map (·.2)).take k) < 256) := ⟨sets_lt fun t ht => by
        obtain ⟨z, hz, rfl⟩ := List.mem_map.mp (List.mem_of_mem_take ht)
        exact (HOK.out _ (HP.out.mem_iff.mp hz)).2⟩
      clear hC hrd hm
      generalize ys.getD k default = y at hx0 hTO HSTEP
      obtain ⟨T, u, hv, hm⟩ := hTO.1.ask
      have hy8 := hTO.2.2
      have hor := low_or HSL.out hy8
      have hx1 : w1.cell? ⟨g, k, none⟩ = some (.iface T u) := by rw [← hv, ← hx0, YtdbbcngmnpejnaaDoorW.PrintWords.add_plain]
      have hglt : g < w1.heap.size := World.block_lt_of_cell? w1 _ hx1
      have hx : wr.cell? ⟨g, k, none⟩ = some (.iface T u) := (World.cell?_of_block (HF.out.2.block g hglt)).trans hx1
      clear hx0 hx1 hv hTO
      generalize hsy : ((y.2.set : Nat) : Int) = sy at hm hor
      go_wp2
      clear hx
      refine wp_region_noPanic ?_
      refine wp_region_held_drew (S := fun _ => True) (by kernel_rfl) trivial (fun hHeld => ?_)
      have hF1 : wr.drew.cell? ⟨w1.heap.size, 0, none⟩ = some (.int .i64 ((BT.sets ((ys.map (·.2)).take k) : Nat) : Int)) := (cells2 HF.out.1).1
      have hF2 : wr.drew.frozen? ⟨w1.heap.size, 0, none⟩ = false := (cells2 HF.out.1).2.2.1
      refine H_on 0 22 ?vo0 rfl rfl (by kernel_rfl) (by kernel_rfl) (by kernel_rfl) (by rfl) ?ho0 hHeld ?ro0
      case ho0 => (intro w hSw;  go_simp <;> with_reducible rfl)
      simp only [Act.put, List.setIfInBounds_toArray, List.set_cons_zero, List.set_cons_succ]
      refine H_on 2 24 ?vo2 rfl rfl (by kernel_rfl) (by kernel_rfl) (by kernel_rfl) (by rfl) ?ho2 hHeld ?ro2
      case ho2 => (intro w hSw;  go_simp <;> with_reducible rfl)
      simp only [Act.put, List.setIfInBounds_toArray, List.set_cons_zero, List.set_cons_succ]
      refine wpAnyH_ready (rs := [1, 3]) (by kernel_rfl) (by simp) ?_
      refine AllReadyH.cons rfl (fun K hK => ?_) (AllReadyH.cons rfl (fun K hK => ?_) AllReadyH.nil)
      · go_simp
        refine hK.out _ _ trivial (fun hHeld => ?_)
        clear hK K
        try simp only [Act.put, List.setIfInBounds_toArray, List.set_cons_zero, List.set_cons_succ]
        refine wpAnyH_ready (rs := [3]) (by kernel_rfl) (by simp) ?_
        refine AllReadyH.cons rfl (fun K hK => ?_) AllReadyH.nil
        go_simp
        refine (set_beasts _ _).mono ?_
        rintro e w5 ⟨rfl, rfl⟩
        go_wp2_with fail
        refine hK.out _ _ trivial (fun hHeld => ?_)
        clear hK K
        try simp only [Act.put, List.setIfInBounds_toArray, List.set_cons_zero, List.set_cons_succ]
        refine H_on 4 26 ?va4 rfl rfl (by kernel_rfl) (by kernel_rfl) (by kernel_rfl) (by rfl) ?ha4 hHeld ?ra4
        case ha4 => (intro w hSw;  go_simp <;> with_reducible rfl)
        simp only [Act.put, List.setIfInBounds_toArray, List.set_cons_zero, List.set_cons_succ]
        refine H_on 5 27 ?va5 rfl rfl (by kernel_rfl) (by kernel_rfl) (by kernel_rfl) (by rfl) ?ha5 hHeld ?ra5
        case ha5 => (intro w hSw;  go_simp <;> with_reducible rfl)
        simp only [Act.put, List.setIfInBounds_toArray, List.set_cons_zero, List.set_cons_succ]
        refine wpAnyH_ready (rs := [6]) (by kernel_rfl) (by simp) ?_
        refine AllReadyH.cons rfl (fun K hK => ?_) AllReadyH.nil
        go_simp
        refine hK _ _ trivial (fun hHeld => ?_)
        clear hK K
        try simp only [Act.put, List.setIfInBounds_toArray, List.set_cons_zero, List.set_cons_succ]
        refine wpAnyH_done (by kernel_rfl) ?_ _
        refine NoPanic.normal ?_
        have HN2 : Aside0 (FamSt w1 g n cap ys (k + 1) (wr.drew.setCell ⟨w1.heap.size, 0, none⟩ (.int .i64 ((BT.sets ((ys.map (·.2)).take k) ||| y.2.set : Nat) : Int)))) := ⟨⟨by rw [HSTEP.out]; exact blk_set HF.out.1 0 _, (below_drew HF.out.2).setCell (Nat.le_refl _) _⟩⟩
        clear hHeld
        rw [← hsy] at *
        rw [set_drew] at HN2
        generalize (wr.setCell ⟨w1.heap.size, 0, none⟩ (.int .i64 ((BT.sets ((ys.map (·.2)).take k) ||| y.2.set : Nat) : Int))).drew = w9 at HN2 ⊢
        go_wp2
        go_roundg (n - (k + 1))
        case measure => omega
        case rel => exact ⟨k + 1, by omega, by omega, by go_num, HN2⟩
      · go_simp
        refine (set_beasts _ _).mono ?_
        rintro e w5 ⟨rfl, rfl⟩
        go_wp2_with fail
        refine hK.out _ _ trivial (fun hHeld => ?_)
        clear hK K
        try simp only [Act.put, List.setIfInBounds_toArray, List.set_cons_zero, List.set_cons_succ]
        refine wpAnyH_ready (rs := [1]) (by kernel_rfl) (by simp) ?_
        refine AllReadyH.cons rfl (fun K hK => ?_) AllReadyH.nil
        go_simp
        refine hK.out _ _ trivial (fun hHeld => ?_)
        clear hK K
        try simp only [Act.put, List.setIfInBounds_toArray, List.set_cons_zero, List.set_cons_succ]
        refine H_on 4 26 ?vb4 rfl rfl (by kernel_rfl) (by kernel_rfl) (by kernel_rfl) (by rfl) ?hb4 hHeld ?rb4
        case hb4 => (intro w hSw;  go_simp <;> with_reducible rfl)
        simp only [Act.put, List.setIfInBounds_toArray, List.set_cons_zero, List.set_cons_succ]
        refine H_on 5 27 ?vb5 rfl rfl (by kernel_rfl) (by kernel_rfl) (by kernel_rfl) (by rfl) ?hb5 hHeld ?rb5
        case hb5 => (intro w hSw;  go_simp <;> with_reducible rfl)
        simp only [Act.put, List.setIfInBounds_toArray, List.set_cons_zero, List.set_cons_succ]
        refine wpAnyH_ready (rs := [6]) (by kernel_rfl) (by simp) ?_
        refine AllReadyH.cons rfl (fun K hK => ?_) AllReadyH.nil
        go_simp
        refine hK _ _ trivial (fun hHeld => ?_)
        clear hK K
        try simp only [Act.put, List.setIfInBounds_toArray, List.set_cons_zero, List.set_cons_succ]
        refine wpAnyH_done (by kernel_rfl) ?_ _
        refine NoPanic.normal ?_
        have HN2 : Aside0 (FamSt w1 g n cap ys (k + 1) (wr.drew.setCell ⟨w1.heap.size, 0, none⟩ (.int .i64 ((BT.sets ((ys.map (·.2)).take k) ||| y.2.set : Nat) : Int)))) := ⟨⟨by rw [HSTEP.out]; exact blk_set HF.out.1 0 _, (below_drew HF.out.2).setCell (Nat.le_refl _) _⟩⟩
        clear hHeld
        rw [← hsy] at *
        rw [set_drew] at HN2
        generalize (wr.setCell ⟨w1.heap.size, 0, none⟩ (.int .i64 ((BT.sets ((ys.map (·.2)).take k) ||| y.2.set : Nat) : Int))).drew = w9 at HN2 ⊢
        go_wp2
        go_roundg (n - (k + 1))
        case measure => omega
        case rel => exact ⟨k + 1, by omega, by omega, by go_num, HN2⟩
    · have hkz : ¬ (k : Int) < (n : Int) := by omega
      have hkn2 : k = n := by omega
      obtain ⟨c0, c1, _, _⟩ := cells2 HF.out.1
      go_wp2
      go_ret
      refine ⟨ys, ?_, HP.out, HSS.out, Kd.R_below HR.out HF.out.2, HG.out.trans ⟨HF.out.2.os, HF.out.2.tape, HF.out.2.output, HF.out.2.size, fun j hj _ => HF.out.2.block j hj⟩⟩
      rw [List.take_of_length_le (by rw [List.length_map, HY.out]; exact Nat.le_refl _)]
      rfl
end Go.Proofs.YtdbbcngmnpejnaaDoor.A

/- The least part of a tree that has some beasts. -/
namespace Go.Proofs.YtdbbcngmnpejnaaDoor.A
open Go.RowKit Go.Proofs.YtdbbcngmnpejnaaDoorW.PrintWords Go.Proofs.YtdbbcngmnpejnaaDoorW.PrintMore
/-- What is in a and not in b. -/
def diffN (a b : Nat) : Nat := a ^^^ (a &&& b)
theorem diff_bit (a b i : Nat) : (diffN a b).testBit i = (a.testBit i && !b.testBit i) := by
  unfold diffN
  rw [Nat.testBit_xor, Nat.testBit_and]
  cases a.testBit i <;> cases b.testBit i <;> rfl
theorem diff_le (a b : Nat) {k : Nat} (h : a < 2 ^ k) : diffN a b < 2 ^ k := lt_of_bits fun i hi => by
  rw [diff_bit, Bool.and_eq_true] at hi
  exact bit_lt h hi.1
theorem andNot64 (a b : Nat) (ha : a < 2 ^ 62) (_hb : b < 2 ^ 62) : bits .andNot .i64 (a : Int) (b : Int) = ((diffN a b : Nat) : Int) := by
  have h1 : (BitVec.ofInt 64 (a : Int) &&& ~~~BitVec.ofInt 64 (b : Int)).toNat = diffN a b := by
    refine Nat.eq_of_testBit_eq fun i => ?_
    rw [diff_bit, BitVec.testBit_toNat, BitVec.getLsbD_and, BitVec.getLsbD_not, BitVec.ofInt_natCast, BitVec.ofInt_natCast, BitVec.getLsbD_ofNat, BitVec.getLsbD_ofNat]
    by_cases hi : i < 64
    · simp [hi]
    · have : a.testBit i = false := Nat.testBit_lt_two_pow (Nat.lt_of_lt_of_le ha (Nat.pow_le_pow_right (by decide) (by omega)))
      simp [hi, this]
  show IntKind.i64.wrap ((BitVec.ofInt 64 (a : Int) &&& ~~~BitVec.ofInt 64 (b : Int)).toNat : Int) = _
  rw [h1]
  have := diff_le a b ha
  exact wrap64_nat _ (by omega) (by omega)
theorem diff_zero {a b : Nat} : diffN a b = 0 ↔ hasB a b = true := by
  rw [has_iff]
  constructor
  · intro h i hi
    have := congrArg (fun x => x.testBit i) h
    simp only [diff_bit, Nat.zero_testBit, hi, Bool.true_and] at this
    cases e : b.testBit i with
    | true => rfl
    | false => rw [e] at this; cases this
  · intro h
    refine Nat.eq_of_testBit_eq fun i => ?_
    rw [diff_bit, Nat.zero_testBit]
    cases e : a.testBit i with
    | false => rfl
    | true => rw [h i e]; rfl

theorem asc_len {m : Nat} : ∀ (l : List Nat) (a : Nat), l.Pairwise (· < ·) → (∀ x ∈ l, a ≤ x ∧ x < m) → a ≤ m → l.length ≤ m - a
  | [], _, _, _, _ => Nat.zero_le _
  | x :: l, a, hp, hb, ha => by
    rw [List.pairwise_cons] at hp
    have h1 := hb x List.mem_cons_self
    have h2 := asc_len l (x + 1) hp.2 (fun y hy => ⟨hp.1 y hy, (hb y (List.mem_cons_of_mem _ hy)).2⟩) h1.2
    rw [List.length_cons]
    omega
/-- A family has at most eight parts. -/
theorem kids_le {ks : List BT} (hg : (BT.node ks).Good) : ks.length ≤ 8 := by
  obtain ⟨_, h1, h2⟩ := good_node.mp hg
  have h := asc_len (m := 8) (ks.map fun k => low k.set) 0 (by rw [List.pairwise_map]; exact h2.imp fun h => h.2) (fun x hx => by
    obtain ⟨k, hk, rfl⟩ := List.mem_map.mp hx
    exact ⟨Nat.zero_le _, low_lt (good_ne (h1 k hk)) (good_256 (h1 k hk))⟩) (by decide)
  rwa [List.length_map] at h
theorem ta_node (s : Int) (u : Value) (w : World) : (Instr.typeAssert (.iface 111 (.agg #[.int .i64 s, u])) 69 111 true).run Tryd.prog w = .ok (.tuple #[.agg #[.int .i64 s, u], .bool true]) w := by kernel_rfl
theorem ta_leaf (s : Int) (w : World) : (Instr.typeAssert (.iface 102 (.agg #[.int .i64 s])) 69 111 true).run Tryd.prog w = .ok (.tuple #[.agg #[.int .i64 0, .slice none 0 0], .bool false]) w := by kernel_rfl
theorem commons_drop {b s : Nat} {ks : List BT} {k : Nat} (h : k < ks.length) : BT.commons b s (ks.drop k) = if hasB b (ks.getD k default).set = true then BT.common b (ks.getD k default) else BT.commons b s (ks.drop (k + 1)) := by
  rw [List.drop_eq_getElem_cons h, BT.commons, List.getD_eq_getElem?_getD, List.getElem?_eq_getElem h]
  rfl

def ComC (b : Nat) (t : BT) : Prop := t.Good → ∀ (ok : Nat → Prop) (v : Value) (W : World), TrV W ok v t → Calls Tryd.prog 69 #[v, .int .i64 (b : Int)] W fun e w' => e = .returned (.int .i64 ((BT.common b t : Nat) : Int)) ∧ Below W.heap.size W w'
set_option maxRecDepth 100000 in
set_option maxHeartbeats 1600000 in
theorem common_leafC (b i : Nat) (W : World) : Calls Tryd.prog 69 #[.iface 102 (.agg #[.int .i64 ((2 ^ i : Nat) : Int)]), .int .i64 (b : Int)] W fun e w' => e = .returned (.int .i64 ((2 ^ i : Nat) : Int)) ∧ Below W.heap.size W w' := by
  have hm := meth_leaf ((2 ^ i : Nat) : Int)
  have ht := ta_leaf ((2 ^ i : Nat) : Int)
  generalize ((2 ^ i : Nat) : Int) = s at *
  go_enter Tryd.func69, Tryd.ntmps69
  go_wp2_with (go_at_call 134; go_must (refine (set_beasts _ _).mono ?_; rintro e w1 ⟨rfl, rfl⟩))
  go_ret
  exact ⟨rfl, Below.refl _ _⟩
set_option maxRecDepth 100000 in
set_option maxHeartbeats 1600000 in
theorem common_nodeC (b : Nat) (hb : b < 256) (ks : List BT) (IH : ∀ k ∈ ks, ComC b k) (hg : (BT.node ks).Good) (ok : Nat → Prop) (v : Value) (W : World) (hv : TrV W ok v (.node ks)) :
    Calls Tryd.prog 69 #[v, .int .i64 (b : Int)] W fun e w' => e = .returned (.int .i64 ((BT.common b (.node ks) : Nat) : Int)) ∧ Below W.heap.size W w' := by
  obtain ⟨g, c, rfl, hc, hgl, hk⟩ := trv_node.mp hv
  obtain ⟨h2, hks, hpw⟩ := good_node.mp hg
  obtain ⟨Z, hZ⟩ : ∃ Z, BT.common b (.node ks) = Z := ⟨_, rfl⟩
  have HZ : Aside0 (BT.commons b (BT.sets ks) ks = Z) := ⟨by rw [← hZ, BT.common]⟩
  rw [hZ]
  have HG := Aside0.mk hks
  have HK := Aside0.mk hk
  have HIH := Aside0.mk IH
  have hml := kids_le hg
  obtain ⟨n, hn⟩ : ∃ n, ks.length = n := ⟨_, rfl⟩
  obtain ⟨s, hs⟩ : ∃ s, BT.sets ks = s := ⟨_, rfl⟩
  have HS := Aside0.mk hs
  have HN := Aside0.mk hn
  have hm := fun w => meth_node ((s : Nat) : Int) (.slice (some ⟨g, 0, none⟩) n c) w
  have ht := fun w => ta_node ((s : Nat) : Int) (.slice (some ⟨g, 0, none⟩) n c) w
  rw [hs, hn]
  rw [hn] at hml
  have hgl2 := hgl.2
  clear hv hk hks hg IH hpw hZ h2 hc hs hn hgl
  go_enter Tryd.func69, Tryd.ntmps69
  go_upto_region 4 with fail
  clear ht
  obtain ⟨fb, hfb⟩ : ∃ fb, fb = W.heap.size := ⟨_, rfl⟩
  go_wp2
  have HB0 : Aside0 (Below W.heap.size W (W.alloc (.cells #[.int .i64 (s : Int), .slice (some ⟨g, 0, none⟩) n c] 111))) := ⟨(Below.refl _ _).alloc (Nat.le_refl _) _⟩
  generalize W.alloc (.cells #[.int .i64 (s : Int), .slice (some ⟨g, 0, none⟩) n c] 111) = W2 at HB0 ⊢
  go_loopg [7, 15] n (fun gg _ v15 wr => ∃ k : Nat, k ≤ n ∧ n - k ≤ gg ∧ v15 = .int .i64 k ∧ Aside0 (BT.commons b s (ks.drop k) = Z) ∧ Aside0 (Below W.heap.size W wr))
  case atStart => exact ⟨0, Nat.zero_le _, by omega, rfl, ⟨by rw [List.drop_zero, ← HS.out]; exact HZ.out⟩, HB0⟩
  case round =>
    clear HB0 HZ
    obtain ⟨k, hk, hgg, rfl, HZ, HB⟩ := hrel
    by_cases hkn : k < n
    · have hkz : (k : Int) < (n : Int) := by omega
      have hky : k < ks.length := by rw [HN.out]; exact hkn
      obtain ⟨v, hc1, htv⟩ := HK.out k (ks.getD k default) (by rw [List.getD_eq_getElem?_getD, List.getElem?_eq_getElem hky]; rfl)
      have hm1 : ks.getD k default ∈ ks := getD_mem default hky
      have HGK := Aside0.mk (HG.out _ hm1)
      have HIK := Aside0.mk (HIH.out _ hm1)
      have HZ1 := Aside0.mk ((commons_drop (b := b) (s := s) hky).symm.trans HZ.out)
      clear HZ hm1
      generalize ks.getD k default = y at htv HGK HIK HZ1
      obtain ⟨T, u, rfl, hmt⟩ := htv.ask
      have HT := Aside0.mk htv
      have hy8 := good_256 HGK.out
      have han := andNot64 b y.set (by omega) (by omega)
      have hx : wr.cell? ⟨g, k, none⟩ = some (.iface T u) := (World.cell?_of_block (HB.out.block g hgl2)).trans hc1
      clear hc1 htv hm
      generalize hsy : ((y.set : Nat) : Int) = sy at hmt han
      cases hh : hasB b y.set with
      | true =>
        have hd : diffN b y.set = 0 := diff_zero.mpr hh
        rw [hd] at han
        have HZ2 : Aside0 (BT.common b y = Z) := ⟨by have := HZ1.out; rwa [if_pos hh] at this⟩
        have HC : Aside0 (Calls Tryd.prog 69 #[.iface T u, .int .i64 (b : Int)] wr fun e w' => e = .returned (.int .i64 ((Z : Nat) : Int)) ∧ Below wr.heap.size wr w') := ⟨by rw [← HZ2.out]; exact HIK.out HGK.out ok _ wr (HT.out.below HB.out)⟩
        clear hh hd
        go_upto_region 9 with (first
          | (go_at_call 134; go_must (refine (set_beasts _ _).mono ?_; rintro e w5 ⟨rfl, rfl⟩))
          | (go_at_call 69; go_must (refine HC.out.mono ?_; rintro e w5 ⟨rfl, hb5⟩; have HB5 := Aside0.mk (below_then HB.out HB.out.size hb5); clear hb5)))
        go_ret
        exact ⟨rfl, HB5.out⟩
      | false =>
        have hd : ((diffN b y.set : Nat) : Int) ≠ 0 := fun e => by rw [diff_zero.mp (by omega)] at hh; cases hh
        have HZ2 : Aside0 (BT.commons b s (ks.drop (k + 1)) = Z) := ⟨by have := HZ1.out; rwa [if_neg (by rw [hh]; exact Bool.false_ne_true)] at this⟩
        have hd2 : (((diffN b y.set : Nat) : Int) == 0) = false := by rw [beq_eq_false_iff_ne]; exact hd
        clear hh hd
        generalize ((diffN b y.set : Nat) : Int) = dd at han hd2
        go_wp2_with (go_at_call 134; go_must (refine (set_beasts _ _).mono ?_; rintro e w5 ⟨rfl, rfl⟩))
        go_roundg (n - (k + 1))
        case measure => omega
        case rel => exact ⟨k + 1, by omega, by omega, by go_num, HZ2, HB⟩
    · have hkz : ¬ (k : Int) < (n : Int) := by omega
      have hkn2 : k = n := by omega
      have HZ2 : Aside0 (s = Z) := ⟨by have := HZ.out; rwa [List.drop_of_length_le (by rw [HN.out]; omega), BT.commons] at this⟩
      go_wp2_with (go_at_call 134; go_must (refine (set_beasts _ _).mono ?_; rintro e w5 ⟨rfl, rfl⟩))
      go_ret
      exact ⟨by rw [← HZ2.out]; rfl, HB.out⟩
/-- The least part of a tree that has some beasts. -/
theorem common_calls (b : Nat) (hb : b < 256) (t : BT) : ComC b t := by
  refine BT.ind (P := ComC b) (fun i _ ok v W hv => ?_) (fun ks ih hg ok v W hv => common_nodeC b hb ks ih hg ok v W hv) t
  rw [trv_leaf.mp hv, common_leaf]
  exact common_leafC b i W
end Go.Proofs.YtdbbcngmnpejnaaDoor.A

/- A tree's text. -/
namespace Go.Proofs.YtdbbcngmnpejnaaDoor.A
open Go.RowKit Go.Proofs.YtdbbcngmnpejnaaDoorW.PrintWords Go.Proofs.YtdbbcngmnpejnaaDoorW.PrintMore
/-! ### plain -/
mutual
def BT.text : BT → List UInt8
  | .leaf i => [UInt8.ofNat (48 + i)]
  | .node ks => 40 :: (Lib.join (BT.texts ks) [44] ++ [41])
def BT.texts : List BT → List (List UInt8)
  | [] => []
  | k :: ks => k.text :: BT.texts ks
end
theorem texts_map : ∀ ks : List BT, BT.texts ks = ks.map BT.text
  | [] => by rw [BT.texts]; rfl
  | k :: ks => by rw [BT.texts, texts_map ks]; rfl
/-- How many beasts a set has. -/
def pcN (s : Nat) : Nat → Nat
  | 0 => 0
  | m + 1 => pcN s m + (if s.testBit m = true then 1 else 0)
theorem pcN_le (s : Nat) : ∀ m, pcN s m ≤ m
  | 0 => Nat.le_refl _
  | m + 1 => by have := pcN_le s m; rw [pcN]; split <;> omega
theorem pcN_or {a b : Nat} (h : a &&& b = 0) : ∀ m, pcN (a ||| b) m = pcN a m + pcN b m
  | 0 => rfl
  | m + 1 => by
    rw [pcN, pcN, pcN, pcN_or h m, Nat.testBit_or]
    have := disj_iff.mp h m
    cases ha : a.testBit m with
    | false => cases b.testBit m <;> simp <;> omega
    | true => rw [this ha]; simp; omega
theorem pcN_pos {s : Nat} : ∀ m i, i < m → s.testBit i = true → 1 ≤ pcN s m
  | 0, i, h, _ => absurd h (Nat.not_lt_zero _)
  | m + 1, i, h, hi => by
    rw [pcN]
    by_cases e : i = m
    · subst e; rw [if_pos hi]; omega
    · have := pcN_pos m i (by omega) hi; omega
theorem join_len (sep : List UInt8) : ∀ (x : List UInt8) (xs : List (List UInt8)), (Lib.join (x :: xs) sep).length = x.length + ((xs.map fun y => sep.length + y.length).sum)
  | x, [] => by simp [Lib.join]
  | x, y :: ys => by
    have := join_len sep y ys
    have e : Lib.join (x :: y :: ys) sep = x ++ sep ++ Lib.join (y :: ys) sep := by simp [Lib.join, List.intercalate_cons_cons]
    rw [e, List.length_append, List.length_append, this]
    simp
    omega
theorem sets_disj {k : BT} {ks : List BT} (h : ∀ x ∈ ks, k.set &&& x.set = 0) : k.set &&& BT.sets ks = 0 := disj_iff.mpr fun i hi => by
  cases e : (BT.sets ks).testBit i with
  | false => rfl
  | true =>
    obtain ⟨x, hx, hxi⟩ := sets_bit.mp e
    rw [disj_iff.mp (h x hx) i hi] at hxi; cases hxi
theorem texts_len : ∀ {ks : List BT}, (∀ k ∈ ks, k.text.length + 3 ≤ 4 * pcN k.set 8) → (ks.Pairwise fun a b => a.set &&& b.set = 0) → ((ks.map BT.text).map fun y => 1 + y.length).sum + 2 * ks.length ≤ 4 * pcN (BT.sets ks) 8
  | [], _, _ => by simp
  | k :: ks, h, hp => by
    rw [List.pairwise_cons] at hp
    have h1 := texts_len (fun x hx => h x (List.mem_cons_of_mem _ hx)) hp.2
    have h2 := h k List.mem_cons_self
    rw [BT.sets, pcN_or (sets_disj hp.1)]
    simp only [List.map_cons, List.sum_cons, List.length_cons]
    omega
theorem text_len {t : BT} : t.Good → t.text.length + 3 ≤ 4 * pcN t.set 8 := by
  refine BT.ind (P := fun t => t.Good → t.text.length + 3 ≤ 4 * pcN t.set 8) (fun i h => ?_) (fun ks ih h => ?_) t
  · rw [BT.Good] at h
    have := pcN_pos (s := 2 ^ i) 8 i h (by rw [two_bit, decide_eq_true_iff])
    rw [BT.text, set_leaf]
    simp
    omega
  · obtain ⟨h1, h2, h3⟩ := good_node.mp h
    have hl := texts_len (fun k hk => ih k hk (h2 k hk)) (h3.imp fun h => h.1)
    rw [BT.text, set_node, texts_map]
    match ks, h1, hl with
    | k :: ks, h1, hl =>
      rw [List.map_cons] at hl ⊢
      rw [List.length_cons, List.length_append, join_len]
      simp only [List.map_cons, List.sum_cons, List.length_cons] at hl h1 ⊢
      simp only [List.length_nil]
      have : (List.map (fun y : List UInt8 => 0 + 1 + y.length) (List.map BT.text ks)).sum = (List.map (fun y : List UInt8 => 1 + y.length) (List.map BT.text ks)).sum := by simp
      omega
theorem text_32 {t : BT} (h : t.Good) : t.text.length ≤ 32 := by have h1 := text_len h; have h2 := pcN_le t.set 8; omega

/-! ### the walk -/
theorem info9 : (Tryd.prog.info? 9).map (fun i => (i.zero, i.size, i.bytes)) = some (some (.string ⟨#[]⟩), 1, 16) := by kernel_rfl
theorem txt_leaf (s : Int) (w : World) : (method 289 102 (.agg #[.int .i64 s]) "droveway/breed.text").run Tryd.prog w = .ok (135, .agg #[.int .i64 s]) w := by kernel_rfl
theorem txt_node (s : Int) (v : Value) (w : World) : (method 289 111 (.agg #[.int .i64 s, v]) "droveway/breed.text").run Tryd.prog w = .ok (146, .agg #[.int .i64 s, v]) w := by kernel_rfl
theorem enters135 : ∀ args w, (callFunc 135 args).run Tryd.prog w = .ok (.enter 135 args) w := enters_of Tryd.func135 (by kernel_rfl) rfl
theorem enters146 : ∀ args w, (callFunc 146 args).run Tryd.prog w = .ok (.enter 146 args) w := enters_of Tryd.func146 (by kernel_rfl) rfl
def strB (l : List UInt8) : ByteArray := ⟨l.toArray⟩
def TxtC (t : BT) : Prop := t.Good → ∀ (ok : Nat → Prop) (v : Value) (W : World), TrV W ok v t → ∃ (T : TypeId) (u : Value) (K : Nat), v = .iface T u ∧ (∀ w, (method 289 T u "droveway/breed.text").run Tryd.prog w = .ok (K, u) w) ∧ (∀ args w, (callFunc K args).run Tryd.prog w = .ok (.enter K args) w) ∧ ∀ W', Below W.heap.size W W' → TabAt W' → Calls Tryd.prog K #[u] W' fun e w' => e = .returned (.string (strB t.text)) ∧ Below W'.heap.size W' w'
theorem dec_one : ∀ i, i < 8 → Lib.decDigits i = [UInt8.ofNat (48 + i)] := by decide +kernel
theorem low_two : ∀ i, i < 8 → low (2 ^ i) = i := by decide +kernel
set_option maxRecDepth 100000 in
set_option maxHeartbeats 1600000 in
theorem text_leafC (i : Nat) (hi : i < 8) (W : World) (hT : TabAt W) : Calls Tryd.prog 135 #[.agg #[.int .i64 ((2 ^ i : Nat) : Int)]] W fun e w' => e = .returned (.string (strB (BT.leaf i).text)) ∧ Below W.heap.size W w' := by
  have h0 : 2 ^ i ≠ 0 := Nat.pos_iff_ne_zero.mp (Nat.two_pow_pos i)
  have h1 : 2 ^ i < 256 := Nat.pow_lt_pow_right (a := 2) (by decide) (n := 8) hi
  have HT : Aside0 (∀ W', Below W.heap.size W W' → TabAt W') := ⟨fun W' h => hT.next h⟩
  have HTZ : Aside0 (∀ w, TabAt w → Calls Tryd.prog 86 #[.int .u64 ((2 ^ i : Nat) : Int)] w fun e w' => e = .returned (.int .i64 ((i : Nat) : Int)) ∧ w = w') := ⟨fun w h => by
    have := tz_calls (2 ^ i) h0 h1 w h
    rwa [low_two i hi] at this⟩
  have HTX : Aside0 (strB (BT.leaf i).text = ⟨(Lib.decDigits i).toArray⟩) := ⟨by rw [BT.text, dec_one i hi]; rfl⟩
  have HI := Aside0.mk hi
  have hw : IntKind.u64.wrap ((2 ^ i : Nat) : Int) = ((2 ^ i : Nat) : Int) := by
    generalize 2 ^ i = N at h1
    rw [IntKind.wrap_u64]; omega
  generalize ((2 ^ i : Nat) : Int) = s at *
  clear hT h0 h1
  rw [HTX.out]
  have hsz : W.heap.size = W.heap.size := rfl
  have HB0 : Aside0 (Below W.heap.size W (W.alloc (.cells #[.int .i64 s] 102))) := ⟨(Below.refl _ _).alloc (Nat.le_refl _) _⟩
  go_enter Tryd.func135, Tryd.ntmps135
  go_wp2_with (first
    | (go_at_call 86; go_must (refine (HTZ.out _ (HT.out _ HB0.out)).mono ?_; rintro e w1 ⟨rfl, rfl⟩))
    | (go_at_call 136; go_must (refine (Tryd.strconv_Itoa_small i (by have := HI.out; omega) _).mono ?_; rintro e w2 ⟨rfl, rfl⟩)))
  go_ret
  exact ⟨rfl, HB0.out⟩
set_option maxRecDepth 100000 in
set_option maxHeartbeats 1600000 in
theorem text_nodeC (ks : List BT) (IH : ∀ k ∈ ks, TxtC k) (hg : (BT.node ks).Good) (ok : Nat → Prop) (g c : Nat) (W : World) (hgl : g < W.heap.size) (hk : ∀ i k, ks[i]? = some k → ∃ u, W.cell? ⟨g, i, none⟩ = some u ∧ TrV W ok u k) (s : Int) (hT : TabAt W) :
    Calls Tryd.prog 146 #[.agg #[.int .i64 s, .slice (some ⟨g, 0, none⟩) ks.length c]] W fun e w' => e = .returned (.string (strB (BT.node ks).text)) ∧ Below W.heap.size W w' := by
  obtain ⟨h2, hks, hpw⟩ := good_node.mp hg
  obtain ⟨S, hS⟩ : ∃ S, strB (BT.node ks).text = S := ⟨_, rfl⟩
  have HX : Aside0 ((⟨#[40]⟩ ++ strB (Lib.join (ks.map BT.text) [44])) ++ ⟨#[41]⟩ = S) := ⟨by
    rw [← hS, BT.text, texts_map]
    generalize Lib.join (ks.map BT.text) [44] = J
    show (⟨#[40]⟩ ++ ⟨J.toArray⟩) ++ ⟨#[41]⟩ = (⟨(40 :: (J ++ [41])).toArray⟩ : ByteArray)
    rw [ByteArray.mk_append_mk, ByteArray.mk_append_mk]
    simp⟩
  rw [hS]
  clear hS
  have HG := Aside0.mk hks
  have HK := Aside0.mk hk
  have HIH := Aside0.mk IH
  have HT : Aside0 (∀ W', Below W.heap.size W W' → TabAt W') := ⟨fun W' h => hT.next h⟩
  have hml := kids_le hg
  obtain ⟨n, hn⟩ : ∃ n, ks.length = n := ⟨_, rfl⟩
  have HN := Aside0.mk hn
  rw [hn]
  rw [hn] at hml
  have hJ : Aside0 ((Lib.join (ks.map BT.text) [44]).length ≤ 30) := ⟨by
    have := text_32 hg
    rw [BT.text, texts_map, List.length_cons, List.length_append] at this
    simp at this
    omega⟩
  have hn2 : 2 ≤ n := by omega
  clear hk hks hg IH hpw h2 hn hT
  go_enter Tryd.func146, Tryd.ntmps146
  go_upto_region 3 with fail
  have HB0 : Aside0 (Below W.heap.size W (W.alloc (.cells #[.int .i64 s, .slice (some ⟨g, 0, none⟩) n c] 111))) := ⟨(Below.refl _ _).alloc (Nat.le_refl _) _⟩
  generalize W.alloc (.cells #[.int .i64 s, .slice (some ⟨g, 0, none⟩) n c] 111) = W2 at HB0 ⊢
  go_loopg [3, 5, 9] n (fun gg v3 _ v9 wr => ∃ (k : Nat) (vo : Value), k ≤ n ∧ n - k ≤ gg ∧ v9 = .int .i64 k ∧ vo = v3 ∧ Aside0 (Kd.string.R 9 wr W.heap.size (fun _ => True) vo ((ks.take k).map fun t => strB t.text)) ∧ Aside0 (Below W.heap.size W wr))
  case atStart => exact ⟨0, _, Nat.zero_le _, by omega, rfl, rfl, ⟨by rw [List.take_zero]; exact Kd.R_nil _ _ _ _ _⟩, HB0⟩
  case round =>
    clear HB0
    obtain ⟨k, vo, hk, hgg, rfl, hvo, HV, HB⟩ := hrel
    subst hvo
    by_cases hkn : k < n
    · have hkz : (k : Int) < (n : Int) := by omega
      have hky : k < ks.length := by rw [HN.out]; exact hkn
      obtain ⟨v, hc1, htv⟩ := HK.out k (ks.getD k default) (by rw [List.getD_eq_getElem?_getD, List.getElem?_eq_getElem hky]; rfl)
      have hm1 : ks.getD k default ∈ ks := getD_mem default hky
      obtain ⟨T, u, K, rfl, hmt, hen, hcall⟩ := HIH.out _ hm1 (HG.out _ hm1) ok v W htv
      have HC : Aside0 (Calls Tryd.prog K #[u] wr fun e w' => e = .returned (.string (strB (ks.getD k default).text)) ∧ Below wr.heap.size wr w') := ⟨hcall wr HB.out (HT.out _ HB.out)⟩
      have HTK : Aside0 ((ks.take (k + 1)).map (fun t => strB t.text) = (ks.take k).map (fun t => strB t.text) ++ [strB (ks.getD k default).text]) := ⟨by
        rw [List.take_add_one, List.map_append, List.getElem?_eq_getElem hky, List.getD_eq_getElem?_getD, List.getElem?_eq_getElem hky]
        rfl⟩
      have hx : wr.cell? ⟨g, k, none⟩ = some (.iface T u) := (World.cell?_of_block (HB.out.block g hgl)).trans hc1
      clear hc1 htv hm1 hcall
      generalize strB (ks.getD k default).text = tx at HC HTK
      have HL3 : Aside0 (((ks.take k).map fun t => strB t.text).length = k) := ⟨by rw [List.length_map, List.length_take, HN.out]; omega⟩
      obtain ⟨A3, c3, hv3, hc3, _⟩ := Kd.R_reads HV.out
      rw [HL3.out] at hv3
      subst hv3
      go_wp2_with (first
        | (go_at_fn K; go_must (refine HC.out.mono ?_; rintro e w5 ⟨rfl, hb5⟩; have HB5 := Aside0.mk (below_then HB.out HB.out.size hb5); have HV5 := Aside0.mk (Kd.R_below HV.out hb5); clear hb5))
        | (at_builtin; go_must (refine Kd.R_append Kd.string (w0 := W) W.heap.size rfl (.tmp 13) (.tmp 16) 56 9 (.string ⟨#[]⟩) 16 rfl Tryd.underlying56 info9 rfl (by decide) (by decide) (.slice A3 k c3) ((ks.take k).map fun t => strB t.text) tx [.string tx] (fun _ => True) (fun _ => False) rfl rfl rfl (fun _ hk => hk.elim) (fun _ _ => trivial) HV5.out HB5.out HB5.out.size (by rw [HL3.out]; omega) ?_; intro v6 w6 ho hb6 _ _; rw [← HTK.out] at ho; have HO6 := Aside0.mk ho; have HB6 := Aside0.mk hb6; clear ho hb6)))
      go_roundg (n - (k + 1))
      case measure => omega
      case rel => exact ⟨k + 1, _, by omega, by omega, by go_num, rfl, HO6, HB6⟩
    · have hkz : ¬ (k : Int) < (n : Int) := by omega
      have hkn2 : k = n := by omega
      have HTK : Aside0 ((ks.take k).map (fun t => strB t.text) = ks.map fun t => strB t.text) := ⟨by rw [List.take_of_length_le (by rw [HN.out]; omega)]⟩
      have hR := HV.out
      rw [HTK.out] at hR
      have HL3 : Aside0 ((ks.map fun t => strB t.text).length = n) := ⟨by rw [List.length_map, HN.out]⟩
      obtain ⟨g3, c3, hv3, _⟩ := Kd.R_form hR (by rw [HL3.out]; omega)
      rw [HL3.out] at hv3
      subst hv3
      have hC := (Kd.R_reads' hR).2.2
      have hcc := (Kd.R_reads' hR).2.1
      have hcells : ∀ (j : Nat) x, (ks.map fun t => strB t.text)[j]? = some x → wr.cell? ⟨g3, 0 + j, none⟩ = some (.string x) := fun j x hj => by
        have hjl := (List.getElem?_eq_some_iff.mp hj).1
        obtain ⟨ad, had, hx⟩ := Kd.at_string hC (j : Int) (by omega) (by omega)
        cases had
        rw [Int.toNat_natCast, YtdbbcngmnpejnaaDoorW.PrintWords.add_plain] at hx
        rw [Nat.zero_add, hx]
        have : rdOf ByteArray.empty (ks.map fun t => strB t.text) (j : Int) = x := by
          unfold rdOf
          rw [Int.toNat_natCast, List.getD_eq_getElem?_getD, hj]; rfl
        rw [this]
      have hmap : (ks.map fun t => strB t.text).map (·.data.toList) = ks.map BT.text := by rw [List.map_map]; rfl
      obtain ⟨b3, hb3⟩ : ∃ b3, wr.heap[g3]? = some b3 := by
        obtain ⟨cs, h⟩ := Kd.R_typed hR g3 rfl
        exact ⟨_, h⟩
      have HJC : Aside0 (Calls Tryd.prog 147 #[.slice (some ⟨g3, 0, none⟩) n c3, .string ⟨#[44]⟩] wr fun e w' => e = .returned (.string (strB (Lib.join (ks.map BT.text) [44]))) ∧ Below wr.heap.size wr w') := ⟨by
        have := Tryd.strings_Join g3 0 c3 (ks.map fun t => strB t.text) ⟨#[44]⟩ wr hcells (YtdbbcngmnpejnaaDoorW.PrintWords.blk_lt hb3) (by rw [HL3.out]; omega) (by rw [HL3.out]; exact hcc) (by rw [hmap]; have := hJ.out; show (Lib.join (ks.map BT.text) [44]).length ≤ _; omega)
        rw [hmap, HL3.out] at this
        exact this⟩
      clear hC hcc hcells hmap hb3 hR
      have hs0 : (strB (Lib.join (ks.map BT.text) [44])).size ≤ 30 := hJ.out
      have hX := HX.out
      clear HX hJ
      generalize strB (Lib.join (ks.map BT.text) [44]) = js at HJC hs0 hX
      have a1 : ∀ w, (Op.stringOp .add ⟨#[40]⟩ js).run Tryd.prog w = .ok (.string (⟨#[40]⟩ ++ js)) w := fun w => run_string_add_sum w _ _ (by have : (⟨#[40]⟩ : ByteArray).size = 1 := rfl; omega)
      have a2 : ∀ w, (Op.stringOp .add (⟨#[40]⟩ ++ js) ⟨#[41]⟩).run Tryd.prog w = .ok (.string ((⟨#[40]⟩ ++ js) ++ ⟨#[41]⟩)) w := fun w => run_string_add_sum w _ _ (by rw [ByteArray.size_append]; have : (⟨#[40]⟩ : ByteArray).size = 1 := rfl; have : (⟨#[41]⟩ : ByteArray).size = 1 := rfl; omega)
      obtain ⟨s1, hs1⟩ : ∃ s1 : ByteArray, ⟨#[40]⟩ ++ js = s1 := ⟨_, rfl⟩
      rw [hX] at a2
      rw [hs1] at a1 a2
      clear hs1 hX
      go_wp2_with (go_at_call 147; go_must (refine HJC.out.mono ?_; rintro e w7 ⟨rfl, hb7⟩; have HB7 := Aside0.mk (below_then HB.out HB.out.size hb7); clear hb7))
      go_ret
      exact ⟨rfl, HB7.out⟩
theorem text_calls (t : BT) : TxtC t := by
  refine BT.ind (P := TxtC) (fun i h ok v W hv => ?_) (fun ks ih hg ok v W hv => ?_) t
  · rw [trv_leaf.mp hv]
    rw [BT.Good] at h
    exact ⟨102, _, 135, rfl, fun w => txt_leaf _ w, enters135, fun W' _ hT => text_leafC i h W' hT⟩
  · obtain ⟨g, c, rfl, _, hgl, hk⟩ := trv_node.mp hv
    refine ⟨111, _, 146, rfl, fun w => txt_node _ _ w, enters146, fun W' hb hT => text_nodeC ks ih hg ok g c W' (Nat.lt_of_lt_of_le hgl.2 hb.size) (fun i k hi => ?_) _ hT⟩
    obtain ⟨u, hu, htu⟩ := hk i k hi
    exact ⟨u, (World.cell?_of_block (hb.block g hgl.2)).trans hu, htu.below hb⟩
end Go.Proofs.YtdbbcngmnpejnaaDoor.A

/- The parts of a set that triples join, plain: as the program finds them. -/
namespace Go.Proofs.YtdbbcngmnpejnaaDoor.A
/-- Beasts of a triple. -/
def S44.a (t : S44) : Nat := t.f0.toNat
def S44.b (t : S44) : Nat := t.f1.toNat
def S44.c (t : S44) : Nat := t.f2.toNat
def Tri8 (t : S44) : Prop := (0 ≤ t.f0 ∧ t.f0 < 8) ∧ (0 ≤ t.f1 ∧ t.f1 < 8) ∧ (0 ≤ t.f2 ∧ t.f2 < 8)
def pairN (t : S44) : Nat := 2 ^ t.a ||| 2 ^ t.b
def allN (t : S44) : Nat := pairN t ||| 2 ^ t.c
def condJ (s part : Nat) (t : S44) : Bool := hasB (allN t) s && decide (pairN t &&& part ≠ 0) && decide (diffN (pairN t) part ≠ 0)
def stepJ (s part : Nat) (t : S44) : Nat := if condJ s part t = true then part ||| pairN t else part
/-- The first k triples have been met. -/
def passJ (l : List S44) (s part : Nat) : Nat → Nat
  | 0 => part
  | k + 1 => stepJ s (passJ l s part k) (l.getD k z44)
def moreJ (l : List S44) (s part : Nat) : Nat → Bool
  | 0 => false
  | k + 1 => moreJ l s part k || condJ s (passJ l s part k) (l.getD k z44)
def growJ (l : List S44) (s : Nat) : Nat → Nat → Nat
  | 0, part => part
  | f + 1, part => if moreJ l s part l.length = true then growJ l s f (passJ l s part l.length) else passJ l s part l.length
def partsJ (l : List S44) (s : Nat) : Nat → Nat → List Nat
  | 0, _ => []
  | f + 1, left => if left = 0 then [] else growJ l s 9 (2 ^ low left) :: partsJ l s f (diffN left (growJ l s 9 (2 ^ low left)))
def joinedF (l : List S44) (s : Nat) : List Int := ((partsJ l s 9 s).map fun p : Nat => (p : Int)).mergeSort fun x y => decide (x ≤ y)

/-! ### bounds -/
variable {l : List S44} {s : Nat}
theorem tri_lt {t : S44} (h : Tri8 t) : t.a < 8 ∧ t.b < 8 ∧ t.c < 8 := by
  unfold S44.a S44.b S44.c
  obtain ⟨h1, h2, h3⟩ := h
  omega
theorem two_256 {i : Nat} (h : i < 8) : 2 ^ i < 256 := Nat.pow_lt_pow_right (a := 2) (by decide) (n := 8) h
theorem or_256 {a b : Nat} (ha : a < 256) (hb : b < 256) : a ||| b < 256 := Nat.or_lt_two_pow (n := 8) ha hb
theorem pair_256 {t : S44} (h : Tri8 t) : pairN t < 256 := or_256 (two_256 (tri_lt h).1) (two_256 (tri_lt h).2.1)
theorem all_256 {t : S44} (h : Tri8 t) : allN t < 256 := or_256 (pair_256 h) (two_256 (tri_lt h).2.2)
theorem step_256 {part : Nat} {t : S44} (h : Tri8 t) (hp : part < 256) : stepJ s part t < 256 := by
  unfold stepJ
  split
  · exact or_256 hp (pair_256 h)
  · exact hp
theorem pass_256 (hl : ∀ t ∈ l, Tri8 t) {part : Nat} (hp : part < 256) : ∀ k, k ≤ l.length → passJ l s part k < 256
  | 0, _ => hp
  | k + 1, hk => step_256 (hl _ (getD_mem z44 hk)) (pass_256 hl hp k (by omega))
theorem pcN_mono {a b : Nat} (h : ∀ i, a.testBit i = true → b.testBit i = true) : ∀ m, pcN a m ≤ pcN b m
  | 0 => Nat.le_refl _
  | m + 1 => by
    have h1 := pcN_mono h m
    rw [pcN, pcN]
    cases e : a.testBit m with
    | false => simp; omega
    | true => rw [h m e]; simp; omega
theorem pcN_more {a b : Nat} (h : ∀ i, a.testBit i = true → b.testBit i = true) {j : Nat} (h1 : a.testBit j = false) (h2 : b.testBit j = true) : ∀ m, j < m → pcN a m < pcN b m
  | 0, hm => absurd hm (Nat.not_lt_zero _)
  | m + 1, hm => by
    rw [pcN, pcN]
    by_cases e : j = m
    · subst e
      have := pcN_mono h j
      rw [h1, h2]; simp; omega
    · have := pcN_more h h1 h2 m (by omega)
      cases e2 : a.testBit m with
      | false => simp; omega
      | true => rw [h m e2]; simp; omega
theorem step_sub (s part : Nat) (t : S44) : ∀ i, part.testBit i = true → (stepJ s part t).testBit i = true := fun i hi => by
  unfold stepJ
  split
  · rw [Nat.testBit_or, hi]; rfl
  · exact hi
theorem pass_sub (l : List S44) (s part : Nat) : ∀ k i, part.testBit i = true → (passJ l s part k).testBit i = true
  | 0, _, hi => hi
  | k + 1, i, hi => step_sub _ _ _ i (pass_sub l s part k i hi)
theorem cond_new {part : Nat} {t : S44} (h : condJ s part t = true) : ∃ j, (pairN t).testBit j = true ∧ part.testBit j = false := by
  unfold condJ at h
  rw [Bool.and_eq_true, decide_eq_true_iff] at h
  obtain ⟨j, hj⟩ := ne_bit h.2
  rw [diff_bit, Bool.and_eq_true] at hj
  exact ⟨j, hj.1, by cases e : part.testBit j with | false => rfl | true => rw [e] at hj; exact absurd hj.2 (by decide)⟩
theorem more_new {part : Nat} (hl : ∀ t ∈ l, Tri8 t) : ∀ k, k ≤ l.length → moreJ l s part k = true → ∃ j, j < 8 ∧ part.testBit j = false ∧ (passJ l s part k).testBit j = true
  | 0, _, h => by rw [moreJ] at h; cases h
  | k + 1, hk, h => by
    rw [moreJ, Bool.or_eq_true] at h
    rcases h with h | h
    · obtain ⟨j, h0, h1, h2⟩ := more_new hl k (by omega) h
      exact ⟨j, h0, h1, step_sub _ _ _ j h2⟩
    · obtain ⟨j, h1, h2⟩ := cond_new h
      refine ⟨j, bit_lt (k := 8) (pair_256 (hl _ (getD_mem z44 hk))) h1, ?_, ?_⟩
      · cases e : part.testBit j with
        | false => rfl
        | true => rw [pass_sub l s part k j e] at h2; cases h2
      · rw [passJ, stepJ, if_pos h, Nat.testBit_or, h1, Bool.or_true]
/-- A round in which something is added makes the part greater. -/
theorem more_pc {part : Nat} (hl : ∀ t ∈ l, Tri8 t) (h : moreJ l s part l.length = true) : pcN part 8 < pcN (passJ l s part l.length) 8 := by
  obtain ⟨j, h0, h1, h2⟩ := more_new hl l.length (Nat.le_refl _) h
  exact pcN_more (pass_sub l s part l.length) h1 h2 8 h0
theorem grow_256 (hl : ∀ t ∈ l, Tri8 t) : ∀ f part, part < 256 → growJ l s f part < 256
  | 0, _, h => h
  | f + 1, part, h => by
    rw [growJ]
    split
    · exact grow_256 hl f _ (pass_256 hl h _ (Nat.le_refl _))
    · exact pass_256 hl h _ (Nat.le_refl _)
theorem grow_sub : ∀ f part i, part.testBit i = true → (growJ l s f part).testBit i = true
  | 0, _, _, h => h
  | f + 1, part, i, h => by
    rw [growJ]
    split
    · exact grow_sub f _ i (pass_sub l s part _ i h)
    · exact pass_sub l s part _ i h
/-- What is left grows less with each part. -/
theorem left_pc {left : Nat} (h0 : left ≠ 0) (h1 : left < 256) (f : Nat) : pcN (diffN left (growJ l s f (2 ^ low left))) 8 < pcN left 8 := by
  refine pcN_more (j := low left) (fun i hi => ?_) ?_ (low_bit h0 h1) 8 (low_lt h0 h1)
  · rw [diff_bit, Bool.and_eq_true] at hi; exact hi.1
  · rw [diff_bit, grow_sub f _ (low left) (by rw [two_bit, decide_eq_true_iff])]; simp
theorem low_two_and : (List.range 256).all (fun x => x == 0 || decide (bits .and .i64 (x : Int) (IntKind.i64.wrap (-(x : Int))) = ((2 ^ low x : Nat) : Int))) = true := by decide +kernel
end Go.Proofs.YtdbbcngmnpejnaaDoor.A

/- The parts of a set that triples join: they are closed, apart, ascending, and all of the set. -/
namespace Go.Proofs.YtdbbcngmnpejnaaDoor.A
def SubN (a b : Nat) : Prop := ∀ i, a.testBit i = true → b.testBit i = true
theorem SubN.refl (a : Nat) : SubN a a := fun _ h => h
theorem SubN.trans {a b c : Nat} (h : SubN a b) (k : SubN b c) : SubN a c := fun i hi => k i (h i hi)
theorem sub_or {a b c : Nat} (h : SubN a c) (k : SubN b c) : SubN (a ||| b) c := fun i hi => by
  rw [Nat.testBit_or, Bool.or_eq_true] at hi
  exact hi.elim (h i) (k i)
theorem meet_iff {a b : Nat} : a &&& b ≠ 0 ↔ ∃ i, a.testBit i = true ∧ b.testBit i = true := by
  constructor
  · intro h
    obtain ⟨i, hi⟩ := ne_bit h
    rw [Nat.testBit_and, Bool.and_eq_true] at hi
    exact ⟨i, hi⟩
  · rintro ⟨i, h1, h2⟩
    exact bit_ne (i := i) (by rw [Nat.testBit_and, h1, h2]; rfl)
/-- No pair that counts leaves the set. -/
def ClosedJ (l : List S44) (s Q : Nat) : Prop := ∀ t ∈ l, SubN (allN t) s → pairN t &&& Q ≠ 0 → SubN (pairN t) Q
variable {l : List S44} {s : Nat}
theorem pair_sub (t : S44) : SubN (pairN t) (allN t) := fun i hi => by unfold allN; rw [Nat.testBit_or, hi]; rfl
theorem closed_whole : ClosedJ l s s := fun t _ h _ => (pair_sub t).trans h
theorem closed_diff {A B : Nat} (hA : ClosedJ l s A) (hB : ClosedJ l s B) : ClosedJ l s (diffN A B) := fun t ht h hm => by
  obtain ⟨j, hj1, hj2⟩ := meet_iff.mp hm
  rw [diff_bit, Bool.and_eq_true] at hj2
  have h1 := hA t ht h (meet_iff.mpr ⟨j, hj1, hj2.1⟩)
  intro i hi
  rw [diff_bit, h1 i hi]
  cases e : B.testBit i with
  | false => rfl
  | true =>
    have h2 := hB t ht h (meet_iff.mpr ⟨i, hi, e⟩) j hj1
    rw [h2] at hj2; exact absurd hj2.2 (by decide)
theorem step_in {Q part : Nat} {t : S44} (hQ : ClosedJ l s Q) (ht : t ∈ l) (hp : SubN part Q) : SubN (stepJ s part t) Q := by
  unfold stepJ
  split
  · rename_i h
    unfold condJ at h
    rw [Bool.and_eq_true, Bool.and_eq_true, decide_eq_true_iff] at h
    obtain ⟨j, h1, h2⟩ := meet_iff.mp h.1.2
    exact sub_or hp (hQ t ht (has_iff.mp h.1.1) (meet_iff.mpr ⟨j, h1, hp j h2⟩))
  · exact hp
theorem pass_in {Q part : Nat} (hQ : ClosedJ l s Q) (hp : SubN part Q) : ∀ k, k ≤ l.length → SubN (passJ l s part k) Q
  | 0, _ => hp
  | k + 1, hk => step_in hQ (getD_mem z44 hk) (pass_in hQ hp k (by omega))
theorem grow_in {Q : Nat} (hQ : ClosedJ l s Q) : ∀ f part, SubN part Q → SubN (growJ l s f part) Q
  | 0, _, h => h
  | f + 1, part, h => by
    rw [growJ]
    split
    · exact grow_in hQ f _ (pass_in hQ h _ (Nat.le_refl _))
    · exact pass_in hQ h _ (Nat.le_refl _)
theorem more_none {part : Nat} : ∀ k, moreJ l s part k = false → passJ l s part k = part ∧ ∀ i, i < k → condJ s part (l.getD i z44) = false
  | 0, _ => ⟨rfl, fun i h => absurd h (Nat.not_lt_zero _)⟩
  | k + 1, h => by
    rw [moreJ, Bool.or_eq_false_iff] at h
    obtain ⟨h1, h2⟩ := more_none k h.1
    rw [h1] at h
    refine ⟨by rw [passJ, h1, stepJ, if_neg (by rw [h.2]; exact Bool.false_ne_true)], fun i hi => ?_⟩
    by_cases e : i = k
    · rw [e]; exact h.2
    · exact h2 i (by omega)
theorem none_closed {part : Nat} (h : moreJ l s part l.length = false) : ClosedJ l s part := fun t ht hs hm => by
  obtain ⟨_, h2⟩ := more_none l.length h
  obtain ⟨i, hi, e⟩ := List.getElem_of_mem ht
  have h3 := h2 i hi
  rw [List.getD_eq_getElem?_getD, List.getElem?_eq_getElem hi, Option.getD_some, e] at h3
  unfold condJ at h3
  rw [has_iff.mpr hs, decide_eq_true hm, Bool.true_and, Bool.true_and, decide_eq_false_iff_not, Classical.not_not, diff_zero] at h3
  exact has_iff.mp h3
theorem grow_closed (hl : ∀ t ∈ l, Tri8 t) : ∀ f part, 8 < f + pcN part 8 → ClosedJ l s (growJ l s f part)
  | 0, part, h => by have := pcN_le part 8; omega
  | f + 1, part, h => by
    rw [growJ]
    cases e : moreJ l s part l.length with
    | true =>
      rw [if_pos rfl]
      have := more_pc hl e
      exact grow_closed hl f _ (by omega)
    | false =>
      rw [if_neg Bool.false_ne_true, (more_none l.length e).1]
      exact none_closed e
/-- What is known of the parts. -/
structure PartsOf (l : List S44) (s left : Nat) (P : List Nat) : Prop where
  ne : ∀ p ∈ P, p ≠ 0
  sub : ∀ p ∈ P, SubN p left
  closed : ∀ p ∈ P, ClosedJ l s p
  least : ∀ p ∈ P, ∀ Q, ClosedJ l s Q → Q.testBit (low p) = true → SubN p Q
  apart : P.Pairwise fun a b => a &&& b = 0 ∧ low a < low b
  all : ∀ i, left.testBit i = true → ∃ p ∈ P, p.testBit i = true
theorem low_sub {a b : Nat} (ha : a ≠ 0) (hb : b < 256) (h : SubN a b) : low b ≤ low a := low_le hb (h _ (low_bit ha (lt_of_bits (k := 8) fun i hi => bit_lt (k := 8) hb (h i hi))))
theorem parts_of (hl : ∀ t ∈ l, Tri8 t) : ∀ f left, left < 256 → ClosedJ l s left → pcN left 8 < f → PartsOf l s left (partsJ l s f left)
  | 0, _, _, _, h => absurd h (Nat.not_lt_zero _)
  | f + 1, left, h8, hc, hf => by
    rw [partsJ]
    by_cases h0 : left = 0
    · rw [if_pos h0, h0]
      exact ⟨fun p h => (by cases h), fun p h => (by cases h), fun p h => (by cases h), fun p h => (by cases h), List.Pairwise.nil, fun i hi => by rw [Nat.zero_testBit] at hi; cases hi⟩
    · rw [if_neg h0]
      have hseed : SubN (2 ^ low left) left := fun i hi => by
        rw [two_bit, decide_eq_true_iff] at hi
        rw [← hi]; exact low_bit h0 h8
      have hpc1 : 1 ≤ pcN (2 ^ low left) 8 := pcN_pos 8 (low left) (low_lt h0 h8) (by rw [two_bit, decide_eq_true_iff])
      have hG := grow_closed (s := s) hl 9 (2 ^ low left) (by omega)
      have hGs := grow_in hc 9 _ hseed
      have hGb : (growJ l s 9 (2 ^ low left)).testBit (low left) = true := grow_sub 9 _ _ (by rw [two_bit, decide_eq_true_iff])
      have hGm : ∀ Q, ClosedJ l s Q → Q.testBit (low left) = true → SubN (growJ l s 9 (2 ^ low left)) Q := fun Q hQ hb => grow_in hQ 9 _ fun i hi => by
        rw [two_bit, decide_eq_true_iff] at hi
        rw [← hi]; exact hb
      have hpc := left_pc (l := l) (s := s) h0 h8 9
      generalize growJ l s 9 (2 ^ low left) = G at *
      have hG0 := bit_ne hGb
      have hG8 : G < 256 := lt_of_bits (k := 8) fun i hi => bit_lt (k := 8) h8 (hGs i hi)
      have hGl : low G = low left := Nat.le_antisymm (low_le hG8 hGb) (low_sub hG0 h8 hGs)
      have hd8 : diffN left G < 256 := diff_le left G (k := 8) h8
      have ih := parts_of hl f (diffN left G) hd8 (closed_diff hc hG) (by omega)
      have hds : SubN (diffN left G) left := fun i hi => by rw [diff_bit, Bool.and_eq_true] at hi; exact hi.1
      refine ⟨fun p hp => ?_, fun p hp => ?_, fun p hp => ?_, fun p hp => ?_, ?_, fun i hi => ?_⟩
      · rcases List.mem_cons.mp hp with e | e
        · rw [e]; exact hG0
        · exact ih.ne p e
      · rcases List.mem_cons.mp hp with e | e
        · rw [e]; exact hGs
        · exact (ih.sub p e).trans hds
      · rcases List.mem_cons.mp hp with e | e
        · rw [e]; exact hG
        · exact ih.closed p e
      · rcases List.mem_cons.mp hp with e | e
        · rw [e, hGl]; exact hGm
        · exact ih.least p e
      · rw [List.pairwise_cons]
        refine ⟨fun p hp => ?_, ih.apart⟩
        have hps := ih.sub p hp
        refine ⟨disj_iff.mpr fun i hi => ?_, ?_⟩
        · cases e : p.testBit i with
          | false => rfl
          | true => have := hps i e; rw [diff_bit, hi] at this; simp at this
        · rw [hGl]
          have hp0 := ih.ne p hp
          have hp8 : p < 256 := lt_of_bits (k := 8) fun i hi => bit_lt (k := 8) hd8 (hps i hi)
          have h1 := hps _ (low_bit hp0 hp8)
          have h2 := low_le h8 (hds _ h1)
          rcases Nat.lt_or_ge (low left) (low p) with h3 | h3
          · exact h3
          · have e : low p = low left := by omega
            rw [e, diff_bit, hGb] at h1
            simp at h1
      · cases e : G.testBit i with
        | true => exact ⟨G, List.mem_cons_self, e⟩
        | false =>
          obtain ⟨p, hp, hpi⟩ := ih.all i (by rw [diff_bit, hi, e]; rfl)
          exact ⟨p, List.mem_cons_of_mem _ hp, hpi⟩
/-- The parts of a set, in the order of their least beasts. -/
def partsF (l : List S44) (s : Nat) : List Nat := partsJ l s 9 s
theorem parts_spec (hl : ∀ t ∈ l, Tri8 t) (h8 : s < 256) : PartsOf l s s (partsF l s) := parts_of hl 9 s h8 closed_whole (by have := pcN_le s 8; omega)
end Go.Proofs.YtdbbcngmnpejnaaDoor.A

/- A tree made of a set's parts, plain. -/
namespace Go.Proofs.YtdbbcngmnpejnaaDoor.A
def mapO {α β : Type} (g : α → Option β) : List α → Option (List β)
  | [] => some []
  | x :: xs => match g x with
    | none => none
    | some t => match mapO g xs with
      | none => none
      | some ts => some (t :: ts)
theorem mapO_some {α β : Type} {g : α → Option β} : ∀ {xs : List α} {ts : List β}, mapO g xs = some ts ↔ xs.map g = ts.map some
  | [], ts => by
    rw [mapO]
    cases ts <;> simp
  | x :: xs, ts => by
    rw [mapO]
    cases h : g x with
    | none => cases ts <;> simp [h]
    | some t =>
      cases ts with
      | nil => simp only []; cases mapO g xs <;> simp
      | cons u us =>
        have ih := mapO_some (g := g) (xs := xs) (ts := us)
        simp only [List.map_cons, h, List.cons.injEq, Option.some.injEq]
        rw [← ih]
        cases mapO g xs with
        | none => simp
        | some vs => simp
theorem mapO_none {α β : Type} {g : α → Option β} : ∀ {xs : List α}, mapO g xs = none ↔ ∃ x ∈ xs, g x = none
  | [] => by rw [mapO]; simp
  | x :: xs => by
    rw [mapO]
    have ih := mapO_none (g := g) (xs := xs)
    cases h : g x with
    | none => simp [h]
    | some t =>
      simp only [List.mem_cons, exists_eq_or_imp, h]
      rw [show (∃ a, a ∈ xs ∧ g a = none) ↔ mapO g xs = none from ih.symm]
      cases mapO g xs with
      | none => simp
      | some vs => simp
/-- A tree of a set: of its only beast, or of the trees of its parts, if it has more than one. -/
def buildF (l : List S44) : Nat → Nat → Option BT
  | 0, _ => none
  | f + 1, s => if s &&& (s - 1) = 0 then some (.leaf (low s)) else if (partsF l s).length = 1 then none else (mapO (buildF l f) (partsF l s)).map .node
variable {l : List S44} {s : Nat}
/-- A set of one beast. -/
theorem one_iff : ∀ s, s < 256 → s ≠ 0 → (s &&& (s - 1) = 0 ↔ s = 2 ^ low s) := by decide +kernel
theorem sets_eq {left : Nat} {P : List Nat} (hP : PartsOf l s left P) {ts : List BT} (h : ts.map BT.set = P) : BT.sets ts = left := by
  refine Nat.eq_of_testBit_eq fun i => ?_
  have hmem : ∀ p, p ∈ P ↔ ∃ t ∈ ts, t.set = p := fun p => by rw [← h, List.mem_map]
  cases e : left.testBit i with
  | true =>
    obtain ⟨p, hp, hpi⟩ := hP.all i e
    obtain ⟨t, ht, rfl⟩ := (hmem p).mp hp
    exact sets_bit.mpr ⟨t, ht, hpi⟩
  | false =>
    cases e2 : (BT.sets ts).testBit i with
    | false => rfl
    | true =>
      obtain ⟨t, ht, hti⟩ := sets_bit.mp e2
      have := hP.sub t.set ((hmem _).mpr ⟨t, ht, rfl⟩) i hti
      rw [e] at this; cases this
/-- What is made is a good tree of the set. -/
theorem build_good (hl : ∀ t ∈ l, Tri8 t) : ∀ f s t, s ≠ 0 → s < 256 → buildF l f s = some t → t.Good ∧ t.set = s
  | 0, _, _, _, _, h => by rw [buildF] at h; cases h
  | f + 1, s, t, h0, h8, h => by
    rw [buildF] at h
    by_cases h1 : s &&& (s - 1) = 0
    · rw [if_pos h1] at h
      cases h
      exact ⟨by rw [BT.Good]; exact low_lt h0 h8, by rw [set_leaf]; exact ((one_iff s h8 h0).mp h1).symm⟩
    · rw [if_neg h1] at h
      by_cases h2 : (partsF l s).length = 1
      · rw [if_pos h2] at h; cases h
      · rw [if_neg h2] at h
        obtain ⟨ts, hts, rfl⟩ := Option.map_eq_some_iff.mp h
        have hP := parts_spec (s := s) hl h8
        have hm := mapO_some.mp hts
        have hp8 : ∀ p ∈ partsF l s, p < 256 := fun p hp => lt_of_bits (k := 8) fun i hi => bit_lt (k := 8) h8 (hP.sub p hp i hi)
        have hall : ∀ k ∈ ts, k.Good ∧ ∃ p ∈ partsF l s, buildF l f p = some k := fun k hk => by
          have : some k ∈ (partsF l s).map (buildF l f) := by rw [hm]; exact List.mem_map.mpr ⟨k, hk, rfl⟩
          obtain ⟨p, hp, e⟩ := List.mem_map.mp this
          exact ⟨(build_good hl f p k (hP.ne p hp) (hp8 p hp) e).1, p, hp, e⟩
        have hset : ts.map BT.set = partsF l s := by
          have hlen : ts.length = (partsF l s).length := by have := congrArg List.length hm; rw [List.length_map, List.length_map] at this; exact this.symm
          refine List.ext_getElem (by rw [List.length_map, hlen]) fun i h1 h2 => ?_
          rw [List.length_map] at h1
          have e := congrArg (fun L => L[i]?) hm
          (try dsimp only at e)
          rw [List.getElem?_map, List.getElem?_map, List.getElem?_eq_getElem h2, List.getElem?_eq_getElem h1] at e
          have e2 := Option.some.inj e
          have hp := List.getElem_mem h2
          rw [List.getElem_map]
          exact (build_good hl f _ _ (hP.ne _ hp) (hp8 _ hp) e2).2
        refine ⟨good_node.mpr ⟨?_, fun k hk => (hall k hk).1, ?_⟩, by rw [set_node]; exact sets_eq hP hset⟩
        · have hlen : ts.length = (partsF l s).length := by rw [← hset, List.length_map]
          have : (partsF l s).length ≠ 0 := fun e => by
            obtain ⟨i, hi⟩ := ne_bit h0
            obtain ⟨p, hp, _⟩ := hP.all i hi
            rw [List.length_eq_zero_iff.mp e] at hp; cases hp
          omega
        · have := hP.apart
          rw [← hset, List.pairwise_map] at this
          exact this
/-- A part of several is less. -/
theorem part_less (hl : ∀ t ∈ l, Tri8 t) (h8 : s < 256) {p : Nat} (hp : p ∈ partsF l s) (h1 : (partsF l s).length ≠ 1) : pcN p 8 < pcN s 8 := by
  have hP := parts_spec (s := s) hl h8
  obtain ⟨q, hq, hne⟩ : ∃ q ∈ partsF l s, q ≠ p := by
    match hh : partsF l s, hp, h1 with
    | [x], _, h1 => exact absurd rfl h1
    | x :: y :: r, hp, _ =>
      have hpw := hP.apart
      rw [hh, List.pairwise_cons] at hpw
      have hxy := (hpw.1 y List.mem_cons_self).2
      by_cases e : x = p
      · refine ⟨y, by simp, fun e2 => ?_⟩
        rw [e, e2] at hxy; omega
      · exact ⟨x, by simp, e⟩
  have hq8 : q < 256 := lt_of_bits (k := 8) fun i hi => bit_lt (k := 8) h8 (hP.sub q hq i hi)
  have hqb := low_bit (hP.ne q hq) hq8
  have hqs := hP.sub q hq _ hqb
  refine pcN_more (hP.sub p hp) (j := low q) ?_ hqs 8 (bit_lt (k := 8) h8 hqs)
  cases e : p.testBit (low q) with
  | false => rfl
  | true =>
    exfalso
    have : ∀ (P : List Nat), P.Pairwise (fun a b => a &&& b = 0 ∧ low a < low b) → p ∈ P → q ∈ P → False := by
      intro P
      induction P with
      | nil => intro _ h; cases h
      | cons x xs ih =>
        intro hpw h h'
        rw [List.pairwise_cons] at hpw
        rcases List.mem_cons.mp h with a | a <;> rcases List.mem_cons.mp h' with b | b
        · exact hne (b.trans a.symm)
        · subst a; have := disj_iff.mp (hpw.1 q b).1 _ e; rw [hqb] at this; cases this
        · subst b; have := disj_iff.mp (hpw.1 p a).1 _ hqb; rw [e] at this; cases this
        · exact ih hpw.2 a b
    exact this _ hP.apart hp hq
end Go.Proofs.YtdbbcngmnpejnaaDoor.A

/- A row of numbers of one's own, sorted. -/
namespace Go.Proofs.YtdbbcngmnpejnaaDoor.A
open Go.RowKit Go.Proofs.YtdbbcngmnpejnaaDoorW.PrintWords Go.Sort Go.Lib
/-- A row's world behind a store of a whole row. -/
theorem own_put {W : World} {base g n cap q : Nat} {os : Array Obj} {xs ys : List Int} (h : Kd.R (Kd.int .i64) 3 W base (fun _ => True) (.slice (some ⟨g, 0, none⟩) n cap) xs) (hl : ys.length = xs.length) :
    Kd.R (Kd.int .i64) 3 (grow (putRow (Value.int .i64) (Sort.ahead W q) g 0 ys.toArray) os) base (fun _ => True) (.slice (some ⟨g, 0, none⟩) n cap) ys ∧ W.grownBy (grow (putRow (Value.int .i64) (Sort.ahead W q) g 0 ys.toArray) os) (some g) := by
  have ho := Kd.own_of_R h
  rcases ho.2 with ⟨h0, _⟩ | ⟨g', cap', cur, hv, hg, hb, h1, h2, h3, h4⟩
  · cases h0
  · cases hv
    have := ownsRow_sortedI (os := os) (n := q) (ts := ys) (ss := xs) hl hg hb h1 h2 h3
    refine ⟨Kd.R_of_own (by rw [hl]; exact this) (fun _ _ => trivial), grownBy_sortedI _⟩
theorem own_holds {W : World} {base g n cap : Nat} {xs : List Int} (h : Kd.R (Kd.int .i64) 3 W base (fun _ => True) (.slice (some ⟨g, 0, none⟩) n cap) xs) : Holds (Value.int .i64) W g 0 xs.toArray := by
  rcases (Kd.own_of_R h).2 with ⟨h0, _⟩ | ⟨g', cap', cur, hv, hg, hb, h1, h2, h3, h4⟩
  · cases h0
  · cases hv
    exact holds_of_blockI hb (by simpa [encs] using h4)
theorem own_form {W : World} {base : Nat} {v : Value} {xs : List Int} (h : Kd.R (Kd.int .i64) 3 W base (fun _ => True) v xs) (h0 : 0 < xs.length) : ∃ g cap, v = .slice (some ⟨g, 0, none⟩) xs.length cap ∧ base ≤ g ∧ g < W.heap.size ∧ xs.length ≤ cap := by
  have ho := Kd.own_of_R h
  rcases ho.2 with ⟨_, h1⟩ | ⟨g', cap', cur, hv, hg, hb, h1, h2, h3, h4⟩
  · omega
  · exact ⟨g', cap', hv, hg, blk_lt hb, h1⟩

/-- Sorted. -/
def sortI (l : List Int) : List Int := l.mergeSort fun x y => decide (x ≤ y)
theorem sortI_len (l : List Int) : (sortI l).length = l.length := List.length_mergeSort _
theorem sort_any {v : Value} {base : Nat} {xs : List Int} {w : World} (h : Kd.R (Kd.int .i64) 3 w base (fun _ => True) v xs) (hl : xs.length ≤ 1000) :
    Calls Tryd.prog 74 #[v] w fun e w' => e = .returned (.tuple #[]) ∧ Kd.R (Kd.int .i64) 3 w' base (fun _ => True) v (sortI xs) ∧ w.grownBy w' v.ownBlock := by
  by_cases h0 : 0 < xs.length
  · obtain ⟨g, cap, rfl, hg, hlt, hc⟩ := own_form h h0
    refine (Tryd.slices_Sort_int g 0 cap xs w (own_holds h) hlt (by omega)).mono ?_
    rintro e w' ⟨rfl, n, os, rfl⟩
    exact ⟨rfl, own_put h (sortI_len xs)⟩
  · have hnil : xs = [] := List.length_eq_zero_iff.1 (by omega)
    subst hnil
    obtain ⟨A, c, rfl, _, _⟩ := Kd.R_reads h
    refine (Tryd.slices_Sort_int_none A c w).mono ?_
    rintro e w' ⟨rfl, rfl⟩
    exact ⟨rfl, by rw [show sortI [] = [] by simp [sortI]]; exact h, World.grownBy.refl _ _⟩

end Go.Proofs.YtdbbcngmnpejnaaDoor.A

/- breed.joined: the parts of a set, walked. (Printed by gen_d4.py.) -/
namespace Go.Proofs.YtdbbcngmnpejnaaDoor.A
open Go.RowKit Go.Proofs.YtdbbcngmnpejnaaDoorW.PrintWords Go.Proofs.YtdbbcngmnpejnaaDoorW.PrintMore
theorem lowbit {x : Nat} (h0 : x ≠ 0) (h1 : x < 256) : bits .and .i64 (x : Int) (-(x : Int)) = ((2 ^ low x : Nat) : Int) := by
  have h := List.all_eq_true.1 low_two_and x (List.mem_range.2 h1)
  have e : IntKind.i64.wrap (-(x : Int)) = -(x : Int) := by rw [IntKind.wrap_i64]; omega
  rw [e, Bool.or_eq_true, decide_eq_true_iff, beq_iff_eq] at h
  exact h.resolve_left h0
theorem and_cast {a b : Nat} (ha : a < 256) (hb : b < 256) : bits .and .i64 (a : Int) (b : Int) = ((a &&& b : Nat) : Int) := and64 a b (by omega) (by omega)
theorem not_cast {a b : Nat} (ha : a < 256) (hb : b < 256) : bits .andNot .i64 (a : Int) (b : Int) = ((diffN a b : Nat) : Int) := andNot64 a b (by omega) (by omega)
theorem two_cast (i : Nat) : (2 : Int) ^ i = ((2 ^ i : Nat) : Int) := by rw [Int.natCast_pow]; rfl
theorem wrap_two {i : Nat} (h : i < 8) : IntKind.i64.wrap (2 ^ i) = ((2 ^ i : Nat) : Int) := by
  rw [two_cast]
  have := two_256 h
  generalize 2 ^ i = N at *
  exact wrap64_nat _ (by omega) (by omega)
theorem wrap64_two {i : Nat} (h : i < 8) : wrap64 (2 ^ i) = ((2 ^ i : Nat) : Int) := by
  rw [two_cast]
  have := two_256 h
  generalize 2 ^ i = N at *
  unfold wrap64
  omega
set_option maxRecDepth 100000 in
set_option maxHeartbeats 3200000 in
theorem joined_calls (A : Option Addr) (c : Nat) (l : List S44) (s : Nat) (hs : s < 256) (hl : ∀ t ∈ l, Tri8 t) (hn : l.length ≤ 1000) (W : World) (hr : Kd.C k44 W A l.length l) :
    Calls Tryd.prog 48 #[.slice A l.length c, .int .i64 (s : Int)] W fun e w' => ∃ v, e = .returned v ∧ (Kd.int .i64).R 3 w' W.heap.size (fun _ => True) v (joinedF l s) ∧ Below W.heap.size W w' := by
  have HR := Aside0.mk hr
  have HL := Aside0.mk hl
  obtain ⟨J, hJ⟩ : ∃ J, joinedF l s = J := ⟨_, rfl⟩
  have HJ : Aside0 (((partsJ l s 9 s).map fun p : Nat => (p : Int)).mergeSort (fun x y => decide (x ≤ y)) = J) := ⟨hJ⟩
  rw [hJ]
  obtain ⟨n, hnn⟩ : ∃ n, l.length = n := ⟨_, rfl⟩
  have HN := Aside0.mk hnn
  rw [hnn] at hn ⊢
  clear hr hl hJ hnn
  go_enter Tryd.func48, Tryd.ntmps48
  go_upto_region 3 with fail
  go_loopg [5, 6, 7, 8, 10, 11] 8 (fun gg v5 v6 _ _ _ _ wr => ∃ (f left : Nat) (vo : Value) (out : List Int), v6 = .int .i64 (left : Int) ∧ vo = v5 ∧ left < 256 ∧ pcN left 8 < f ∧ f ≤ 9 ∧ pcN left 8 ≤ gg ∧ out.length + f = 9 ∧ Aside0 ((Kd.int .i64).R 3 wr W.heap.size (fun _ => True) vo out) ∧ Aside0 ((out ++ (partsJ l s f left).map fun p : Nat => (p : Int)).mergeSort (fun x y => decide (x ≤ y)) = J) ∧ Aside0 (Below W.heap.size W wr))
  case atStart => exact ⟨9, s, _, [], rfl, rfl, hs, by have := pcN_le s 8; omega, Nat.le_refl _, pcN_le s 8, rfl, ⟨Kd.R_nil _ _ _ _ _⟩, ⟨by rw [List.nil_append]; exact HJ.out⟩, ⟨Below.refl _ _⟩⟩
  case round =>
    obtain ⟨f, left, vo, out, rfl, hvo, hl8, hpf, hf9, hpg, hof, HV, HE, HB⟩ := hrel
    rename World => w1
    subst hvo
    by_cases h0 : left = 0
    · subst h0
      have hz : ¬ (0 : Int) < ((0 : Nat) : Int) := by omega
      have HE2 : Aside0 (out.mergeSort (fun x y => decide (x ≤ y)) = J) := ⟨by
        have := HE.out
        obtain ⟨f', rfl⟩ : ∃ f', f = f' + 1 := ⟨f - 1, by omega⟩
        rwa [partsJ, if_pos rfl, List.map_nil, List.append_nil] at this⟩
      have HSO := Aside0.mk (sort_any HV.out (by omega))
      have HE3 : Aside0 (sortI out = J) := ⟨HE2.out⟩
      go_wp2_with (go_at_call 74; go_must (refine HSO.out.mono ?_; rintro e w5 ⟨rfl, hr5, hg5⟩; have HR5 := Aside0.mk hr5; have HG5 := Aside0.mk hg5; clear hr5 hg5))
      go_ret
      exact ⟨_, rfl, by rw [← HE3.out]; exact HR5.out, HB.out.grown HG5.out HB.out.size (fun j hj => Kd.R_base HV.out j hj)⟩
    · have hz : (0 : Int) < (left : Int) := by omega
      have hzn : 0 < left := by omega
      have hlb := lowbit h0 hl8
      have h1 : 2 ^ low left < 256 := two_256 (low_lt h0 hl8)
      obtain ⟨f', hf'⟩ : ∃ f', f = f' + 1 := ⟨f - 1, by omega⟩
      have HE2 : Aside0 ((out ++ ((growJ l s 9 (2 ^ low left) : Nat) : Int) :: (partsJ l s f' (diffN left (growJ l s 9 (2 ^ low left)))).map fun p : Nat => (p : Int)).mergeSort (fun x y => decide (x ≤ y)) = J) := ⟨by
        have := HE.out
        rwa [hf', partsJ, if_neg h0, List.map_cons] at this⟩
      have HPC := Aside0.mk (left_pc (l := l) (s := s) h0 hl8 9)
      obtain ⟨G, hG⟩ : ∃ G, growJ l s 9 (2 ^ low left) = G := ⟨_, rfl⟩
      rw [hG] at HE2 HPC
      have HG := Aside0.mk hG
      have hG8 : G < 256 := by rw [← hG]; exact grow_256 HL.out 9 _ h1
      obtain ⟨p0, hp0⟩ : ∃ p0, 2 ^ low left = p0 := ⟨_, rfl⟩
      rw [hp0] at h1 hlb HG
      clear hG hp0 HE
      go_upto_region 6 with fail
      go_loopg [7, 8, 10, 11] 18 (fun g2 v7 v8 _ _ w2 => ∃ (f2 part : Nat) (more : Bool), v7 = .int .i64 (part : Int) ∧ v8 = .bool more ∧ part < 256 ∧ f2 ≤ 9 ∧ (more = true → 8 < f2 + pcN part 8 ∧ Aside0 (growJ l s f2 part = G)) ∧ (more = false → Aside0 (part = G)) ∧ 2 * (8 - pcN part 8) + (if more = true then 1 else 0) ≤ g2 ∧ Aside0 (Below w1.heap.size w1 w2))
      case atStart => exact ⟨9, p0, true, rfl, rfl, h1, Nat.le_refl _, fun _ => ⟨by omega, HG⟩, fun h => (by cases h), by simp; omega, ⟨Below.refl _ _⟩⟩
      case round =>
        obtain ⟨f2, part, more, rfl, rfl, hp8, hf29, hmt, hmf, hgg, HB2⟩ := hrel
        rename World => w2
        cases more with
        | false =>
          have HPG := hmf rfl
          clear hmt hmf
          have hpg2 : part = G := HPG.out
          subst hpg2
          have hnt := not_cast hl8 hG8
          have HV2 := Aside0.mk (Kd.R_below HV.out HB2.out)
          have HB3 := Aside0.mk (below_then HB.out HB.out.size HB2.out)
          obtain ⟨A5, c5, hv5, _, _⟩ := Kd.R_reads HV2.out
          subst hv5
          go_wp2_with (at_builtin; go_must (refine Kd.R_append (Kd.int .i64) (w0 := W) W.heap.size rfl (.tmp 57) (.tmp 59) 32 3 (.int .i64 0) 8 rfl Tryd.underlying32 info3 rfl (by decide) (by decide) (.slice A5 out.length c5) out (part : Int) [.int .i64 (part : Int)] (fun _ => True) (fun _ => False) rfl rfl rfl (fun _ hk => hk.elim) (fun _ _ => trivial) HV2.out HB3.out HB3.out.size (by omega) ?_; intro v6 w6 ho hb6 _ _; have HO6 := Aside0.mk ho; have HB6 := Aside0.mk hb6; clear ho hb6))
          go_roundg (pcN (diffN left part) 8)
          case measure => have := HPC.out; omega
          case rel => exact ⟨f', _, _, _, rfl, rfl, diff_le left part (k := 8) hl8, by have := HPC.out; omega, by omega, Nat.le_refl _, by rw [List.length_append, List.length_singleton]; omega, HO6, ⟨by have := HE2.out; rwa [List.append_assoc]⟩, HB6⟩
        | true =>
          obtain ⟨hfp, HGR⟩ := hmt rfl
          clear hmt hmf
          obtain ⟨f3, hf3⟩ : ∃ f3, f2 = f3 + 1 := ⟨f2 - 1, by have := pcN_le part 8; omega⟩
          have HGR2 : Aside0 ((if moreJ l s part n = true then growJ l s f3 (passJ l s part n) else passJ l s part n) = G) := ⟨by
            have := HGR.out
            rw [hf3, growJ, HN.out] at this
            exact this⟩
          go_upto_region 9 with fail
          go_loopg [7, 8, 10, 11, 22] n (fun g3 v7 v8 _ _ v22 w3 => ∃ k : Nat, k ≤ n ∧ n - k ≤ g3 ∧ v22 = .int .i64 k ∧ v7 = .int .i64 ((passJ l s part k : Nat) : Int) ∧ v8 = .bool (moreJ l s part k) ∧ Aside0 (Below w1.heap.size w1 w3))
          case atStart => exact ⟨0, Nat.zero_le _, by omega, rfl, rfl, rfl, HB2⟩
          case round =>
            obtain ⟨k, hk, hg3, rfl, rfl, rfl, HB3⟩ := hrel
            rename World => w3
            by_cases hkn : k < n
            · have hkz : (k : Int) < (n : Int) := by omega
              have hkl : k < l.length := by rw [HN.out]; exact hkn
              obtain ⟨ad, had, hx0, hx1, hx2⟩ := at_T44 (Kd.C_below HR.out (HB.out.trans (HB3.out.mono HB.out.size))) (k : Int) (by omega) (by omega)
              subst had
              rw [Int.toNat_natCast] at hx0 hx1 hx2
              have hrd : rd_T44 l (k : Int) = l.getD k z44 := by simp only [rd_T44, Int.toNat_natCast]
              rw [hrd] at hx0 hx1 hx2
              have ht8 := HL.out _ (getD_mem z44 hkl)
              have HPS : Aside0 (passJ l s part (k + 1) = stepJ s (passJ l s part k) (l.getD k z44)) := ⟨rfl⟩
              have HMS : Aside0 (moreJ l s part (k + 1) = (moreJ l s part k || condJ s (passJ l s part k) (l.getD k z44))) := ⟨rfl⟩
              have hpk8 : passJ l s part k < 256 := pass_256 HL.out hp8 k (by rw [HN.out]; exact hk)
              generalize l.getD k z44 = t at hx0 hx1 hx2 ht8 HPS HMS
              obtain ⟨ha8, hb8, hc8⟩ := tri_lt ht8
              have hpa := pair_256 ht8
              have hal := all_256 ht8
              obtain ⟨⟨h00, _⟩, ⟨h10, _⟩, ⟨h20, _⟩⟩ := ht8
              obtain ⟨t0, t1, t2⟩ := t
              dsimp only at hx0 hx1 hx2 h00 h10 h20
              obtain ⟨a, rfl⟩ := Int.eq_ofNat_of_zero_le h00
              obtain ⟨b, rfl⟩ := Int.eq_ofNat_of_zero_le h10
              obtain ⟨cc, rfl⟩ := Int.eq_ofNat_of_zero_le h20
              have ea : S44.a ⟨(a : Int), (b : Int), (cc : Int)⟩ = a := rfl
              have eb : S44.b ⟨(a : Int), (b : Int), (cc : Int)⟩ = b := rfl
              have ec : S44.c ⟨(a : Int), (b : Int), (cc : Int)⟩ = cc := rfl
              rw [ea] at ha8
              rw [eb] at hb8
              rw [ec] at hc8
              clear hrd h00 h10 h20
              go_upto_region 11 with fail
              have HNEW : Aside0 ((w3.alloc (.cells #[.int .i64 (a : Int), .int .i64 (b : Int), .int .i64 (cc : Int)] 44)).heap[w3.heap.size]? = some (.cells #[.int .i64 (a : Int), .int .i64 (b : Int), .int .i64 (cc : Int)] 44 (0, 0))) := ⟨heap_alloc_new w3 _⟩
              have HB4 : Aside0 (Below w1.heap.size w1 (w3.alloc (.cells #[.int .i64 (a : Int), .int .i64 (b : Int), .int .i64 (cc : Int)] 44))) := ⟨below_alloc HB3.out _⟩
              generalize w3.alloc (.cells #[.int .i64 (a : Int), .int .i64 (b : Int), .int .i64 (cc : Int)] 44) = w4 at HNEW HB4 ⊢
              generalize w3.heap.size = gb at HNEW ⊢
              obtain ⟨SS, hSS⟩ : ∃ SS : World → Prop, SS = (fun w' => w'.cell? ⟨gb, 0, none⟩ = some (.int .i64 (a : Int)) ∧ w'.cell? ⟨gb, 1, none⟩ = some (.int .i64 (b : Int)) ∧ w'.cell? ⟨gb, 2, none⟩ = some (.int .i64 (cc : Int))) := ⟨_, rfl⟩
              have HSS : Aside0 (SS w4.drew) := ⟨by rw [hSS]; exact ⟨(cells3 HNEW.out).1, (cells3 HNEW.out).2.1, (cells3 HNEW.out).2.2.1⟩⟩
              have HSO : Aside0 (∀ w', SS w' → w'.cell? ⟨gb, 0, none⟩ = some (.int .i64 (a : Int)) ∧ w'.cell? ⟨gb, 1, none⟩ = some (.int .i64 (b : Int)) ∧ w'.cell? ⟨gb, 2, none⟩ = some (.int .i64 (cc : Int))) := ⟨fun w' h => by rw [hSS] at h; exact h⟩
              clear hSS hx0 hx1 hx2
              refine wp_region_noPanic ?_
              refine wp_region_held_drew (S := SS) (by kernel_rfl) HSS.out (fun hHeld => ?_)
              refine H_on 0 26 ?vj0 rfl rfl (by kernel_rfl) (by kernel_rfl) (by kernel_rfl) (by rfl) ?hj0 hHeld ?rj0
              case hj0 => (intro w hSw; obtain ⟨s0, s1, s2⟩ := HSO.out w hSw; go_simp <;> with_reducible rfl)
              simp only [Act.put, List.setIfInBounds_toArray, List.set_cons_zero, List.set_cons_succ]
              refine H_on 1 27 ?vj1 rfl rfl (by kernel_rfl) (by kernel_rfl) (by kernel_rfl) (by rfl) ?hj1 hHeld ?rj1
              case hj1 => (intro w hSw; obtain ⟨s0, s1, s2⟩ := HSO.out w hSw; go_simp <;> with_reducible rfl)
              simp only [Act.put, List.setIfInBounds_toArray, List.set_cons_zero, List.set_cons_succ]
              refine H_on 2 28 ?vj2 rfl rfl (by kernel_rfl) (by kernel_rfl) (by kernel_rfl) (by rfl) ?hj2 hHeld ?rj2
              case hj2 => (intro w hSw; obtain ⟨s0, s1, s2⟩ := HSO.out w hSw; go_simp <;> with_reducible rfl)
              simp only [Act.put, List.setIfInBounds_toArray, List.set_cons_zero, List.set_cons_succ]
              refine H_on 3 29 ?vj3 rfl rfl (by kernel_rfl) (by kernel_rfl) (by kernel_rfl) (by rfl) ?hj3 hHeld ?rj3
              case hj3 => (intro w hSw; obtain ⟨s0, s1, s2⟩ := HSO.out w hSw; go_simp <;> with_reducible rfl)
              simp only [Act.put, List.setIfInBounds_toArray, List.set_cons_zero, List.set_cons_succ]
              refine H_on 4 30 ?vj4 rfl rfl (by kernel_rfl) (by kernel_rfl) (by kernel_rfl) (by rfl) ?hj4 hHeld ?rj4
              case hj4 => (intro w hSw; obtain ⟨s0, s1, s2⟩ := HSO.out w hSw; go_simp <;> with_reducible rfl)
              simp only [Act.put, List.setIfInBounds_toArray, List.set_cons_zero, List.set_cons_succ]
              refine H_on 5 31 ?vj5 rfl rfl (by kernel_rfl) (by kernel_rfl) (by kernel_rfl) (by rfl) ?hj5 hHeld ?rj5
              case hj5 => (intro w hSw; obtain ⟨s0, s1, s2⟩ := HSO.out w hSw; go_simp <;> with_reducible rfl)
              simp only [Act.put, List.setIfInBounds_toArray, List.set_cons_zero, List.set_cons_succ]
              refine H_on 6 32 ?vj6 rfl rfl (by kernel_rfl) (by kernel_rfl) (by kernel_rfl) (by rfl) ?hj6 hHeld ?rj6
              case hj6 => (intro w hSw; obtain ⟨s0, s1, s2⟩ := HSO.out w hSw; go_simp <;> with_reducible rfl)
              simp only [Act.put, List.setIfInBounds_toArray, List.set_cons_zero, List.set_cons_succ]
              refine H_on 7 11 ?vj7 rfl rfl (by kernel_rfl) (by kernel_rfl) (by kernel_rfl) (by rfl) ?hj7 hHeld ?rj7
              case hj7 => (intro w hSw; obtain ⟨s0, s1, s2⟩ := HSO.out w hSw; go_simp <;> with_reducible rfl)
              simp only [Act.put, List.setIfInBounds_toArray, List.set_cons_zero, List.set_cons_succ]
              refine wpAnyH_done (by kernel_rfl) ?_ _
              refine NoPanic.normal ?_
              clear hHeld HSS HSO
              have hwa := wrap_two ha8
              have hwb := wrap_two hb8
              have hwc := wrap_two hc8
              have hwd := wrap64_two hc8
              have hP : bits .or .i64 (IntKind.i64.wrap (2 ^ a)) (IntKind.i64.wrap (2 ^ b)) = ((pairN ⟨(a : Int), (b : Int), (cc : Int)⟩ : Nat) : Int) := by rw [hwa, hwb]; exact low_or (two_256 ha8) (two_256 hb8)
              rw [hP]
              have hC8 := two_256 hc8
              have hQ : allN ⟨(a : Int), (b : Int), (cc : Int)⟩ = pairN ⟨(a : Int), (b : Int), (cc : Int)⟩ ||| 2 ^ cc := rfl
              have HCD : Aside0 (condJ s (passJ l s part k) ⟨(a : Int), (b : Int), (cc : Int)⟩ = (hasB (allN ⟨(a : Int), (b : Int), (cc : Int)⟩) s && decide (pairN ⟨(a : Int), (b : Int), (cc : Int)⟩ &&& passJ l s part k ≠ 0) && decide (diffN (pairN ⟨(a : Int), (b : Int), (cc : Int)⟩) (passJ l s part k) ≠ 0))) := ⟨rfl⟩
              have HSJ : Aside0 (stepJ s (passJ l s part k) ⟨(a : Int), (b : Int), (cc : Int)⟩ = if condJ s (passJ l s part k) ⟨(a : Int), (b : Int), (cc : Int)⟩ = true then passJ l s part k ||| pairN ⟨(a : Int), (b : Int), (cc : Int)⟩ else passJ l s part k) := ⟨rfl⟩
              clear hP hwa hwb ea eb ec ha8 hb8
              generalize stepJ s (passJ l s part k) ⟨(a : Int), (b : Int), (cc : Int)⟩ = stp at HPS HSJ
              generalize condJ s (passJ l s part k) ⟨(a : Int), (b : Int), (cc : Int)⟩ = cnd at HMS HCD HSJ
              generalize pairN ⟨(a : Int), (b : Int), (cc : Int)⟩ = P at hpa hQ HCD HSJ ⊢
              generalize allN ⟨(a : Int), (b : Int), (cc : Int)⟩ = Q at hal hQ HCD
              have hq := low_or hpa hC8
              rw [← hQ] at hq
              have hd1 := not_cast hal hs
              have hd2 := and_cast hpa hpk8
              have hd3 := not_cast hpa hpk8
              have hd4 := low_or hpk8 hpa
              generalize moreJ l s part k = mk at HMS ⊢
              generalize passJ l s part k = pk at HPS HCD HSJ hpk8 hd2 hd3 hd4 ⊢
              generalize ((2 ^ cc : Nat) : Int) = C at hwc hwd hq
              obtain ⟨_, _, c2, _⟩ := cells3 HNEW.out
              clear hQ hpa hC8 hpk8
              have hno : cnd = false → Aside0 (passJ l s part (k + 1) = pk) ∧ Aside0 (moreJ l s part (k + 1) = mk) := fun h => by
                have h1 := HSJ.out
                have h2 := HMS.out
                rw [h, if_neg Bool.false_ne_true] at h1
                rw [h, Bool.or_false] at h2
                exact ⟨⟨HPS.out.trans h1⟩, ⟨h2⟩⟩
              have hyes : cnd = true → Aside0 (passJ l s part (k + 1) = pk ||| P) ∧ Aside0 (moreJ l s part (k + 1) = true) := fun h => by
                have h1 := HSJ.out
                have h2 := HMS.out
                rw [h, if_pos rfl] at h1
                rw [h, Bool.or_true] at h2
                exact ⟨⟨HPS.out.trans h1⟩, ⟨h2⟩⟩
              clear HPS HMS HSJ
              have HBD : Aside0 (Below w1.heap.size w1 w4.drew) := ⟨below_drew HB4.out⟩
              by_cases e1 : diffN Q s = 0
              · rw [e1] at hd1
                by_cases e2 : P &&& pk = 0
                · rw [e2] at hd2
                  obtain ⟨HN1, HN2⟩ := hno (by rw [HCD.out, decide_eq_false (fun h => h e2), Bool.and_false, Bool.false_and])
                  clear hno hyes HCD hd3 hd4 e1 e2
                  go_wp2
                  go_roundg (n - (k + 1))
                  case measure => omega
                  case rel => exact ⟨k + 1, by omega, by omega, by go_num, by rw [HN1.out], by rw [HN2.out], HBD⟩
                · have e2b : (((P &&& pk : Nat) : Int) != 0) = true := by rw [bne_iff_ne]; omega
                  by_cases e3 : diffN P pk = 0
                  · rw [e3] at hd3
                    obtain ⟨HN1, HN2⟩ := hno (by rw [HCD.out, decide_eq_false (show ¬ (diffN P pk ≠ 0) from fun h => h e3), Bool.and_false])
                    generalize ((P &&& pk : Nat) : Int) = D2 at hd2 e2b
                    clear hno hyes HCD hd4 e1 e2 e3
                    go_wp2
                    go_roundg (n - (k + 1))
                    case measure => omega
                    case rel => exact ⟨k + 1, by omega, by omega, by go_num, by rw [HN1.out], by rw [HN2.out], HBD⟩
                  · have e3b : (((diffN P pk : Nat) : Int) != 0) = true := by rw [bne_iff_ne]; omega
                    obtain ⟨HN1, HN2⟩ := hyes (by rw [HCD.out, diff_zero.mp e1, decide_eq_true (show P &&& pk ≠ 0 from e2), decide_eq_true (show diffN P pk ≠ 0 from e3)]; rfl)
                    generalize ((P &&& pk : Nat) : Int) = D2 at hd2 e2b
                    generalize ((diffN P pk : Nat) : Int) = D3 at hd3 e3b
                    clear hno hyes HCD e1 e2 e3
                    go_wp2
                    go_roundg (n - (k + 1))
                    case measure => omega
                    case rel => exact ⟨k + 1, by omega, by omega, by go_num, by rw [HN1.out], by rw [HN2.out], HBD⟩
              · have e1b : (((diffN Q s : Nat) : Int) == 0) = false := by rw [beq_eq_false_iff_ne]; omega
                obtain ⟨HN1, HN2⟩ := hno (by
                  rw [HCD.out]
                  cases e : hasB Q s with
                  | false => rfl
                  | true => exact absurd (diff_zero.mpr e) e1)
                generalize ((diffN Q s : Nat) : Int) = D1 at hd1 e1b
                clear hno hyes HCD e1 hd2 hd3 hd4
                go_wp2
                go_roundg (n - (k + 1))
                case measure => omega
                case rel => exact ⟨k + 1, by omega, by omega, by go_num, by rw [HN1.out], by rw [HN2.out], HBD⟩
            · have hkz : ¬ (k : Int) < (n : Int) := by omega
              have hkn2 : k = n := by omega
              have HPE : Aside0 (passJ l s part k = passJ l s part n) := ⟨by rw [hkn2]⟩
              have HME : Aside0 (moreJ l s part k = moreJ l s part n) := ⟨by rw [hkn2]⟩
              rw [hkn2]
              cases hm : moreJ l s part n with
              | true =>
                have HGR3 : Aside0 (growJ l s f3 (passJ l s part n) = G) := ⟨by have := HGR2.out; rwa [hm, if_pos rfl] at this⟩
                have hpc : pcN part 8 < pcN (passJ l s part n) 8 := by
                  have h := more_pc (l := l) (s := s) (part := part) HL.out (by rw [HN.out]; exact hm)
                  rwa [HN.out] at h
                have hp9 : passJ l s part n < 256 := pass_256 HL.out hp8 n (by rw [HN.out]; exact Nat.le_refl _)
                have hpx := pcN_le (passJ l s part n) 8
                generalize passJ l s part n = pn at *
                clear HPE HME
                go_wp2
                go_roundg (2 * (8 - pcN pn 8) + 1)
                case measure => simp at hgg; omega
                case rel => exact ⟨f3, pn, true, rfl, rfl, hp9, by omega, fun _ => ⟨by omega, HGR3⟩, fun h => (by cases h), by simp, HB3⟩
              | false =>
                have HGR3 : Aside0 (passJ l s part n = G) := ⟨by have := HGR2.out; rwa [hm, if_neg Bool.false_ne_true] at this⟩
                have hp9 : passJ l s part n < 256 := pass_256 HL.out hp8 n (by rw [HN.out]; exact Nat.le_refl _)
                have hpc : pcN part 8 ≤ pcN (passJ l s part n) 8 := pcN_mono (pass_sub l s part n) 8
                generalize passJ l s part n = pn at *
                clear HPE HME
                go_wp2
                go_roundg (2 * (8 - pcN pn 8))
                case measure => simp at hgg; omega
                case rel => exact ⟨f3, pn, false, rfl, rfl, hp9, by omega, fun h => (by cases h), fun _ => HGR3, by simp, HB3⟩
end Go.Proofs.YtdbbcngmnpejnaaDoor.A

/- breed.build, walked. -/
namespace Go.Proofs.YtdbbcngmnpejnaaDoor.A
open Go.RowKit Go.Proofs.YtdbbcngmnpejnaaDoorW.PrintWords Go.Proofs.YtdbbcngmnpejnaaDoorW.PrintMore
/-- A tree that is handed back, or nil. -/
def TreePost (Z : Option BT) (W : World) (e : Ending) (w' : World) : Prop :=
  ((Z = none ∧ e = .returned .nilIface) ∨ ∃ (t : BT) (v : Value), Z = some t ∧ e = .returned v ∧ TrV w' (fun b => W.heap.size ≤ b) v t) ∧ Below W.heap.size W w'
/-- A family, as of hands it back, is the one of the trees in their order. -/
theorem family_of {W w' : World} {lo g cap n base : Nat} {xs ys : List TT} (hlo : lo ≤ g) (hR : kT.R 69 w' base (fun _ => True) (.slice (some ⟨g, 0, none⟩) n cap) ys) (hn : n = ys.length) (hgr : W.grownBy w' (some g)) (hok : ∀ x ∈ xs, TOk W (fun b => lo ≤ b ∧ b ≠ g) x) (hp : ys.Perm xs) :
    TrV w' (fun b => lo ≤ b) (.iface 111 (.agg #[.int .i64 ((BT.sets (ys.map (·.2)) : Nat) : Int), .slice (some ⟨g, 0, none⟩) n cap])) (.node (ys.map (·.2))) := by
  subst hn
  obtain ⟨cs, hb⟩ := Kd.R_typed hR g rfl
  refine trv_node.mpr ⟨g, cap, by rw [List.length_map], by rw [List.length_map]; exact (Kd.R_reads' hR).2.1, ⟨hlo, YtdbbcngmnpejnaaDoorW.PrintWords.blk_lt hb⟩, fun i k hi => ?_⟩
  rw [List.getElem?_map] at hi
  obtain ⟨y, hy, rfl⟩ := Option.map_eq_some_iff.mp hi
  have hil := (List.getElem?_eq_some_iff.mp hy).1
  obtain ⟨ad, had, hx0⟩ := ReadsOf.at_ (Kd.reads_of_C (d := default) (Kd.R_reads' hR).2.2) (i : Int) (by omega) (by omega)
  cases had
  rw [Int.toNat_natCast, YtdbbcngmnpejnaaDoorW.PrintWords.add_plain] at hx0
  have hrd : rdOf default ys (i : Int) = y := by simp [rdOf, List.getD_eq_getElem?_getD, hy]
  rw [hrd] at hx0
  have ht := (hok y (hp.mem_iff.mp (List.mem_of_getElem? hy)))
  exact ⟨_, hx0, (ht.move (ok' := fun b => lo ≤ b) hgr.size (fun b hb hl => hgr.block b hl (fun e => hb.2 (by cases e; rfl))) fun b hb _ => hb.1).1⟩
/-- Trees in the order of their least beasts: there is but one such order. -/
theorem order_one {ts us : List BT} (h1 : ts.Pairwise fun a b => low a.set < low b.set) (h2 : us.Pairwise fun a b => low a.set ≤ low b.set) (hp : us.Perm ts) : us = ts := by
  induction ts generalizing us with
  | nil => exact List.Perm.eq_nil hp
  | cons t ts ih =>
    rw [List.pairwise_cons] at h1
    cases us with
    | nil => exact absurd hp.length_eq (by simp)
    | cons u us =>
      rw [List.pairwise_cons] at h2
      have e : u = t := by
        rcases List.mem_cons.mp (hp.mem_iff.mp List.mem_cons_self) with a | a
        · exact a
        · have h3 := h1.1 u a
          rcases List.mem_cons.mp (hp.mem_iff.mpr (List.mem_cons_self (a := t) (l := ts))) with b | b
          · exact b.symm
          · have := h2.1 t b; omega
      subst e
      rw [ih h1.2 h2.2 (List.Perm.cons_inv hp)]

set_option maxRecDepth 100000 in
set_option maxHeartbeats 3200000 in
theorem build_step (A : Option Addr) (c : Nat) (l : List S44) (hl : ∀ t ∈ l, Tri8 t) (hn : l.length ≤ 1000) (f : Nat)
    (IH : ∀ s W, s ≠ 0 → s < 256 → pcN s 8 < f → Kd.C k44 W A l.length l → TabAt W → Calls Tryd.prog 44 #[.slice A l.length c, .int .i64 (s : Int)] W (TreePost (buildF l f s) W))
    (s : Nat) (W : World) (h0 : s ≠ 0) (h8 : s < 256) (hf : pcN s 8 < f + 1) (hr : Kd.C k44 W A l.length l) (hT : TabAt W) :
    Calls Tryd.prog 44 #[.slice A l.length c, .int .i64 (s : Int)] W (TreePost (buildF l (f + 1) s) W) := by
  have HR := Aside0.mk hr
  have HL := Aside0.mk hl
  have HT := Aside0.mk hT
  have HIH := Aside0.mk IH
  obtain ⟨Z, hZ⟩ : ∃ Z, buildF l (f + 1) s = Z := ⟨_, rfl⟩
  have HZ : Aside0 ((if s &&& (s - 1) = 0 then some (.leaf (low s)) else if (partsF l s).length = 1 then none else (mapO (buildF l f) (partsF l s)).map .node) = Z) := ⟨by rw [← hZ, buildF]⟩
  rw [hZ]
  have HZ0 := Aside0.mk hZ
  have HTW : Aside0 (1 < W.heap.size) := ⟨World.block_lt_of_cell? W _ (hT 0 (by decide))⟩
  have hand := and_cast (a := s) (b := s - 1) h8 (by omega)
  have hs1 : ((s - 1 : Nat) : Int) = (s : Int) - 1 := by omega
  rw [hs1] at hand
  have HJ := Aside0.mk (joined_calls A c l s h8 hl hn W hr)
  have HONE := Aside0.mk (one_iff s h8 h0)
  obtain ⟨n, hnn⟩ : ∃ n, l.length = n := ⟨_, rfl⟩
  have HN := Aside0.mk hnn
  rw [hnn] at HJ hn ⊢
  clear hr hl hT IH hZ hnn
  by_cases h1 : s &&& (s - 1) = 0
  · have HZ1 : Aside0 (some (.leaf (low s)) = Z) := ⟨by have := HZ.out; rwa [if_pos h1] at this⟩
    have HS := Aside0.mk (HONE.out.mp h1)
    rw [h1] at hand
    clear h1
    go_enter Tryd.func44, Tryd.ntmps44
    go_wp2
    go_ret
    refine ⟨Or.inr ⟨_, _, HZ1.out.symm, rfl, trv_leaf.mpr ?_⟩, Below.refl _ _⟩
    rw [← HS.out]
    rfl
  · have hab : (((s &&& (s - 1) : Nat) : Int) == 0) = false := by rw [beq_eq_false_iff_ne]; omega
    have HZ1 : Aside0 ((if (partsF l s).length = 1 then none else (mapO (buildF l f) (partsF l s)).map .node) = Z) := ⟨by have := HZ.out; rwa [if_neg h1] at this⟩
    clear h1 HZ HONE
    generalize ((s &&& (s - 1) : Nat) : Int) = sa at hand hab
    go_enter Tryd.func44, Tryd.ntmps44
    go_upto_region 4 with (go_at_call 48; go_must (refine HJ.out.mono ?_; rintro e w1 ⟨v1, rfl, hR1, hb1⟩; have HR1 := Aside0.mk hR1; have HB1 := Aside0.mk hb1; clear hR1 hb1))
    have HJP : Aside0 ((joinedF l s).Perm ((partsF l s).map fun p : Nat => (p : Int))) := ⟨List.mergeSort_perm _ _⟩
    have hml : (joinedF l s).length = (partsF l s).length := by rw [HJP.out.length_eq, List.length_map]
    have hm8 : (joinedF l s).length ≤ 8 := by
      have h := asc_len (m := 8) ((partsF l s).map low) 0 (by rw [List.pairwise_map]; exact (parts_spec HL.out h8).apart.imp fun h => h.2) (fun x hx => by
        obtain ⟨p, hp, rfl⟩ := List.mem_map.mp hx
        exact ⟨Nat.zero_le _, low_lt ((parts_spec HL.out h8).ne p hp) (lt_of_bits (k := 8) fun i hi => bit_lt (k := 8) h8 ((parts_spec HL.out h8).sub p hp i hi))⟩) (by decide)
      rw [List.length_map] at h
      omega
    have hm1 : 1 ≤ (joinedF l s).length := by
      rw [hml]
      have : (partsF l s).length ≠ 0 := fun e => by
        obtain ⟨i, hi⟩ := ne_bit h0
        obtain ⟨p, hp, _⟩ := (parts_spec HL.out h8).all i hi
        rw [List.length_eq_zero_iff.mp e] at hp; cases hp
      omega
    obtain ⟨A1, c1, hv1, _, hC1⟩ := Kd.R_reads HR1.out
    subst hv1
    have HC1 := Aside0.mk hC1
    obtain ⟨m, hm⟩ : ∃ m, (joinedF l s).length = m := ⟨_, rfl⟩
    rw [hm] at hm8 hm1 HC1 hml ⊢
    have HM := Aside0.mk hm
    have HML := Aside0.mk hml
    clear hC1 hm
    by_cases h1 : m = 1
    · have HZ2 : Aside0 (none = Z) := ⟨by have := HZ1.out; rwa [if_pos (by omega)] at this⟩
      have hme : ((m : Int) == 1) = true := by rw [beq_iff_eq]; omega
      clear h1 hm1 hm8 hml
      go_wp2
      go_ret
      exact ⟨Or.inl ⟨HZ2.out.symm, rfl⟩, HB1.out⟩
    · have HZ2 : Aside0 ((mapO (buildF l f) (partsF l s)).map .node = Z) := ⟨by have := HZ1.out; rwa [if_neg (by omega)] at this⟩
      have hme : ((m : Int) == 1) = false := by rw [beq_eq_false_iff_ne]; omega
      have hm2 : 2 ≤ m := by omega
      have HPL : Aside0 (∀ p ∈ partsF l s, pcN p 8 < f) := ⟨fun p hp => by
        have := part_less HL.out h8 hp (by omega)
        omega⟩
      have HPS : Aside0 (∀ p ∈ partsF l s, p ≠ 0 ∧ p < 256) := ⟨fun p hp => ⟨(parts_spec HL.out h8).ne p hp, lt_of_bits (k := 8) fun i hi => bit_lt (k := 8) h8 ((parts_spec HL.out h8).sub p hp i hi)⟩⟩
      clear h1 hm1 HZ1 hml
      go_upto_region 8 with fail
      go_loopg [6, 8, 9, 26] m (fun gg v6 _ _ v26 wr => ∃ (k : Nat) (vo : Value) (xs : List TT), k ≤ m ∧ m - k ≤ gg ∧ v26 = .int .i64 k ∧ vo = v6 ∧ xs.length = k ∧ Aside0 (kT.R 69 wr w1.heap.size (fun _ => True) vo xs) ∧ Aside0 (∀ i, i < k → buildF l f ((joinedF l s).getD i 0).toNat = some (xs.getD i default).2) ∧ Aside0 (∀ x ∈ xs, TOk wr (fun b => W.heap.size ≤ b ∧ some b ≠ vo.ownBlock) x) ∧ Aside0 (Below w1.heap.size w1 wr))
      case atStart => exact ⟨0, _, [], Nat.zero_le _, by omega, rfl, rfl, rfl, ⟨Kd.R_nil _ _ _ _ _⟩, ⟨fun i h => absurd h (Nat.not_lt_zero _)⟩, ⟨fun x h => (by cases h)⟩, ⟨Below.refl _ _⟩⟩
      case round =>
        obtain ⟨k, vo, xs, hk, hgg, rfl, hvo, hxk, HV, HBX, HOK, HB⟩ := hrel
        subst hvo
        by_cases hkm : k < m
        · have hkz : (k : Int) < (m : Int) := by omega
          obtain ⟨ad, had, hx0⟩ := Kd.at_int (Kd.C_below HC1.out HB.out) (k : Int) (by omega) (by omega)
          subst had
          rw [Int.toNat_natCast] at hx0
          have hrd : rd (joinedF l s) (k : Int) = (joinedF l s).getD k 0 := by simp [rd]
          have hmem : (joinedF l s).getD k 0 ∈ joinedF l s := getD_mem 0 (by rw [HM.out]; exact hkm)
          obtain ⟨p, hp, hpe⟩ := List.mem_map.mp (HJP.out.mem_iff.mp hmem)
          rw [hrd, ← hpe] at hx0
          have HPE : Aside0 (((joinedF l s).getD k 0).toNat = p) := ⟨by rw [← hpe]; rfl⟩
          have hWr : Below W.heap.size W wr := below_then HB1.out HB1.out.size HB.out
          have hcall := HIH.out p wr (HPS.out p hp).1 (HPS.out p hp).2 (HPL.out p hp) (Kd.C_below HR.out hWr) (HT.out.next hWr)
          rw [HN.out] at hcall
          have HWR := Aside0.mk hWr
          have HPM := Aside0.mk hp
          have hp8 := HPS.out p hp
          clear hrd hmem hp hpe hWr
          cases hb : buildF l f p with
          | none =>
            rw [hb] at hcall
            have HC : Aside0 (Calls Tryd.prog 44 #[.slice A n c, .int .i64 (p : Int)] wr fun e w' => e = .returned .nilIface ∧ Below wr.heap.size wr w') := ⟨hcall.mono (by
              rintro e w' ⟨⟨_, rfl⟩ | ⟨t, v, h, _⟩, hb⟩
              · exact ⟨rfl, hb⟩
              · cases h)⟩
            have HZ3 : Aside0 (none = Z) := ⟨by have := HZ2.out; rwa [mapO_none.mpr ⟨p, HPM.out, hb⟩] at this⟩
            clear hcall hb
            go_wp2_with (go_at_call 44; go_must (refine HC.out.mono ?_; rintro e w5 ⟨rfl, hb5⟩; have HB5 := Aside0.mk (below_then HWR.out HWR.out.size hb5); clear hb5))
            go_ret
            exact ⟨Or.inl ⟨HZ3.out.symm, rfl⟩, HB5.out⟩
          | some t =>
            rw [hb] at hcall
            have HC : Aside0 (Calls Tryd.prog 44 #[.slice A n c, .int .i64 (p : Int)] wr fun e w' => ∃ v, e = .returned v ∧ TrV w' (fun b => wr.heap.size ≤ b) v t ∧ Below wr.heap.size wr w') := ⟨hcall.mono (by
              rintro e w' ⟨⟨h, _⟩ | ⟨t', v, h, rfl, ht⟩, hb⟩
              · cases h
              · cases h; exact ⟨v, rfl, ht, hb⟩)⟩
            have HBP := Aside0.mk hb
            have HGT := Aside0.mk (build_good HL.out f p t hp8.1 hp8.2 hb).1
            clear hcall hb
            have hxm : xs.length ≤ 8 := by omega
            have hown : ∀ g, vo.ownBlock = some g → g < wr.heap.size := fun g hg => by
              obtain ⟨cs, h⟩ := Kd.R_typed HV.out g hg
              exact YtdbbcngmnpejnaaDoorW.PrintWords.blk_lt h
            have HOWN := Aside0.mk hown
            obtain ⟨A6, c6, hv6, _, _⟩ := Kd.R_reads HV.out
            rw [hxk] at hv6
            subst hv6
            clear hown
            go_wp2_with (first
              | (go_at_call 44; go_must (refine HC.out.mono ?_; rintro e w5 ⟨v5, rfl, htv, hb5⟩; obtain ⟨T, u, rfl, _⟩ := htv.ask; have HTV := Aside0.mk htv; have HB5 := Aside0.mk hb5; have HBW5 := Aside0.mk (below_then HB.out HB.out.size hb5); have HV5 := Aside0.mk (Kd.R_below HV.out hb5); obtain ⟨x, hx2, hxe⟩ := htv.tok; have HX2 := Aside0.mk hx2; have HXE := Aside0.mk hxe; clear htv hb5 hx2 hxe))
              | (at_builtin; go_must (refine Kd.R_append kT (w0 := w1) w1.heap.size rfl (.tmp 35) (.tmp 37) 79 69 .nilIface 16 rfl Tryd.underlying79 info69 rfl (by decide) (by decide) (.slice A6 k c6) xs x [.iface T u] (fun _ => True) (fun _ => False) rfl rfl (by rw [← HXE.out]; rfl) (fun _ hk => hk.elim) (fun _ _ => trivial) HV5.out HBW5.out HBW5.out.size (by omega) ?_; intro v6 w6 ho hb6 hg6 hat6; have HO6 := Aside0.mk ho; have HB6 := Aside0.mk hb6; have HG6 := Aside0.mk hg6; have HAT6 := Aside0.mk hat6; clear ho hb6 hg6 hat6)))
            go_roundg (m - (k + 1))
            case measure => omega
            case rel =>
              refine ⟨k + 1, _, xs ++ [x], by omega, by omega, by go_num, rfl, by rw [List.length_append, List.length_singleton]; omega, HO6, ⟨fun i hi => ?_⟩, ⟨fun y hy => ?_⟩, HB6⟩
              · by_cases e : i < k
                · rw [HBX.out i e, List.getD_eq_getElem?_getD, List.getD_eq_getElem?_getD, List.getElem?_append_left (by omega)]
                · have e2 : i = k := by omega
                  subst e2
                  rw [HPE.out, HBP.out, List.getD_eq_getElem?_getD, List.getElem?_append_right (by omega), hxk, Nat.sub_self]
                  show some t = some x.2
                  rw [HX2.out]
              · have hgw : w5.heap.size ≤ w6.heap.size := HG6.out.size
                have hne : ∀ b, b < w5.heap.size → some b ≠ (Value.slice A6 k c6).ownBlock → some b ≠ v6.ownBlock := fun b hb hn e => by
                  rcases HAT6.out with h | ⟨b', h, hb'⟩
                  · rw [h] at e; exact hn e
                  · rw [h] at e; cases e; omega
                rcases List.mem_append.mp hy with hy | hy
                · exact ((HOK.out y hy).below HB5.out).move hgw (fun b hb hl => HG6.out.block b hl hb.2) fun b hb hl => ⟨hb.1, hne b hl hb.2⟩
                · rw [List.mem_singleton.mp hy]
                  have hx5 : TOk w5 (fun b => wr.heap.size ≤ b) x := ⟨by rw [HXE.out, HX2.out]; exact HTV.out, by rw [HX2.out]; exact HGT.out.small⟩
                  have hap : ∀ b, wr.heap.size ≤ b → some b ≠ (Value.slice A6 k c6).ownBlock := fun b hb e => by have := HOWN.out b e.symm; omega
                  exact hx5.move hgw (fun b hb hl => HG6.out.block b hl (hap b hb)) fun b hb hl => ⟨Nat.le_trans HWR.out.size hb, hne b hl (hap b hb)⟩
        · have hkz : ¬ (k : Int) < (m : Int) := by omega
          have hkm2 : k = m := by omega
          subst hkm2
          obtain ⟨g, cap, hv6, _⟩ := Kd.R_form HV.out (by omega)
          rw [hxk] at hv6
          subst hv6
          have hgb : w1.heap.size ≤ g := Kd.R_base HV.out g rfl
          have hWr : Below W.heap.size W wr := below_then HB1.out HB1.out.size HB.out
          have hg1 : g ≠ 1 := by have := HTW.out; have := HB1.out.size; omega
          have hOK2 : ∀ x ∈ xs, TOk wr (fun b => W.heap.size ≤ b ∧ b ≠ g) x := fun x hx => (HOK.out x hx).move (Nat.le_refl _) (fun _ _ _ => rfl) fun b hb _ => ⟨hb.1, fun e => hb.2 (by rw [e]; rfl)⟩
          have hOF := of_many HV.out hxk.symm (fun x hx => (hOK2 x hx).move (Nat.le_refl _) (fun _ _ _ => rfl) fun b hb _ => hb.2) (HT.out.next hWr) hg1 (by omega) (by omega)
          have HOF := Aside0.mk hOF
          have HOK2 := Aside0.mk hOK2
          have HWR := Aside0.mk hWr
          -- the plain tree
          have HTS : Aside0 (∃ ts, Z = some (.node ts) ∧ ts.Perm (xs.map (·.2)) ∧ ts.Pairwise fun a b => low a.set < low b.set) := ⟨by
            have hnn : mapO (buildF l f) (partsF l s) ≠ none := fun e => by
              obtain ⟨p, hp, hb⟩ := mapO_none.mp e
              have hpm : ((p : Nat) : Int) ∈ joinedF l s := HJP.out.mem_iff.mpr (List.mem_map.mpr ⟨p, hp, rfl⟩)
              obtain ⟨i, hi, he⟩ := List.getElem_of_mem hpm
              have h2 := HBX.out i (by rw [HM.out] at hi; exact hi)
              rw [List.getD_eq_getElem?_getD, List.getElem?_eq_getElem hi, he] at h2
              rw [show ((some ((p : Nat) : Int)).getD 0).toNat = p from rfl, hb] at h2
              cases h2
            cases hts : mapO (buildF l f) (partsF l s) with
            | none => exact absurd hts hnn
            | some ts =>
              have hZ := HZ2.out
              rw [hts] at hZ
              have hm := mapO_some.mp hts
              have hxs : (joinedF l s).map (fun i => buildF l f i.toNat) = (xs.map (·.2)).map some := by
                refine List.ext_getElem (by rw [List.length_map, List.length_map, List.length_map, HM.out, hxk]) fun i h1 h2 => ?_
                rw [List.length_map] at h1
                have h3 := HBX.out i (by rw [HM.out] at h1; exact h1)
                have h4 : i < xs.length := by simpa using h2
                rw [List.getD_eq_getElem?_getD, List.getElem?_eq_getElem h1, List.getD_eq_getElem?_getD, List.getElem?_eq_getElem h4] at h3
                simpa using h3
              have hpm : ((partsF l s).map (buildF l f)).Perm ((joinedF l s).map fun i => buildF l f i.toNat) := by
                have := (HJP.out.map fun i => buildF l f i.toNat).symm
                rw [List.map_map] at this
                exact this
              rw [hm, hxs] at hpm
              have hpm2 := hpm.filterMap id
              rw [List.filterMap_map, List.filterMap_map] at hpm2
              simp at hpm2
              have hgd := (build_good HL.out (f + 1) s (.node ts) h0 h8 (HZ0.out.trans hZ.symm)).1
              exact ⟨ts, hZ.symm, by simpa using hpm2, (good_node.mp hgd).2.2.imp fun h => h.2⟩⟩
          clear hOF hOK2 hWr
          go_wp2_with (go_at_call 70; go_must (refine HOF.out.mono ?_; rintro e w7 ⟨ys, rfl, hp, hs, hR, hg⟩; have HP := Aside0.mk hp; have HSS := Aside0.mk hs; have HR7 := Aside0.mk hR; have HG7 := Aside0.mk hg; clear hp hs hR hg))
          go_ret
          obtain ⟨ts, hZ, hpt, hpw⟩ := HTS.out
          have hyt : ys.map (·.2) = ts := order_one hpw (by rw [List.pairwise_map]; exact HSS.out) ((HP.out.map _).trans hpt.symm)
          refine ⟨Or.inr ⟨.node (ys.map (·.2)), .iface 111 (.agg #[.int .i64 ((BT.sets (ys.map (·.2)) : Nat) : Int), .slice (some ⟨g, 0, none⟩) k cap]), by rw [hyt]; exact hZ, rfl, family_of (Nat.le_trans HB1.out.size hgb) HR7.out (by rw [HP.out.length_eq]; exact hxk.symm) HG7.out HOK2.out HP.out⟩, HWR.out.grown HG7.out HWR.out.size (fun j hj => by cases hj; exact Nat.le_trans HB1.out.size hgb)⟩
/-- breed.build. -/
theorem build_calls (A : Option Addr) (c : Nat) (l : List S44) (hl : ∀ t ∈ l, Tri8 t) (hn : l.length ≤ 1000) : ∀ f s W, s ≠ 0 → s < 256 → pcN s 8 < f → Kd.C k44 W A l.length l → TabAt W → Calls Tryd.prog 44 #[.slice A l.length c, .int .i64 (s : Int)] W (TreePost (buildF l f s) W)
  | 0, _, _, _, _, h, _, _ => absurd h (Nat.not_lt_zero _)
  | f + 1, s, W, h0, h8, h, hr, hT => build_step A c l hl hn f (fun s W h0 h8 hf hr hT => build_calls A c l hl hn f s W h0 h8 hf hr hT) s W h0 h8 h hr hT
end Go.Proofs.YtdbbcngmnpejnaaDoor.A

/- The tree of those of a tree's beasts that are in a set, plain. -/
namespace Go.Proofs.YtdbbcngmnpejnaaDoor.A
/-- Trees in the order of their least beasts. -/
def sortB (ts : List BT) : List BT := ts.mergeSort fun a b => decide (low a.set ≤ low b.set)
/-- One tree of some: none, the only one, or a family. -/
def ofB : List BT → Option BT
  | [] => none
  | [t] => some t
  | t :: u :: ts => some (.node (sortB (t :: u :: ts)))
mutual
def BT.kept (s : Nat) : BT → Option BT
  | .leaf i => if 2 ^ i &&& s = 0 then none else some (.leaf i)
  | .node ks => ofB (BT.keptL s ks)
def BT.keptL (s : Nat) : List BT → List BT
  | [] => []
  | k :: ks => match k.kept s with
    | none => BT.keptL s ks
    | some t => t :: BT.keptL s ks
end
theorem keptL_snoc (s : Nat) (k : BT) : ∀ ks : List BT, BT.keptL s (ks ++ [k]) = BT.keptL s ks ++ (match k.kept s with | none => [] | some t => [t])
  | [] => by rw [List.nil_append, BT.keptL, BT.keptL]; cases k.kept s <;> rfl
  | x :: ks => by
    rw [List.cons_append, BT.keptL, BT.keptL, keptL_snoc s k ks]
    cases x.kept s with
    | none => rfl
    | some t => rfl
theorem keptL_mem {s : Nat} {t : BT} : ∀ {ks : List BT}, t ∈ BT.keptL s ks ↔ ∃ k ∈ ks, k.kept s = some t
  | [] => by rw [BT.keptL]; simp
  | k :: ks => by
    rw [BT.keptL]
    have ih := keptL_mem (s := s) (t := t) (ks := ks)
    cases h : k.kept s with
    | none => simp only []; rw [ih]; simp [h]
    | some u =>
      simp only [List.mem_cons, exists_eq_or_imp, h, ih, Option.some.injEq]
      constructor
      · rintro (e | e)
        · exact .inl e.symm
        · exact .inr e
      · rintro (e | e)
        · exact .inl e.symm
        · exact .inr e
theorem sortB_perm (ts : List BT) : (sortB ts).Perm ts := List.mergeSort_perm _ _
theorem sortB_sorted (ts : List BT) : (sortB ts).Pairwise fun a b => low a.set ≤ low b.set := by
  have h := List.pairwise_mergeSort (le := fun a b : BT => decide (low a.set ≤ low b.set)) (fun a b c h1 h2 => by
    rw [decide_eq_true_iff] at *; omega) (fun a b => by
    rw [Bool.or_eq_true, decide_eq_true_iff, decide_eq_true_iff]; omega) ts
  exact h.imp fun h => of_decide_eq_true h
/-- Sorted by the least beasts, apart trees ascend strictly. -/
theorem sortB_strict {ts : List BT} (hg : ∀ t ∈ ts, t.Good) (hd : ts.Pairwise fun a b => a.set &&& b.set = 0) : (sortB ts).Pairwise fun a b => a.set &&& b.set = 0 ∧ low a.set < low b.set := by
  have hd2 : (sortB ts).Pairwise fun a b => a.set &&& b.set = 0 := hd.perm (sortB_perm ts).symm fun h => by rw [Nat.and_comm]; exact h
  refine List.Pairwise.imp_of_mem ?_ (hd2.and (sortB_sorted ts))
  intro a b ha hb h
  have hga := hg a ((sortB_perm ts).mem_iff.mp ha)
  have hgb := hg b ((sortB_perm ts).mem_iff.mp hb)
  refine ⟨h.1, ?_⟩
  rcases Nat.lt_or_ge (low a.set) (low b.set) with h2 | h2
  · exact h2
  · exfalso
    have e : low a.set = low b.set := by have := h.2; omega
    have h3 := disj_iff.mp h.1 _ (low_bit (good_ne hga) (good_256 hga))
    rw [e, low_bit (good_ne hgb) (good_256 hgb)] at h3
    cases h3
theorem sets_perm {a b : List BT} (h : a.Perm b) : BT.sets a = BT.sets b := Nat.eq_of_testBit_eq fun i => by
  have : (BT.sets a).testBit i = true ↔ (BT.sets b).testBit i = true := by
    rw [sets_bit, sets_bit]
    exact ⟨fun ⟨k, hk, hi⟩ => ⟨k, h.mem_iff.mp hk, hi⟩, fun ⟨k, hk, hi⟩ => ⟨k, h.mem_iff.mpr hk, hi⟩⟩
  cases h1 : (BT.sets a).testBit i with
  | true => rw [this.mp h1]
  | false => cases h2 : (BT.sets b).testBit i with
    | false => rfl
    | true => rw [this.mpr h2] at h1; cases h1
theorem ofB_good {ts : List BT} (hg : ∀ t ∈ ts, t.Good) (hd : ts.Pairwise fun a b => a.set &&& b.set = 0) {t : BT} (h : ofB ts = some t) : t.Good ∧ t.set = BT.sets ts := by
  match ts, hg, hd, h with
  | [x], hg, _, h =>
    cases h
    exact ⟨hg _ List.mem_cons_self, by rw [BT.sets, BT.sets, Nat.or_zero]⟩
  | x :: y :: r, hg, hd, h =>
    cases h
    refine ⟨good_node.mpr ⟨?_, fun k hk => hg k ((sortB_perm _).mem_iff.mp hk), sortB_strict hg hd⟩, ?_⟩
    · rw [(sortB_perm _).length_eq]; simp
    · rw [set_node]; exact sets_perm (sortB_perm _)
/-- What is kept is a good tree of the beasts that are in both. -/
theorem kept_spec (s : Nat) (t : BT) : t.Good → (∀ u, t.kept s = some u → u.Good ∧ u.set = t.set &&& s) ∧ (t.kept s = none → t.set &&& s = 0) := by
  refine BT.ind (P := fun t => t.Good → (∀ u, t.kept s = some u → u.Good ∧ u.set = t.set &&& s) ∧ (t.kept s = none → t.set &&& s = 0)) (fun i hi => ?_) (fun ks ih hg => ?_) t
  · rw [BT.kept, set_leaf]
    by_cases h : 2 ^ i &&& s = 0
    · rw [if_pos h]
      exact ⟨fun u hu => (by cases hu), fun _ => h⟩
    · rw [if_neg h]
      refine ⟨fun u hu => ?_, fun hu => (by cases hu)⟩
      cases hu
      refine ⟨hi, ?_⟩
      rw [set_leaf]
      obtain ⟨j, h1, h2⟩ := meet_iff.mp h
      rw [two_bit, decide_eq_true_iff] at h1
      subst h1
      refine Nat.eq_of_testBit_eq fun j => ?_
      rw [Nat.testBit_and, two_bit]
      by_cases e : i = j
      · subst e; rw [h2]; simp
      · simp [e]
  · obtain ⟨h2, hks, hp⟩ := good_node.mp hg
    rw [BT.kept, set_node]
    have hl : ∀ l : List BT, (∀ k ∈ l, k ∈ ks) → (l.Pairwise fun a b => a.set &&& b.set = 0) → (∀ t ∈ BT.keptL s l, t.Good) ∧ (BT.keptL s l).Pairwise (fun a b => a.set &&& b.set = 0) ∧ BT.sets (BT.keptL s l) = BT.sets l &&& s := by
      intro l
      induction l with
      | nil => intro _ _; rw [BT.keptL, BT.sets]; exact ⟨fun t h => (by cases h), List.Pairwise.nil, (Nat.zero_and s).symm⟩
      | cons k l ihl =>
        intro hm hpw
        rw [List.pairwise_cons] at hpw
        obtain ⟨g1, g2, g3⟩ := ihl (fun x hx => hm x (List.mem_cons_of_mem _ hx)) hpw.2
        obtain ⟨k1, k2⟩ := ih k (hm k List.mem_cons_self) (hks k (hm k List.mem_cons_self))
        rw [BT.keptL, BT.sets, Nat.and_or_distrib_right, ← g3]
        cases hk : k.kept s with
        | none => exact ⟨g1, g2, by rw [k2 hk, Nat.zero_or]⟩
        | some u =>
          obtain ⟨u1, u2⟩ := k1 u hk
          refine ⟨fun t ht => ?_, ?_, by rw [BT.sets, u2]⟩
          · rcases List.mem_cons.mp ht with e | e
            · rw [e]; exact u1
            · exact g1 t e
          · rw [List.pairwise_cons]
            refine ⟨fun t ht => disj_iff.mpr fun i hi => ?_, g2⟩
            rw [u2, Nat.testBit_and, Bool.and_eq_true] at hi
            cases e : t.set.testBit i with
            | false => rfl
            | true =>
              have h3 : (BT.sets l).testBit i = true := by
                have : (BT.sets (BT.keptL s l)).testBit i = true := sets_bit.mpr ⟨t, ht, e⟩
                rw [g3, Nat.testBit_and, Bool.and_eq_true] at this
                exact this.1
              obtain ⟨x, hx, hxi⟩ := sets_bit.mp h3
              rw [disj_iff.mp (hpw.1 x hx) i hi.1] at hxi; cases hxi
    obtain ⟨g1, g2, g3⟩ := hl ks (fun _ h => h) (hp.imp fun h => h.1)
    refine ⟨fun u hu => ?_, fun hn => ?_⟩
    · obtain ⟨h3, h4⟩ := ofB_good g1 g2 hu
      exact ⟨h3, by rw [h4, g3]⟩
    · cases hkl : BT.keptL s ks with
      | nil => rw [← g3, hkl, BT.sets]
      | cons a r => rw [hkl] at hn; cases r <;> cases hn
theorem keptL_len (s : Nat) : ∀ ks : List BT, (BT.keptL s ks).length ≤ ks.length
  | [] => by rw [BT.keptL]; exact Nat.le_refl _
  | k :: ks => by
    have ih := keptL_len s ks
    rw [BT.keptL]
    cases k.kept s with
    | none => simp only [List.length_cons]; omega
    | some t => simp only [List.length_cons]; omega
theorem keptL_good {s : Nat} {ks : List BT} (hg : (BT.node ks).Good) : ∀ t ∈ BT.keptL s ks, t.Good := fun t ht => by
  obtain ⟨_, hks, _⟩ := good_node.mp hg
  obtain ⟨k, hk, e⟩ := keptL_mem.mp ht
  exact ((kept_spec s k (hks k hk)).1 t e).1
theorem keptL_disj (s : Nat) : ∀ {ks : List BT}, (∀ k ∈ ks, k.Good) → (ks.Pairwise fun a b => a.set &&& b.set = 0) → (BT.keptL s ks).Pairwise fun a b => a.set &&& b.set = 0
  | [], _, _ => by rw [BT.keptL]; exact List.Pairwise.nil
  | k :: ks, hg, hp => by
    rw [List.pairwise_cons] at hp
    have ih := keptL_disj s (fun x hx => hg x (List.mem_cons_of_mem _ hx)) hp.2
    rw [BT.keptL]
    cases hk : k.kept s with
    | none => exact ih
    | some u =>
      refine List.pairwise_cons.mpr ⟨fun t ht => ?_, ih⟩
      obtain ⟨x, hx, hxt⟩ := keptL_mem.mp ht
      have h1 := ((kept_spec s k (hg k List.mem_cons_self)).1 u hk).2
      have h2 := ((kept_spec s x (hg x (List.mem_cons_of_mem _ hx))).1 t hxt).2
      refine disj_iff.mpr fun i hi => ?_
      rw [h1, Nat.testBit_and, Bool.and_eq_true] at hi
      rw [h2, Nat.testBit_and, disj_iff.mp (hp.1 x hx) i hi.1]
      rfl
end Go.Proofs.YtdbbcngmnpejnaaDoor.A

/- A tree as it is read, plain. -/
namespace Go.Proofs.YtdbbcngmnpejnaaDoor.A
/-- May a tree stand behind those that have been read? -/
def nextOk (l : List BT) (all : Nat) (t : BT) : Bool := decide (t.set &&& all = 0) && (l.isEmpty || decide (low ((l.getLast?).getD default).set < low t.set))
mutual
/-- A tree at the head of a text, and what is behind it. (The number bounds how deep one may go.) -/
def readP : Nat → List UInt8 → Option (BT × List UInt8)
  | 0, _ => none
  | _ + 1, [] => none
  | f + 1, c :: L => if 48 ≤ c.toNat ∧ c.toNat ≤ 55 then some (.leaf (c.toNat - 48), L) else if c.toNat = 40 then loopP f [] 0 L else none
def loopP : Nat → List BT → Nat → List UInt8 → Option (BT × List UInt8)
  | 0, _, _, _ => none
  | f + 1, l, all, L => match readP f L with
    | none => none
    | some (t, L') => if nextOk l all t = true then (match L' with
        | [] => none
        | c :: L2 => if c.toNat = 41 then (if 1 < (l ++ [t]).length then some (.node (l ++ [t]), L2) else none) else if c.toNat = 44 then loopP f (l ++ [t]) (all ||| t.set) L2 else none) else none
end
/-- Trees that have been read: good, apart, ascending. -/
def ReadL (l : List BT) (all : Nat) : Prop := (∀ t ∈ l, t.Good) ∧ (l.Pairwise fun a b => a.set &&& b.set = 0 ∧ low a.set < low b.set) ∧ all = BT.sets l
theorem read_nil : ReadL [] 0 := ⟨fun t h => (by cases h), List.Pairwise.nil, by rw [BT.sets]⟩
theorem read_next {l : List BT} {all : Nat} {t : BT} (h : ReadL l all) (hg : t.Good) (hn : nextOk l all t = true) : ReadL (l ++ [t]) (all ||| t.set) := by
  obtain ⟨h1, h2, h3⟩ := h
  unfold nextOk at hn
  rw [Bool.and_eq_true, decide_eq_true_iff, Bool.or_eq_true, decide_eq_true_iff] at hn
  refine ⟨fun x hx => ?_, ?_, ?_⟩
  · rcases List.mem_append.mp hx with e | e
    · exact h1 x e
    · rw [List.mem_singleton.mp e]; exact hg
  · refine List.pairwise_append.mpr ⟨h2, List.pairwise_singleton _ _, fun a ha b hb => ?_⟩
    rw [List.mem_singleton.mp hb]
    refine ⟨disj_iff.mpr fun i hi => ?_, ?_⟩
    · cases e : t.set.testBit i with
      | false => rfl
      | true =>
        have := disj_iff.mp hn.1 i e
        rw [h3, sets_bit.mpr ⟨a, ha, hi⟩] at this; cases this
    · rcases hn.2 with e | e
      · rw [List.isEmpty_iff.mp e] at ha; cases ha
      · -- the last one is the greatest
        have hl : l ≠ [] := fun e2 => by rw [e2] at ha; cases ha
        rw [List.getLast?_eq_some_getLast hl, Option.getD_some] at e
        have : low a.set ≤ low (l.getLast hl).set := by
          rw [List.pairwise_iff_getElem] at h2
          obtain ⟨i, hi, e2⟩ := List.getElem_of_mem ha
          rw [List.getLast_eq_getElem, ← e2]
          by_cases e3 : i = l.length - 1
          · subst e3; exact Nat.le_refl _
          · exact Nat.le_of_lt (h2 i (l.length - 1) hi (by omega) (by omega)).2
        omega
  · rw [h3, sets_append, BT.sets, BT.sets, Nat.or_zero]
theorem read_goods : ∀ f, (∀ L t L', readP f L = some (t, L') → t.Good ∧ L'.length < L.length) ∧ ∀ l all L t L', ReadL l all → loopP f l all L = some (t, L') → t.Good ∧ L'.length < L.length
  | 0 => ⟨fun L t L' h => (by rw [readP] at h; cases h), fun l all L t L' _ h => (by rw [loopP] at h; cases h)⟩
  | f + 1 => by
    obtain ⟨ih1, ih2⟩ := read_goods f
    refine ⟨fun L t L' h => ?_, fun l all L t L' hr h => ?_⟩
    · cases L with
      | nil => rw [readP] at h; cases h
      | cons c L =>
        rw [readP] at h
        split at h
        · rename_i hc
          cases h
          exact ⟨by rw [BT.Good]; omega, by simp⟩
        · split at h
          · have := ih2 _ _ _ _ _ read_nil h
            exact ⟨this.1, by rw [List.length_cons]; omega⟩
          · cases h
    · rw [loopP] at h
      cases hp : readP f L with
      | none => rw [hp] at h; cases h
      | some q =>
        obtain ⟨u, L1⟩ := q
        rw [hp] at h
        dsimp only at h
        obtain ⟨hu, hl1⟩ := ih1 _ _ _ hp
        split at h
        · rename_i hn
          have hr2 := read_next hr hu hn
          cases L1 with
          | nil => cases h
          | cons c L2 =>
            dsimp only at h
            rw [List.length_cons] at hl1
            split at h
            · split at h
              · rename_i h1
                cases h
                exact ⟨good_node.mpr ⟨h1, hr2.1, hr2.2.1⟩, by omega⟩
              · cases h
            · split at h
              · have := ih2 _ _ _ _ _ hr2 h
                exact ⟨this.1, by omega⟩
              · cases h
        · cases h
end Go.Proofs.YtdbbcngmnpejnaaDoor.A

/- The reader's take, on lists of bytes. -/
namespace Go.Proofs.YtdbbcngmnpejnaaDoor.B
open Go.Proofs.YtdbbcngmnpejnaaDoor.A
open Go.RowKit Go.Proofs.YtdbbcngmnpejnaaDoorW.PrintWords Go.Proofs.YtdbbcngmnpejnaaDoorW.PrintMore
/-- The reader: what is left, and whether all was well. -/
def RdAt (W : World) (g : Nat) (L : List UInt8) (b : Bool) : Prop := W.heap[g]? = some (.cells #[.string (strB L), .bool b] 116 (0, 0))
def takeC (L : List UInt8) : Int := ((L.headD 0).toNat : Int)
theorem strB_size (L : List UInt8) : (strB L).size = L.length := rfl
theorem strB_toList (L : List UInt8) : (strB L).toList = L := by rw [Lib.toList_data]; rfl
theorem take_calls (g : Nat) (L : List UInt8) (b : Bool) (W : World) (h : RdAt W g L b) : Calls Tryd.prog 84 #[.pointer (some ⟨g, 0, none⟩)] W fun e w' => e = .returned (.int .u8 (takeC L)) ∧ RdAt w' g L.tail (b && !L.isEmpty) ∧ W.grownBy w' (some g) := by
  obtain ⟨w0, hw0⟩ : ∃ w0 : World, w0 = { W with heap := #[] } := ⟨_, rfl⟩
  have hs : w0.heap.size = 0 := by rw [hw0]; rfl
  have hB : Below w0.heap.size w0 W := by
    rw [hs, hw0]
    exact ⟨rfl, rfl, rfl, Nat.zero_le _, fun k hk => absurd hk (Nat.not_lt_zero _)⟩
  have hI : IsS116 w0 W g (strB L) b := ⟨h, by rw [hs]; exact Nat.zero_le _⟩
  have hlt : g < W.heap.size := blk_lt h
  have hgr : ∀ w', Below w0.heap.size w0 w' → KeepBut W w' g none → W.grownBy w' (some g) := fun w' hb hk =>
    ⟨by rw [hb.os, hw0], by rw [hb.tape, hw0], by rw [hb.output, hw0], hk.1, fun k hk1 hk2 => hk.2 k hk1 (fun e => hk2 (by rw [e])) (by simp)⟩
  cases L with
  | nil =>
    refine (breed_reader_take.calls g (strB []) b 0 (strB []) false w0 W hI hB (by unfold breed_reader_take.f; rw [strB_toList, if_pos rfl])).mono ?_
    rintro e w' ⟨rfl, hI', hb, hk⟩
    refine ⟨rfl, ?_, hgr w' hb hk⟩
    rw [show (b && !([] : List UInt8).isEmpty) = false by simp]
    exact hI'.1
  | cons c L =>
    have hbt : bt (strB (c :: L)) 0 = ((c.toNat : Nat) : Int) := by
      unfold bt
      rw [dif_pos (by rw [strB_size]; simp)]
      rfl
    have hex : (strB (c :: L)).extract 1 (strB (c :: L)).size = strB L := by
      apply ByteArray.ext
      apply Array.ext'
      rw [Lib.extract_to_end]
      rfl
    refine (breed_reader_take.calls g (strB (c :: L)) b _ (strB L) b w0 W hI hB (by
      unfold breed_reader_take.f
      rw [strB_toList, if_neg (by simp), if_pos (by rw [strB_size, List.length_cons]; omega), if_pos (by rw [strB_size, List.length_cons]; omega), hex])).mono ?_
    rintro e w' ⟨rfl, hI', hb, hk⟩
    refine ⟨by rw [hbt]; rfl, ?_, hgr w' hb hk⟩
    rw [show (b && !(c :: L).isEmpty) = b by simp]
    exact hI'.1
end Go.Proofs.YtdbbcngmnpejnaaDoor.B

/- Breed's small functions, as the kit's print writes them. -/
namespace Go.Proofs.YtdbbcngmnpejnaaDoor.B
open Go.Proofs.YtdbbcngmnpejnaaDoor.A
open Go.RowKit Go.Proofs.YtdbbcngmnpejnaaDoorW.PrintWords Go.Proofs.YtdbbcngmnpejnaaDoorW.PrintLast Go.Proofs.YtdbbcngmnpejnaaDoorW.PrintMore
section
attribute [local go_sem] max2_int min2_int max_two min_two max_three min_three max_four min_four   -- for this text's walks alone
set_option linter.unusedVariables false
set_option linter.unusedSimpArgs false
/-! ### breed_herd: function 40 -/
def breed_herd.f (a0 : Int) : Option (Bool) := if a0 ≥ 1 then (some (decide (a0 ≤ 8))) else (some false)
set_option maxHeartbeats 8000000 in
set_option maxRecDepth 100000 in
theorem breed_herd.calls (a0 : Int) (r : Bool) (w : World) (h : breed_herd.f a0 = some r) :
    Calls Tryd.prog 40 #[.int .i64 a0] w fun e w' => e = .returned (.bool r) ∧ Drawn0 w w' := by
  have H : (if a0 ≥ 1 then (some (decide (a0 ≤ 8))) else (some false)) = some r := h
  clear h
  by_cases c2 : a0 ≥ 1
  · rw [if_pos c2] at H
    have c2b0 : decide (1 ≤ a0) = true := decide_eq_true c2
    clear c2
    obtain rfl := Option.some.inj H
    go_enter Tryd.func40, Tryd.ntmps40
    go_wp2
    go_ret
    exact ⟨by first | rfl | (simp; done) | (simp [*]; done), by repeat (first | exact Drawn0.refl _ | apply Drawn0.step)⟩
  · rw [if_neg c2] at H
    have c2b0 : decide (1 ≤ a0) = false := decide_eq_false c2
    clear c2
    obtain rfl := Option.some.inj H
    go_enter Tryd.func40, Tryd.ntmps40
    go_wp2
    go_ret
    exact ⟨by first | rfl | (simp; done) | (simp [*]; done), by repeat (first | exact Drawn0.refl _ | apply Drawn0.step)⟩

/-! ### breed_Count: function 13 -/
mutual
def breed_Count.l0 : Nat → Int → List Int → Int → Option (Int × Int)
  | 0, _, _, _ => none
  | k + 1, x0, x4, x5 => if x5 ≤ x0 then (if 0 ≤ x5 then (if (x5 : Int).toNat ≤ 35184372088832 then (breed_Count.l1 k x0 x5 (List.replicate (x5 : Int).toNat 0) x4 (x4.length : Int) 0) else (none)) else (none)) else (breed_Count.l2 k 0 x4 (x4.length : Int) 0)
def breed_Count.l1 : Nat → Int → Int → List Int → List Int → Int → Int → Option (Int × Int)
  | 0, _, _, _, _, _, _ => none
  | k + 1, x0, x5, x6, x23, x24, x25 => if x25 < x24 then (if 0 ≤ x25 then (if x25 < (x23.length : Int) then (if x25 > 0 then (if x25 < (x6.length : Int) then ((some (x6.set (x25 : Int).toNat (wrap64 ((rd x6 x25) + (wrap64 (x25 * (rd x23 x25))))) : List Int)).bind fun y110 => (if 0 ≤ (wrap64 (x25 + 1)) then (if (wrap64 (x25 + 1)) < (x6.length : Int) then (breed_Count.l1 k x0 x5 (y110.set ((wrap64 (x25 + 1)) : Int).toNat (wrap64 ((rd y110 (wrap64 (x25 + 1))) + (wrap64 ((wrap64 ((wrap64 (x5 - 1)) + x25)) * (rd x23 x25)))))) x23 x24 (wrap64 (x25 + 1))) else (none)) else (none))) else (none)) else (if 0 ≤ (wrap64 (x25 + 1)) then (if (wrap64 (x25 + 1)) < (x6.length : Int) then (breed_Count.l1 k x0 x5 (x6.set ((wrap64 (x25 + 1)) : Int).toNat (wrap64 ((rd x6 (wrap64 (x25 + 1))) + (wrap64 ((wrap64 ((wrap64 (x5 - 1)) + x25)) * (rd x23 x25)))))) x23 x24 (wrap64 (x25 + 1))) else (none)) else (none))) else (none)) else (none)) else (breed_Count.l0 k x0 x6 (wrap64 (x5 + 1)))
def breed_Count.l2 : Nat → Int → List Int → Int → Int → Option (Int × Int)
  | 0, _, _, _, _ => none
  | k + 1, x9, x56, x57, x58 => if x58 < x57 then (if 0 ≤ x58 then (if x58 < (x56.length : Int) then (breed_Count.l2 k (wrap64 (x9 + (rd x56 x58))) x56 x57 (wrap64 (x58 + 1))) else (none)) else (none)) else (some (x9, 0))
end
def breed_Count.f (k : Nat) (a0 : Int) : Option (Int × Int) := (breed_herd.f a0).bind fun t101 => (if t101 = true then (breed_Count.l0 k a0 (([1] : List Int)) 2) else (some (0, 2)))
set_option maxHeartbeats 8000000 in
set_option maxRecDepth 100000 in
theorem breed_Count.calls (k : Nat) (a0 : Int) (r1 : Int) (r2 : Int) (w : World) (h : breed_Count.f k a0 = some (r1, r2)) :
    Calls Tryd.prog 13 #[.int .i64 a0] w fun e w' => e = .returned (.tuple #[.int .i64 r1, .int .i64 r2]) ∧ Below w.heap.size w w' := by
  have HB := Aside0.mk (Below.refl w.heap.size w)
  have H : ((breed_herd.f a0).bind fun t101 => (if t101 = true then (breed_Count.l0 k a0 (([1] : List Int)) 2) else (some (0, 2)))) = some (r1, r2) := h
  clear h
  replace H := Option.bind_eq_some_iff.mp H
  obtain ⟨t101, A20, H⟩ := H
  replace H : (if t101 = true then (breed_Count.l0 k a0 (([1] : List Int)) 2) else (some (0, 2))) = some (r1, r2) := H
  have A2 := Aside0.mk A20
  clear A20
  by_cases c3 : t101 = true
  · subst c3
    have H1 : (breed_Count.l0 k a0 (([1] : List Int)) 2) = some (r1, r2) := by rw [if_pos rfl] at H; exact H
    clear H
    have H := H1
    clear H1
    obtain ⟨y102, hy102⟩ : ∃ y_ : List Int, y_ = (([1] : List Int)) := ⟨_, rfl⟩
    replace H : (breed_Count.l0 k a0 y102 2) = some (r1, r2) := by first | (rw [hy102]; with_reducible exact H) | (have H2_ := (Option.bind_some _ _).symm.trans H; rw [hy102]; with_reducible exact H2_) | (have H2_ := (Option.bind_some _ _).symm.trans H; with_reducible exact H2_) | with_reducible exact H | (rw [hy102]; exact H) | exact H
    have Ny102 := Aside0.mk hy102
    clear hy102
    have H' := Aside0.mk H
    clear H
    go_enter Tryd.func13, Tryd.ntmps13
    go_wp2_with (first | ((with_reducible refine gate_callee (f := 40) rfl ?_); refine goesL_ (some 13) rfl rfl Tryd.func40 (by kernel_rfl) rfl #[.int .i64 a0] rfl (by (try simp only [List.map_toArray, List.map_cons, List.map_nil]); first | done | rfl | (simp only [List.length_drop, List.length_take]; rfl)) ?_; (with_reducible refine (breed_herd.calls a0 true _ A2.out).mono ?_); rintro e w' ⟨rfl, ⟨nd, rfl⟩⟩; refine ⟨_, rfl, ?_⟩) | ((with_reducible refine gate_dst (N := 15) rfl ?_); refine Kd.R_lit (Kd.int .i64) _ 3 ?hg (N := 15) ?hd (xs := ([1] : List Int)) (inner := [.int .i64 1]) (ok := fun _ => True) (okp := fun _ => True) ?hr ?hp (fun _ hk => hk) trivial (Below.refl _ _) (Nat.le_refl _) (by simp) ?_; (case hd => rfl); (case hg => rfl); (case hr => first | (go_simp; done) | (go_simp; rfl)); (case hp => exact (Reps.one (show Kd.M (Kd.int .i64) _ _ _ 1 [.int .i64 1] from rfl) (Reps.none _ _))); intro v103 w4 ho5 hb hg_ hnew_; clear hg_ hnew_; (first | rw [← Ny102.out] at ho5 | (simp only [Int.reduceToNat] at ho5; rw [← Ny102.out] at ho5)); have n0_ := Aside0.mk (Kd.R_lower ho5 (below_size (by repeat (first | (with_reducible first | exact HB.out | apply below_alloc | apply pw_below_drewN | apply below_drew1) | exact HB.out)))); have n1_ := Aside0.mk (below_step (by repeat (first | (with_reducible first | exact HB.out | apply below_alloc | apply pw_below_drewN | apply below_drew1) | exact HB.out)) hb); clear HB; have HO104 := n0_; have HB := n1_; clear n0_ n1_; clear hb ho5))
    go_loopg [4, 5] k (fun kq v4 v5 w' => ∃ (x4_1 : List Int) (x5_1 : Int), v5 = .int .i64 x5_1 ∧ Aside0 (breed_Count.l0 kq a0 x4_1 x5_1 = some (r1, r2)) ∧ Aside0 (kq ≤ k) ∧ Aside0 (Kd.R (Kd.int .i64) 3 w' w.heap.size (fun _ => True) v4 x4_1) ∧ Aside0 (Below w.heap.size w w'))
    case atStart => exact ⟨(y102), (2), (by first | rfl | (simp; done) | (simp [*]; done)), H', ⟨Nat.le_refl _⟩, ⟨by (with_reducible repeat (first | apply Kd.R_alloc | apply Kd.R_drewN | apply Kd.R_drew)); exact HO104.out⟩, ⟨by repeat (first | (with_reducible first | exact HB.out | apply below_alloc | apply pw_below_drewN | apply below_drew1) | exact HB.out)⟩⟩
    case round =>
      clear H'
      try clear c1
      try clear p2
      try clear c3
      try clear c4
      obtain ⟨x4_1, x5_1, rfl, HA, HK1, HO_4, HB⟩ := hrel
      cases gk with
      | zero => exact absurd HA.out (by simp [breed_Count.l0])
      | succ k1 =>
        have H := HA.out
        clear HA
        simp only [breed_Count.l0] at H
        by_cases c6 : x5_1 ≤ a0
        · rw [if_pos c6] at H
          have c6b0 : decide (x5_1 ≤ a0) = true := decide_eq_true c6
          clear c6
          by_cases c7 : 0 ≤ x5_1
          · rw [if_pos c7] at H
            have c7b0 := eq_true c7
            have c7b1 : decide (0 ≤ x5_1) = true := decide_eq_true c7
            clear c7
            by_cases c8 : (x5_1 : Int).toNat ≤ 35184372088832
            · rw [if_pos c8] at H
              have c8b0 := eq_true c8
              have c8b1 : decide ((x5_1 : Int).toNat ≤ 35184372088832) = true := decide_eq_true c8
              clear c8
              obtain ⟨y105, hy105⟩ : ∃ y_ : List Int, y_ = (List.replicate (x5_1 : Int).toNat 0) := ⟨_, rfl⟩
              replace H : (breed_Count.l1 k1 a0 x5_1 y105 x4_1 (x4_1.length : Int) 0) = some (r1, r2) := by first | (rw [hy105]; with_reducible exact H) | (have H2_ := (Option.bind_some _ _).symm.trans H; rw [hy105]; with_reducible exact H2_) | (have H2_ := (Option.bind_some _ _).symm.trans H; with_reducible exact H2_) | with_reducible exact H | (rw [hy105]; exact H) | exact H
              have Ny105 := Aside0.mk hy105
              clear hy105
              have H' := Aside0.mk H
              clear H
              go_wp2_with (first | ((with_reducible refine gate_dst (N := 22) rfl ?_); refine Kd.R_make (Kd.int .i64) _ 3 rfl (N := 22) rfl 32 _ _ rfl x5_1 rfl rfl Tryd.underlying32 (.int .i64 0) 8 info3 rfl (by decide) (by omega) 0 (ok := fun _ => True) (okp := fun _ => True) rfl (fun _ hk => hk) trivial (of_decide_eq_true (by first | (with_reducible assumption) | assumption)) (Nat.le_trans (Nat.mul_le_mul_right _ (of_decide_eq_true (by first | (with_reducible assumption) | assumption) : x5_1.toNat ≤ 35184372088832)) (by omega)) (Below.refl _ _) (Nat.le_refl _) ?_; intro v106 w9 ho10 hb hg_ hnew_; clear hg_ hnew_; (first | rw [← Ny105.out] at ho10 | (simp only [Int.reduceToNat] at ho10; rw [← Ny105.out] at ho10)); have n0_ := Aside0.mk (Kd.R_elder' (by (with_reducible repeat (first | apply Kd.R_alloc | apply Kd.R_drewN | apply Kd.R_drew)); exact HO_4.out) (Kd.R_base ho10) hb); have n1_ := Aside0.mk (Kd.R_lower (Kd.R_new' ho10 (Kd.R_lt (by (with_reducible repeat (first | apply Kd.R_alloc | apply Kd.R_drewN | apply Kd.R_drew)); exact HO_4.out))) (below_size (by repeat (first | (with_reducible first | exact HB.out | apply below_alloc | apply pw_below_drewN | apply below_drew1) | exact HB.out)))); have n2_ := Aside0.mk (below_step (by repeat (first | (with_reducible first | exact HB.out | apply below_alloc | apply pw_below_drewN | apply below_drew1) | exact HB.out)) hb); clear HO_4; clear HB; have HO_4 := n0_; have HO107 := n1_; have HB := n2_; clear n0_ n1_ n2_; clear hb ho10; obtain ⟨Ao11, co11, eo11⟩ := Kd.R_slice HO_4.out; subst eo11))
              go_loopg [25] k1 (fun kq v25 w' => ∃ (x6_2 : List Int) (x25_2 : Int), v25 = .int .i64 x25_2 ∧ Aside0 (breed_Count.l1 kq a0 x5_1 x6_2 x4_1 (x4_1.length : Int) x25_2 = some (r1, r2)) ∧ Aside0 (kq ≤ k1) ∧ Aside0 (Kd.R (Kd.int .i64) 3 w' w.heap.size (fun k_ => some k_ ≠ ((.slice Ao11 x4_1.length co11) : Value).ownBlock) v106 x6_2) ∧ Aside0 (Kd.R (Kd.int .i64) 3 w' w.heap.size (fun k_ => some k_ ≠ (v106 : Value).ownBlock) (.slice Ao11 x4_1.length co11) x4_1) ∧ Aside0 (Below w.heap.size w w'))
              case atStart => exact ⟨(y105), (0), (by first | rfl | (simp; done) | (simp [*]; done)), H', ⟨Nat.le_refl _⟩, ⟨by (with_reducible repeat (first | apply Kd.R_alloc | apply Kd.R_drewN | apply Kd.R_drew)); exact Kd.R_mono HO107.out (fun _ hk => hk.2)⟩, ⟨by (with_reducible repeat (first | apply Kd.R_alloc | apply Kd.R_drewN | apply Kd.R_drew)); exact Kd.R_mono HO_4.out (fun _ hk => hk.2)⟩, ⟨by repeat (first | (with_reducible first | exact HB.out | apply below_alloc | apply pw_below_drewN | apply below_drew1) | exact HB.out)⟩⟩
              case round =>
                clear H'
                try clear c1
                try clear p2
                try clear c3
                try clear c4
                try clear c6
                try clear c6b0
                try clear c7
                try clear c7b0
                try clear c7b1
                try clear c8
                try clear c8b0
                try clear c8b1
                try clear p2
                obtain ⟨x6_2, x25_2, rfl, HA, HK2, HO_6, HO_23, HB⟩ := hrel
                cases gk with
                | zero => exact absurd HA.out (by simp [breed_Count.l1])
                | succ k2 =>
                  have H := HA.out
                  clear HA
                  simp only [breed_Count.l1] at H
                  by_cases c12 : x25_2 < (x4_1.length : Int)
                  · rw [if_pos c12] at H
                    have c12b0 : decide (x25_2 < (x4_1.length : Int)) = true := decide_eq_true c12
                    clear c12
                    by_cases c13 : 0 ≤ x25_2
                    · rw [if_pos c13] at H
                      have c13b0 : decide (0 ≤ x25_2) = true := decide_eq_true c13
                      clear c13
                      by_cases c14 : x25_2 < (x4_1.length : Int)
                      · rw [if_pos c14] at H
                        have c14b0 : decide (x25_2 < (x4_1.length : Int)) = true := decide_eq_true c14
                        clear c14
                        by_cases c15 : x25_2 > 0
                        · rw [if_pos c15] at H
                          have c15b0 : decide (0 < x25_2) = true := decide_eq_true c15
                          clear c15
                          by_cases c16 : x25_2 < (x6_2.length : Int)
                          · rw [if_pos c16] at H
                            have c16b0 : decide (x25_2 < (x6_2.length : Int)) = true := decide_eq_true c16
                            clear c16
                            obtain ⟨y110, hy110⟩ : ∃ y_ : List Int, y_ = (x6_2.set (x25_2 : Int).toNat (wrap64 ((rd x6_2 x25_2) + (wrap64 (x25_2 * (rd x4_1 x25_2)))))) := ⟨_, rfl⟩
                            replace H : (if 0 ≤ (wrap64 (x25_2 + 1)) then (if (wrap64 (x25_2 + 1)) < (x6_2.length : Int) then (breed_Count.l1 k2 a0 x5_1 (y110.set ((wrap64 (x25_2 + 1)) : Int).toNat (wrap64 ((rd y110 (wrap64 (x25_2 + 1))) + (wrap64 ((wrap64 ((wrap64 (x5_1 - 1)) + x25_2)) * (rd x4_1 x25_2)))))) x4_1 (x4_1.length : Int) (wrap64 (x25_2 + 1))) else (none)) else (none)) = some (r1, r2) := by first | (rw [hy110]; with_reducible exact H) | (have H2_ := (Option.bind_some _ _).symm.trans H; rw [hy110]; with_reducible exact H2_) | (have H2_ := (Option.bind_some _ _).symm.trans H; with_reducible exact H2_) | with_reducible exact H | (rw [hy110]; exact H) | exact H
                            have Ny110 := Aside0.mk hy110
                            clear hy110
                            obtain ⟨ji18, hji18⟩ : ∃ j_ : Int, (wrap64 (x25_2 + 1)) = j_ := ⟨_, rfl⟩
                            replace H : (if 0 ≤ (ji18) then (if (ji18) < (x6_2.length : Int) then (breed_Count.l1 k2 a0 x5_1 (y110.set ((ji18) : Int).toNat (wrap64 ((rd y110 (ji18)) + (wrap64 ((wrap64 ((wrap64 (x5_1 - 1)) + x25_2)) * (rd x4_1 x25_2)))))) x4_1 (x4_1.length : Int) ji18) else (none)) else (none)) = some (r1, r2) := by first | (rw [hji18] at H; exact H) | (simp only [hji18] at H ⊢; exact H)
                            have hji18w : (IntKind.i64.wrap (x25_2 + 1)) = ji18 := (i64_w _).trans hji18
                            by_cases c19 : 0 ≤ (ji18)
                            · rw [if_pos c19] at H
                              have c19b0 : decide (0 ≤ (ji18)) = true := decide_eq_true c19
                              clear c19
                              by_cases c20 : (ji18) < (x6_2.length : Int)
                              · rw [if_pos c20] at H
                                have c20b0 : decide ((ji18) < (x6_2.length : Int)) = true := decide_eq_true c20
                                clear c20
                                obtain ⟨y112, hy112⟩ : ∃ y_ : List Int, y_ = (y110.set ((ji18) : Int).toNat (wrap64 ((rd y110 (ji18)) + (wrap64 ((wrap64 ((wrap64 (x5_1 - 1)) + x25_2)) * (rd x4_1 x25_2)))))) := ⟨_, rfl⟩
                                replace H : (breed_Count.l1 k2 a0 x5_1 y112 x4_1 (x4_1.length : Int) ji18) = some (r1, r2) := by first | (rw [hy112]; with_reducible exact H) | (have H2_ := (Option.bind_some _ _).symm.trans H; rw [hy112]; with_reducible exact H2_) | (have H2_ := (Option.bind_some _ _).symm.trans H; with_reducible exact H2_) | with_reducible exact H | (rw [hy112]; exact H) | exact H
                                have Ny112 := Aside0.mk hy112
                                clear hy112
                                have H' := Aside0.mk H
                                clear H
                                have p108 : 0 ≤ (x25_2 : Int) := of_decide_eq_true (by first | (with_reducible assumption) | assumption)
                                have q108 : x25_2 < (x4_1.length : Int) := of_decide_eq_true (by first | (with_reducible assumption) | assumption)
                                obtain ⟨ad108, e108, hx108_0⟩ := Kd.at_int (Kd.R_reads' HO_23.out).2.2 x25_2 p108 q108
                                cases e108
                                replace p108 := eq_true p108
                                replace q108 := eq_true q108
                                obtain ⟨Ao22, co22, eo22⟩ := Kd.R_slice HO_6.out
                                subst eo22
                                have p109 : 0 ≤ (x25_2 : Int) := of_decide_eq_true (by first | (with_reducible assumption) | assumption)
                                have q109 : x25_2 < (x6_2.length : Int) := of_decide_eq_true (by first | (with_reducible assumption) | assumption)
                                obtain ⟨ad109, e109, hx109_0⟩ := Kd.at_int (Kd.R_reads' HO_6.out).2.2 x25_2 p109 q109
                                cases e109
                                replace p109 := eq_true p109
                                replace q109 := eq_true q109
                                have p17 : 0 ≤ (x25_2 : Int) := of_decide_eq_true (by first | (with_reducible assumption) | assumption)
                                have q17 : (x25_2 : Int) < ((x6_2.length : Int) : Int) := of_decide_eq_true (by first | (with_reducible assumption) | assumption)
                                obtain ⟨go17, co17, eo17, gb17, gl17, cl17, HG17⟩ := Kd.R_form HO_6.out (by omega)
                                (first | cases eo17 | (injection eo17 with ea_ en_ ec_; (first | subst ea_ | (injection ea_ with ea_; subst ea_)); subst ec_; clear en_))
                                have GB17 := Aside0.mk gb17
                                have GG17 := Aside0.mk HG17
                                clear gb17 gl17 HG17
                                (first | simp only [add_plain] at hx109_0 | skip)
                                obtain ⟨hx17_0, hf17_0⟩ := Kd.R_celln 0 HO_6.out (x25_2 : Int) p17 q17
                                replace p17 := eq_true p17
                                replace q17 := eq_true q17
                                have HP23 := Kd.R_putg HO_6.out (x25_2 : Int) (wrap64 ((rd x6_2 x25_2) + (wrap64 (x25_2 * (rd x4_1 x25_2)))))
                                go_wp2_with (first | ((with_reducible refine gate_store (t := 3) (p := 40) rfl ?_); refine store_event (t := 3) (p := 40) (v := ?vo_w24) (w1 := (wr.setCell ⟨go17, (x25_2 : Int).toNat, none⟩ (.int .i64 (wrap64 ((rd x6_2 x25_2) + (wrap64 (x25_2 * (rd x4_1 x25_2)))))))) ?hg ?ho ?hn ?hr ?_; (case ho => rfl); (case hg => rfl); (case hn => rfl); (case hr => first | (go_simp; done) | (go_simp; rfl)); intro w24 hw; have hg : wr.grownBy w24 (some go17) := (by rw [hw]; exact HP23.2); have hp_ : Kd.R (Kd.int .i64) 3 w24 w.heap.size (fun k_ => some k_ ≠ (.slice (some ad108) x4_1.length co11 : Value).ownBlock) (.slice (some ⟨go17, 0, none⟩) x6_2.length co22) y110 := (by rw [hw, Ny110.out]; exact HP23.1); clear HP23; have n0_ := Aside0.mk (hp_); have n1_ := Aside0.mk (Kd.R_after (v := (.slice (some ⟨go17, 0, none⟩) x6_2.length co22)) (v1 := (.slice (some ⟨go17, 0, none⟩) x6_2.length co22)) (ok := (fun _ => True)) (by (with_reducible repeat (first | apply Kd.R_alloc | apply Kd.R_drewN | apply Kd.R_drew)); exact Kd.R_mono HO_23.out (fun _ hk => ⟨trivial, hk⟩)) hg (.inl rfl)); have n2_ := Aside0.mk ((by rw [hw]; exact below_set (HB.out) GB17.out : Below w.heap.size w w24)); clear HO_6; clear HO_23; clear HB; have HO_6 := n0_; have HO_23 := n1_; have HB := n2_; clear n0_ n1_ n2_; clear hg hw hp_; have p111 : 0 ≤ ((ji18) : Int) := of_decide_eq_true (by first | (with_reducible assumption) | assumption); have q111 : (ji18) < (y110.length : Int) := (by have h_ : ((ji18) : Int) < ((x6_2.length : Int) : Int) := of_decide_eq_true (by first | (with_reducible assumption) | assumption); first | (have e_ := (Kd.R_reads' HO_6.out).1; omega) | simpa only [Ny110.out, List.length_set] using h_); have ql111 : (((ji18) : Int) < ((x6_2.length : Int) : Int)) = True := eq_true (of_decide_eq_true (by first | (with_reducible assumption) | assumption)); obtain ⟨ad111, e111, hx111_0⟩ := Kd.at_int (Kd.R_reads' HO_6.out).2.2 (ji18) p111 q111; obtain rfl : (⟨go17, 0, none⟩ : Addr) = ad111 := (by injection e111); (first | simp only [add_plain] at hx111_0 | simp only [add_at] at hx111_0 | simp only [Addr.add, Nat.zero_add] at hx111_0 | skip); replace p111 := eq_true p111; replace q111 := eq_true q111; have p21 : 0 ≤ ((ji18) : Int) := of_decide_eq_true (by first | (with_reducible assumption) | assumption); have q21 : ((ji18) : Int) < ((x6_2.length : Int) : Int) := of_decide_eq_true (by first | (with_reducible assumption) | assumption); obtain ⟨hx21_0, hf21_0⟩ := Kd.R_celln 0 HO_6.out ((ji18) : Int) p21 q21; replace p21 := eq_true p21; replace q21 := eq_true q21; obtain ⟨hy25_, hz25_⟩ := Kd.R_celln 0 HO_6.out ((ji18) : Int) (of_decide_eq_true (by first | (with_reducible assumption) | assumption)) (of_decide_eq_true (by first | (with_reducible assumption) | assumption)); have HP25 := Kd.R_putg HO_6.out ((ji18) : Int) (wrap64 ((rd y110 (ji18)) + (wrap64 ((wrap64 ((wrap64 (x5_1 - 1)) + x25_2)) * (rd x4_1 x25_2)))))) | ((with_reducible refine gate_store (t := 3) (p := 53) rfl ?_); refine store_event (t := 3) (p := 53) (v := ?vo_w26) (w1 := (w24.setCell ⟨go17, ((ji18) : Int).toNat, none⟩ (.int .i64 (wrap64 ((rd y110 (ji18)) + (wrap64 ((wrap64 ((wrap64 (x5_1 - 1)) + x25_2)) * (rd x4_1 x25_2)))))))) ?hg ?ho ?hn ?hr ?_; (case ho => rfl); (case hg => rfl); (case hn => rfl); (case hr => first | (go_simp; done) | (go_simp; rfl)); intro w26 hw; have hg : w24.grownBy w26 (some go17) := (by rw [hw]; exact HP25.2); have hp_ : Kd.R (Kd.int .i64) 3 w26 w.heap.size (fun k_ => some k_ ≠ (.slice (some ad108) x4_1.length co11 : Value).ownBlock) (.slice (some ⟨go17, 0, none⟩) x6_2.length co22) y112 := (by rw [hw, Ny112.out]; exact HP25.1); clear HP25; have n0_ := Aside0.mk (hp_); have n1_ := Aside0.mk (Kd.R_after (v := (.slice (some ⟨go17, 0, none⟩) x6_2.length co22)) (v1 := (.slice (some ⟨go17, 0, none⟩) x6_2.length co22)) (ok := (fun _ => True)) (by (with_reducible repeat (first | apply Kd.R_alloc | apply Kd.R_drewN | apply Kd.R_drew)); exact HO_23.out) hg (.inl rfl)); have n2_ := Aside0.mk ((by rw [hw]; exact below_set (HB.out) GB17.out : Below w.heap.size w w26)); clear HO_6; clear HO_23; clear HB; have HO_6 := n0_; have HO_23 := n1_; have HB := n2_; clear n0_ n1_ n2_; clear hg hw hp_))
                                go_roundg k2
                                case measure => have := HK1.out; have := HK2.out; omega
                                case rel => exact ⟨(y112), (ji18), (by first | rfl | (simp; done) | (simp only [← hji18] <;> (first | rfl | simp)) | (simp [*]; done)), H', ⟨by have := HK1.out; have := HK2.out; omega⟩, ⟨by (with_reducible repeat (first | apply Kd.R_alloc | apply Kd.R_drewN | apply Kd.R_drew)); exact HO_6.out⟩, ⟨by (with_reducible repeat (first | apply Kd.R_alloc | apply Kd.R_drewN | apply Kd.R_drew)); exact Kd.R_mono HO_23.out (fun _ hk => hk.2)⟩, ⟨by repeat (first | (with_reducible first | exact HB.out | apply below_alloc | apply pw_below_drewN | apply below_drew1) | exact HB.out)⟩⟩
                              · rw [if_neg c20] at H
                                exact absurd H (by simp)
                            · rw [if_neg c19] at H
                              exact absurd H (by simp)
                          · rw [if_neg c16] at H
                            exact absurd H (by simp)
                        · rw [if_neg c15] at H
                          have c15b0 : decide (0 < x25_2) = false := decide_eq_false c15
                          clear c15
                          obtain ⟨ji27, hji27⟩ : ∃ j_ : Int, (wrap64 (x25_2 + 1)) = j_ := ⟨_, rfl⟩
                          replace H : (if 0 ≤ (ji27) then (if (ji27) < (x6_2.length : Int) then (breed_Count.l1 k2 a0 x5_1 (x6_2.set ((ji27) : Int).toNat (wrap64 ((rd x6_2 (ji27)) + (wrap64 ((wrap64 ((wrap64 (x5_1 - 1)) + x25_2)) * (rd x4_1 x25_2)))))) x4_1 (x4_1.length : Int) ji27) else (none)) else (none)) = some (r1, r2) := by first | (rw [hji27] at H; exact H) | (simp only [hji27] at H ⊢; exact H)
                          have hji27w : (IntKind.i64.wrap (x25_2 + 1)) = ji27 := (i64_w _).trans hji27
                          by_cases c28 : 0 ≤ (ji27)
                          · rw [if_pos c28] at H
                            have c28b0 : decide (0 ≤ (ji27)) = true := decide_eq_true c28
                            clear c28
                            by_cases c29 : (ji27) < (x6_2.length : Int)
                            · rw [if_pos c29] at H
                              have c29b0 : decide ((ji27) < (x6_2.length : Int)) = true := decide_eq_true c29
                              clear c29
                              obtain ⟨y114, hy114⟩ : ∃ y_ : List Int, y_ = (x6_2.set ((ji27) : Int).toNat (wrap64 ((rd x6_2 (ji27)) + (wrap64 ((wrap64 ((wrap64 (x5_1 - 1)) + x25_2)) * (rd x4_1 x25_2)))))) := ⟨_, rfl⟩
                              replace H : (breed_Count.l1 k2 a0 x5_1 y114 x4_1 (x4_1.length : Int) ji27) = some (r1, r2) := by first | (rw [hy114]; with_reducible exact H) | (have H2_ := (Option.bind_some _ _).symm.trans H; rw [hy114]; with_reducible exact H2_) | (have H2_ := (Option.bind_some _ _).symm.trans H; with_reducible exact H2_) | with_reducible exact H | (rw [hy114]; exact H) | exact H
                              have Ny114 := Aside0.mk hy114
                              clear hy114
                              have H' := Aside0.mk H
                              clear H
                              have p108 : 0 ≤ (x25_2 : Int) := of_decide_eq_true (by first | (with_reducible assumption) | assumption)
                              have q108 : x25_2 < (x4_1.length : Int) := of_decide_eq_true (by first | (with_reducible assumption) | assumption)
                              obtain ⟨ad108, e108, hx108_0⟩ := Kd.at_int (Kd.R_reads' HO_23.out).2.2 x25_2 p108 q108
                              cases e108
                              replace p108 := eq_true p108
                              replace q108 := eq_true q108
                              obtain ⟨Ao31, co31, eo31⟩ := Kd.R_slice HO_6.out
                              subst eo31
                              have p113 : 0 ≤ ((ji27) : Int) := of_decide_eq_true (by first | (with_reducible assumption) | assumption)
                              have q113 : (ji27) < (x6_2.length : Int) := of_decide_eq_true (by first | (with_reducible assumption) | assumption)
                              obtain ⟨ad113, e113, hx113_0⟩ := Kd.at_int (Kd.R_reads' HO_6.out).2.2 (ji27) p113 q113
                              cases e113
                              replace p113 := eq_true p113
                              replace q113 := eq_true q113
                              have p30 : 0 ≤ ((ji27) : Int) := of_decide_eq_true (by first | (with_reducible assumption) | assumption)
                              have q30 : ((ji27) : Int) < ((x6_2.length : Int) : Int) := of_decide_eq_true (by first | (with_reducible assumption) | assumption)
                              obtain ⟨go30, co30, eo30, gb30, gl30, cl30, HG30⟩ := Kd.R_form HO_6.out (by omega)
                              (first | cases eo30 | (injection eo30 with ea_ en_ ec_; (first | subst ea_ | (injection ea_ with ea_; subst ea_)); subst ec_; clear en_))
                              have GB30 := Aside0.mk gb30
                              have GG30 := Aside0.mk HG30
                              clear gb30 gl30 HG30
                              (first | simp only [add_plain] at hx113_0 | skip)
                              obtain ⟨hx30_0, hf30_0⟩ := Kd.R_celln 0 HO_6.out ((ji27) : Int) p30 q30
                              replace p30 := eq_true p30
                              replace q30 := eq_true q30
                              have HP32 := Kd.R_putg HO_6.out ((ji27) : Int) (wrap64 ((rd x6_2 (ji27)) + (wrap64 ((wrap64 ((wrap64 (x5_1 - 1)) + x25_2)) * (rd x4_1 x25_2)))))
                              go_wp2_with (first | ((with_reducible refine gate_store (t := 3) (p := 53) rfl ?_); refine store_event (t := 3) (p := 53) (v := ?vo_w33) (w1 := (wr.setCell ⟨go30, ((ji27) : Int).toNat, none⟩ (.int .i64 (wrap64 ((rd x6_2 (ji27)) + (wrap64 ((wrap64 ((wrap64 (x5_1 - 1)) + x25_2)) * (rd x4_1 x25_2)))))))) ?hg ?ho ?hn ?hr ?_; (case ho => rfl); (case hg => rfl); (case hn => rfl); (case hr => first | (go_simp; done) | (go_simp; rfl)); intro w33 hw; have hg : wr.grownBy w33 (some go30) := (by rw [hw]; exact HP32.2); have hp_ : Kd.R (Kd.int .i64) 3 w33 w.heap.size (fun k_ => some k_ ≠ (.slice (some ad108) x4_1.length co11 : Value).ownBlock) (.slice (some ⟨go30, 0, none⟩) x6_2.length co31) y114 := (by rw [hw, Ny114.out]; exact HP32.1); clear HP32; have n0_ := Aside0.mk (hp_); have n1_ := Aside0.mk (Kd.R_after (v := (.slice (some ⟨go30, 0, none⟩) x6_2.length co31)) (v1 := (.slice (some ⟨go30, 0, none⟩) x6_2.length co31)) (ok := (fun _ => True)) (by (with_reducible repeat (first | apply Kd.R_alloc | apply Kd.R_drewN | apply Kd.R_drew)); exact Kd.R_mono HO_23.out (fun _ hk => ⟨trivial, hk⟩)) hg (.inl rfl)); have n2_ := Aside0.mk ((by rw [hw]; exact below_set (HB.out) GB30.out : Below w.heap.size w w33)); clear HO_6; clear HO_23; clear HB; have HO_6 := n0_; have HO_23 := n1_; have HB := n2_; clear n0_ n1_ n2_; clear hg hw hp_))
                              go_roundg k2
                              case measure => have := HK1.out; have := HK2.out; omega
                              case rel => exact ⟨(y114), (ji27), (by first | rfl | (simp; done) | (simp only [← hji27] <;> (first | rfl | simp)) | (simp [*]; done)), H', ⟨by have := HK1.out; have := HK2.out; omega⟩, ⟨by (with_reducible repeat (first | apply Kd.R_alloc | apply Kd.R_drewN | apply Kd.R_drew)); exact HO_6.out⟩, ⟨by (with_reducible repeat (first | apply Kd.R_alloc | apply Kd.R_drewN | apply Kd.R_drew)); exact Kd.R_mono HO_23.out (fun _ hk => hk.2)⟩, ⟨by repeat (first | (with_reducible first | exact HB.out | apply below_alloc | apply pw_below_drewN | apply below_drew1) | exact HB.out)⟩⟩
                            · rw [if_neg c29] at H
                              exact absurd H (by simp)
                          · rw [if_neg c28] at H
                            exact absurd H (by simp)
                      · rw [if_neg c14] at H
                        exact absurd H (by simp)
                    · rw [if_neg c13] at H
                      exact absurd H (by simp)
                  · rw [if_neg c12] at H
                    have c12b0 : decide (x25_2 < (x4_1.length : Int)) = false := decide_eq_false c12
                    clear c12
                    have H' := Aside0.mk H
                    clear H
                    go_wp2
                    go_roundg k2
                    case measure => have := HK1.out; have := HK2.out; omega
                    case rel => exact ⟨(x6_2), (wrap64 (x5_1 + 1)), (by first | rfl | (simp; done) | (simp [*]; done)), H', ⟨by have := HK1.out; have := HK2.out; omega⟩, ⟨by (with_reducible repeat (first | apply Kd.R_alloc | apply Kd.R_drewN | apply Kd.R_drew)); exact Kd.R_mono HO_6.out (fun _ hk => trivial)⟩, ⟨by repeat (first | (with_reducible first | exact HB.out | apply below_alloc | apply pw_below_drewN | apply below_drew1) | exact HB.out)⟩⟩
            · rw [if_neg c8] at H
              exact absurd H (by simp)
          · rw [if_neg c7] at H
            exact absurd H (by simp)
        · rw [if_neg c6] at H
          have c6b0 : decide (x5_1 ≤ a0) = false := decide_eq_false c6
          clear c6
          have H' := Aside0.mk H
          clear H
          obtain ⟨Ao34, co34, eo34⟩ := Kd.R_slice HO_4.out
          subst eo34
          go_wp2
          go_loopg [9, 58] k1 (fun kq v9 v58 w' => ∃ (x9_2 : Int) (x58_2 : Int), v9 = .int .i64 x9_2 ∧ v58 = .int .i64 x58_2 ∧ Aside0 (breed_Count.l2 kq x9_2 x4_1 (x4_1.length : Int) x58_2 = some (r1, r2)) ∧ Aside0 (kq ≤ k1) ∧ Aside0 (Kd.R (Kd.int .i64) 3 w' w.heap.size (fun _ => True) (.slice Ao34 x4_1.length co34) x4_1) ∧ Aside0 (Below w.heap.size w w'))
          case atStart => exact ⟨(0), (0), (by first | rfl | (simp; done) | (simp [*]; done)), (by first | rfl | (simp; done) | (simp [*]; done)), H', ⟨Nat.le_refl _⟩, ⟨by (with_reducible repeat (first | apply Kd.R_alloc | apply Kd.R_drewN | apply Kd.R_drew)); exact HO_4.out⟩, ⟨by repeat (first | (with_reducible first | exact HB.out | apply below_alloc | apply pw_below_drewN | apply below_drew1) | exact HB.out)⟩⟩
          case round =>
            clear H'
            try clear c1
            try clear p1
            try clear q1
            try clear hx1
            try clear hf1
            try clear c2
            try clear p2
            try clear q2
            try clear hx2
            try clear hf2
            try clear c3
            try clear p3
            try clear q3
            try clear hx3
            try clear hf3
            try clear c4
            try clear c6
            try clear c6b0
            try clear p6
            try clear c7
            try clear c7b0
            try clear c7b1
            try clear c8
            try clear c8b0
            try clear c8b1
            try clear p10
            try clear q10
            try clear hx10
            try clear p11
            try clear q11
            try clear hx11
            try clear c12
            try clear c12b0
            try clear c13
            try clear c13b0
            try clear c14
            try clear c14b0
            try clear c15
            try clear c15b0
            try clear c16
            try clear c16b0
            try clear p17
            try clear q17
            try clear hx17
            try clear hf17
            try clear c19
            try clear c19b0
            try clear c20
            try clear c20b0
            try clear p21
            try clear q21
            try clear hx21
            try clear hf21
            try clear c28
            try clear c28b0
            try clear c29
            try clear c29b0
            try clear p30
            try clear q30
            try clear hx30
            try clear hf30
            try clear hx108_0
            try clear hx109_0
            try clear hx111_0
            try clear hx113_0
            try clear hx17_0
            try clear hx21_0
            try clear hx30_0
            try clear p108
            try clear p109
            try clear p111
            try clear p113
            try clear p17
            try clear p2
            try clear p21
            try clear p30
            try clear q108
            try clear q109
            try clear q111
            try clear q113
            try clear q17
            try clear q21
            try clear q30
            obtain ⟨x9_2, x58_2, rfl, rfl, HA, HK2, HO_56, HB⟩ := hrel
            cases gk with
            | zero => exact absurd HA.out (by simp [breed_Count.l2])
            | succ k2 =>
              have H := HA.out
              clear HA
              simp only [breed_Count.l2] at H
              by_cases c35 : x58_2 < (x4_1.length : Int)
              · rw [if_pos c35] at H
                have c35b0 : decide (x58_2 < (x4_1.length : Int)) = true := decide_eq_true c35
                clear c35
                by_cases c36 : 0 ≤ x58_2
                · rw [if_pos c36] at H
                  have c36b0 : decide (0 ≤ x58_2) = true := decide_eq_true c36
                  clear c36
                  by_cases c37 : x58_2 < (x4_1.length : Int)
                  · rw [if_pos c37] at H
                    have c37b0 : decide (x58_2 < (x4_1.length : Int)) = true := decide_eq_true c37
                    clear c37
                    have H' := Aside0.mk H
                    clear H
                    have p115 : 0 ≤ (x58_2 : Int) := of_decide_eq_true (by first | (with_reducible assumption) | assumption)
                    have q115 : x58_2 < (x4_1.length : Int) := of_decide_eq_true (by first | (with_reducible assumption) | assumption)
                    obtain ⟨ad115, e115, hx115_0⟩ := Kd.at_int (Kd.R_reads' HO_56.out).2.2 x58_2 p115 q115
                    cases e115
                    replace p115 := eq_true p115
                    replace q115 := eq_true q115
                    go_wp2
                    go_roundg k2
                    case measure => have := HK1.out; have := HK2.out; omega
                    case rel => exact ⟨(wrap64 (x9_2 + (rd x4_1 x58_2))), (wrap64 (x58_2 + 1)), (by first | rfl | (simp; done) | (simp [*]; done)), (by first | rfl | (simp; done) | (simp [*]; done)), H', ⟨by have := HK1.out; have := HK2.out; omega⟩, ⟨by (with_reducible repeat (first | apply Kd.R_alloc | apply Kd.R_drewN | apply Kd.R_drew)); exact HO_56.out⟩, ⟨by repeat (first | (with_reducible first | exact HB.out | apply below_alloc | apply pw_below_drewN | apply below_drew1) | exact HB.out)⟩⟩
                  · rw [if_neg c37] at H
                    exact absurd H (by simp)
                · rw [if_neg c36] at H
                  exact absurd H (by simp)
              · rw [if_neg c35] at H
                have c35b0 : decide (x58_2 < (x4_1.length : Int)) = false := decide_eq_false c35
                clear c35
                simp only [Option.some.injEq, Prod.mk.injEq] at H
                obtain ⟨rfl, rfl⟩ := H
                go_wp2
                go_ret2
                exact ⟨by first | rfl | (simp [errW_none, errW_some] <;> rfl) | (simp [*, errW_none, errW_some] <;> rfl), by repeat (first | (with_reducible first | exact HB.out | apply below_alloc | apply pw_below_drewN | apply below_drew1) | exact HB.out)⟩
  · replace c3 := Bool.eq_false_iff.mpr c3
    subst c3
    have H1 : (some (0, 2)) = some (r1, r2) := by rw [if_neg (show ¬ (false = true) by decide)] at H; exact H
    clear H
    have H := H1
    clear H1
    simp only [Option.some.injEq, Prod.mk.injEq] at H
    obtain ⟨rfl, rfl⟩ := H
    go_enter Tryd.func13, Tryd.ntmps13
    go_wp2_with (first | ((with_reducible refine gate_callee (f := 40) rfl ?_); refine goesL_ (some 13) rfl rfl Tryd.func40 (by kernel_rfl) rfl #[.int .i64 a0] rfl (by (try simp only [List.map_toArray, List.map_cons, List.map_nil]); first | done | rfl | (simp only [List.length_drop, List.length_take]; rfl)) ?_; (with_reducible refine (breed_herd.calls a0 false _ A2.out).mono ?_); rintro e w' ⟨rfl, ⟨nd, rfl⟩⟩; refine ⟨_, rfl, ?_⟩))
    go_ret2
    exact ⟨by first | rfl | (simp [errW_none, errW_some] <;> rfl) | (simp [*, errW_none, errW_some] <;> rfl), by repeat (first | (with_reducible first | exact HB.out | apply below_alloc | apply pw_below_drewN | apply below_drew1) | exact HB.out)⟩

/-! ### drovewayref05_choose: function 41 -/
def drovewayref05_choose.l0 : Nat → Int → Int → Int → Int → Option (Int)
  | 0, _, _, _, _ => none
  | k + 1, x0, x1, x5, x6 => if x6 ≤ x1 then (if x6 = 0 then (none) else (drovewayref05_choose.l0 k x0 x1 (wrap64 (Int.tdiv (wrap64 (x5 * (wrap64 ((wrap64 (x0 - x6)) + 1)))) x6)) (wrap64 (x6 + 1)))) else (some x5)
def drovewayref05_choose.f (k : Nat) (a0 : Int) (a1 : Int) : Option (Int) := drovewayref05_choose.l0 k a0 a1 1 1
/-! ### breed_remembered: function 56 -/
def breed_remembered.l0 : Nat → Int → List (S44) → Int → Int → Option (Int)
  | 0, _, _, _, _ => none
  | k + 1, x0, x10, x11, x12 => if x12 < x11 then (if 0 ≤ x12 then (if x12 < (x10.length : Int) then (if ((rd_T44 x10 x12).f0) < 0 then (some 2) else (if ((rd_T44 x10 x12).f0) ≥ ((rd_T44 x10 x12).f1) then (some 2) else (if ((rd_T44 x10 x12).f1) ≥ x0 then (some 2) else (if ((rd_T44 x10 x12).f2) < 0 then (some 2) else (if ((rd_T44 x10 x12).f2) ≥ x0 then (some 2) else (if ((rd_T44 x10 x12).f2) = ((rd_T44 x10 x12).f0) then (some 2) else (if ((rd_T44 x10 x12).f2) = ((rd_T44 x10 x12).f1) then (some 2) else (breed_remembered.l0 k x0 x10 x11 (wrap64 (x12 + 1)))))))))) else (none)) else (none)) else (some 0)
def breed_remembered.f (k : Nat) (a0 : Int) (l1 : List (S44)) : Option (Int) := if (l1.length : Int) > 60 then (some 3) else (breed_remembered.l0 k a0 l1 (l1.length : Int) 0)
set_option maxHeartbeats 8000000 in
set_option maxRecDepth 100000 in
theorem breed_remembered.calls (k : Nat) (a0 : Int) (A1 : Option Addr) (c1 : Nat) (l1 : List (S44)) (r : Int) (w : World) (hr1 : Kd.C k44 w A1 l1.length l1) (hc1 : l1.length ≤ c1) (h : breed_remembered.f k a0 l1 = some r) :
    Calls Tryd.prog 56 #[.int .i64 a0, .slice A1 l1.length c1] w fun e w' => e = .returned (.int .i64 r) ∧ Below w.heap.size w w' := by
  have hu44 := Tryd.underlying44
  have HR1 := Aside0.mk hr1
  have HC1 := Aside0.mk hc1
  clear hr1 hc1
  have HB := Aside0.mk (Below.refl w.heap.size w)
  have H : (if (l1.length : Int) > 60 then (some 3) else (breed_remembered.l0 k a0 l1 (l1.length : Int) 0)) = some r := h
  clear h
  by_cases c3 : (l1.length : Int) > 60
  · rw [if_pos c3] at H
    have c3b0 : decide (60 < (l1.length : Int)) = true := decide_eq_true c3
    have c3b1 : decide (60 < l1.length) = true := decide_eq_true (by omega)
    clear c3
    obtain rfl := Option.some.inj H
    go_enter Tryd.func56, Tryd.ntmps56
    go_wp2
    go_ret
    exact ⟨by first | rfl | (simp [errW_none, errW_some] <;> rfl) | (simp [*, errW_none, errW_some] <;> rfl), by repeat (first | (with_reducible first | exact HB.out | apply below_alloc | apply pw_below_drewN | apply below_drew1) | exact HB.out)⟩
  · rw [if_neg c3] at H
    have c3b0 : decide (60 < (l1.length : Int)) = false := decide_eq_false c3
    have c3b1 : decide (60 < l1.length) = false := decide_eq_false (by omega)
    clear c3
    have H' := Aside0.mk H
    clear H
    go_enter Tryd.func56, Tryd.ntmps56
    go_wp2
    go_loopg [12] k (fun kq v12 w' => ∃ (x12_1 : Int), v12 = .int .i64 x12_1 ∧ Aside0 (breed_remembered.l0 kq a0 l1 (l1.length : Int) x12_1 = some r) ∧ Aside0 (kq ≤ k) ∧ Aside0 (Below w.heap.size w w'))
    case atStart => exact ⟨(0), (by first | rfl | (simp; done) | (simp [*]; done)), H', ⟨Nat.le_refl _⟩, ⟨by repeat (first | (with_reducible first | exact HB.out | apply below_alloc | apply pw_below_drewN | apply below_drew1) | exact HB.out)⟩⟩
    case round =>
      clear H'
      try clear c1
      try clear p2
      try clear c3
      try clear c3b0
      try clear c3b1
      obtain ⟨x12_1, rfl, HA, HK1, HB⟩ := hrel
      cases gk with
      | zero => exact absurd HA.out (by simp [breed_remembered.l0])
      | succ k1 =>
        have H := HA.out
        clear HA
        simp only [breed_remembered.l0] at H
        by_cases c4 : x12_1 < (l1.length : Int)
        · rw [if_pos c4] at H
          have c4b0 : decide (x12_1 < (l1.length : Int)) = true := decide_eq_true c4
          clear c4
          by_cases c5 : 0 ≤ x12_1
          · rw [if_pos c5] at H
            have c5b0 : decide (0 ≤ x12_1) = true := decide_eq_true c5
            clear c5
            by_cases c6 : x12_1 < (l1.length : Int)
            · rw [if_pos c6] at H
              have c6b0 : decide (x12_1 < (l1.length : Int)) = true := decide_eq_true c6
              clear c6
              by_cases c7 : ((rd_T44 l1 x12_1).f0) < 0
              · rw [if_pos c7] at H
                have c7b0 : decide (((rd_T44 l1 x12_1).f0) < 0) = true := decide_eq_true c7
                clear c7
                obtain rfl := Option.some.inj H
                have p132 : 0 ≤ (x12_1 : Int) := of_decide_eq_true (by first | (with_reducible assumption) | assumption)
                have q132 : x12_1 < (l1.length : Int) := of_decide_eq_true (by first | (with_reducible assumption) | assumption)
                obtain ⟨ad132, e132, hx132_0, hx132_1, hx132_2⟩ := at_T44 HR1.out x12_1 p132 q132
                cases e132
                replace hx132_0 := (HB.out.cell (World.block_lt_of_cell? w _ hx132_0)).trans hx132_0
                replace hx132_1 := (HB.out.cell (World.block_lt_of_cell? w _ hx132_1)).trans hx132_1
                replace hx132_2 := (HB.out.cell (World.block_lt_of_cell? w _ hx132_2)).trans hx132_2
                replace p132 := eq_true p132
                replace q132 := eq_true q132
                go_wp2_with (first | ((with_reducible refine gate_dst (N := 6) rfl ?_); refine box_event ?hg (N := 6) ?hd (cs := #[.int .i64 0, .int .i64 0, .int .i64 0]) (t := 44) ?hr ?_; (case hd => rfl); (case hg => rfl); (case hr => first | (go_simp; done) | (go_simp; rfl)); intro gb133 hg w8 hbox hb; have n0_ := Aside0.mk (below_step (by repeat (first | (with_reducible first | exact HB.out | apply below_alloc | apply pw_below_drewN | apply below_drew1) | exact HB.out)) hb); have n1_ := Aside0.mk (hbox); have n2_ := Aside0.mk ((by rw [hg]; exact (below_size (by repeat (first | (with_reducible first | exact HB.out | apply below_alloc | apply pw_below_drewN | apply below_drew1) | exact HB.out))) : w.heap.size ≤ gb133)); have n3_ := Aside0.mk ((by rw [hg]; exact (below_size (by repeat (first | (with_reducible first | exact HB.out | apply below_alloc | apply pw_below_drewN | apply below_drew1) | exact HB.out))) : w.heap.size ≤ gb133)); clear HB; have HB := n0_; have BK133 := n1_; have GW133 := n2_; have GE133 := n3_; clear n0_ n1_ n2_ n3_; clear hb hbox hg; have hcz9_0 : w8.cell? ⟨gb133, 0, none⟩ = some (.int .i64 0) := (blk_cell BK133.out 0).trans rfl; have hcz9_1 : w8.cell? ⟨gb133, 1, none⟩ = some (.int .i64 0) := (blk_cell BK133.out 1).trans rfl; have hcz9_2 : w8.cell? ⟨gb133, 2, none⟩ = some (.int .i64 0) := (blk_cell BK133.out 2).trans rfl; have hfz9_0 := blk_frozen BK133.out 0; have hfz9_1 := blk_frozen BK133.out 1; have hfz9_2 := blk_frozen BK133.out 2))
                go_ret
                exact ⟨by first | rfl | (simp [errW_none, errW_some] <;> rfl) | (simp [*, errW_none, errW_some] <;> rfl), by repeat (first | (with_reducible first | exact HB.out | apply below_alloc | apply pw_below_drewN | apply below_drew1 | refine below_set ?_ GE133.out) | exact HB.out)⟩
              · rw [if_neg c7] at H
                have c7b0 : decide (((rd_T44 l1 x12_1).f0) < 0) = false := decide_eq_false c7
                clear c7
                by_cases c10 : ((rd_T44 l1 x12_1).f0) ≥ ((rd_T44 l1 x12_1).f1)
                · rw [if_pos c10] at H
                  have c10b0 : decide (((rd_T44 l1 x12_1).f1) ≤ ((rd_T44 l1 x12_1).f0)) = true := decide_eq_true c10
                  clear c10
                  obtain rfl := Option.some.inj H
                  have p132 : 0 ≤ (x12_1 : Int) := of_decide_eq_true (by first | (with_reducible assumption) | assumption)
                  have q132 : x12_1 < (l1.length : Int) := of_decide_eq_true (by first | (with_reducible assumption) | assumption)
                  obtain ⟨ad132, e132, hx132_0, hx132_1, hx132_2⟩ := at_T44 HR1.out x12_1 p132 q132
                  cases e132
                  replace hx132_0 := (HB.out.cell (World.block_lt_of_cell? w _ hx132_0)).trans hx132_0
                  replace hx132_1 := (HB.out.cell (World.block_lt_of_cell? w _ hx132_1)).trans hx132_1
                  replace hx132_2 := (HB.out.cell (World.block_lt_of_cell? w _ hx132_2)).trans hx132_2
                  replace p132 := eq_true p132
                  replace q132 := eq_true q132
                  go_wp2_with (first | ((with_reducible refine gate_dst (N := 6) rfl ?_); refine box_event ?hg (N := 6) ?hd (cs := #[.int .i64 0, .int .i64 0, .int .i64 0]) (t := 44) ?hr ?_; (case hd => rfl); (case hg => rfl); (case hr => first | (go_simp; done) | (go_simp; rfl)); intro gb133 hg w11 hbox hb; have n0_ := Aside0.mk (below_step (by repeat (first | (with_reducible first | exact HB.out | apply below_alloc | apply pw_below_drewN | apply below_drew1) | exact HB.out)) hb); have n1_ := Aside0.mk (hbox); have n2_ := Aside0.mk ((by rw [hg]; exact (below_size (by repeat (first | (with_reducible first | exact HB.out | apply below_alloc | apply pw_below_drewN | apply below_drew1) | exact HB.out))) : w.heap.size ≤ gb133)); have n3_ := Aside0.mk ((by rw [hg]; exact (below_size (by repeat (first | (with_reducible first | exact HB.out | apply below_alloc | apply pw_below_drewN | apply below_drew1) | exact HB.out))) : w.heap.size ≤ gb133)); clear HB; have HB := n0_; have BK133 := n1_; have GW133 := n2_; have GE133 := n3_; clear n0_ n1_ n2_ n3_; clear hb hbox hg; have hcz12_0 : w11.cell? ⟨gb133, 0, none⟩ = some (.int .i64 0) := (blk_cell BK133.out 0).trans rfl; have hcz12_1 : w11.cell? ⟨gb133, 1, none⟩ = some (.int .i64 0) := (blk_cell BK133.out 1).trans rfl; have hcz12_2 : w11.cell? ⟨gb133, 2, none⟩ = some (.int .i64 0) := (blk_cell BK133.out 2).trans rfl; have hfz12_0 := blk_frozen BK133.out 0; have hfz12_1 := blk_frozen BK133.out 1; have hfz12_2 := blk_frozen BK133.out 2))
                  go_ret
                  exact ⟨by first | rfl | (simp [errW_none, errW_some] <;> rfl) | (simp [*, errW_none, errW_some] <;> rfl), by repeat (first | (with_reducible first | exact HB.out | apply below_alloc | apply pw_below_drewN | apply below_drew1 | refine below_set ?_ GE133.out) | exact HB.out)⟩
                · rw [if_neg c10] at H
                  have c10b0 : decide (((rd_T44 l1 x12_1).f1) ≤ ((rd_T44 l1 x12_1).f0)) = false := decide_eq_false c10
                  clear c10
                  by_cases c13 : ((rd_T44 l1 x12_1).f1) ≥ a0
                  · rw [if_pos c13] at H
                    have c13b0 : decide (a0 ≤ ((rd_T44 l1 x12_1).f1)) = true := decide_eq_true c13
                    clear c13
                    obtain rfl := Option.some.inj H
                    have p132 : 0 ≤ (x12_1 : Int) := of_decide_eq_true (by first | (with_reducible assumption) | assumption)
                    have q132 : x12_1 < (l1.length : Int) := of_decide_eq_true (by first | (with_reducible assumption) | assumption)
                    obtain ⟨ad132, e132, hx132_0, hx132_1, hx132_2⟩ := at_T44 HR1.out x12_1 p132 q132
                    cases e132
                    replace hx132_0 := (HB.out.cell (World.block_lt_of_cell? w _ hx132_0)).trans hx132_0
                    replace hx132_1 := (HB.out.cell (World.block_lt_of_cell? w _ hx132_1)).trans hx132_1
                    replace hx132_2 := (HB.out.cell (World.block_lt_of_cell? w _ hx132_2)).trans hx132_2
                    replace p132 := eq_true p132
                    replace q132 := eq_true q132
                    go_wp2_with (first | ((with_reducible refine gate_dst (N := 6) rfl ?_); refine box_event ?hg (N := 6) ?hd (cs := #[.int .i64 0, .int .i64 0, .int .i64 0]) (t := 44) ?hr ?_; (case hd => rfl); (case hg => rfl); (case hr => first | (go_simp; done) | (go_simp; rfl)); intro gb133 hg w14 hbox hb; have n0_ := Aside0.mk (below_step (by repeat (first | (with_reducible first | exact HB.out | apply below_alloc | apply pw_below_drewN | apply below_drew1) | exact HB.out)) hb); have n1_ := Aside0.mk (hbox); have n2_ := Aside0.mk ((by rw [hg]; exact (below_size (by repeat (first | (with_reducible first | exact HB.out | apply below_alloc | apply pw_below_drewN | apply below_drew1) | exact HB.out))) : w.heap.size ≤ gb133)); have n3_ := Aside0.mk ((by rw [hg]; exact (below_size (by repeat (first | (with_reducible first | exact HB.out | apply below_alloc | apply pw_below_drewN | apply below_drew1) | exact HB.out))) : w.heap.size ≤ gb133)); clear HB; have HB := n0_; have BK133 := n1_; have GW133 := n2_; have GE133 := n3_; clear n0_ n1_ n2_ n3_; clear hb hbox hg; have hcz15_0 : w14.cell? ⟨gb133, 0, none⟩ = some (.int .i64 0) := (blk_cell BK133.out 0).trans rfl; have hcz15_1 : w14.cell? ⟨gb133, 1, none⟩ = some (.int .i64 0) := (blk_cell BK133.out 1).trans rfl; have hcz15_2 : w14.cell? ⟨gb133, 2, none⟩ = some (.int .i64 0) := (blk_cell BK133.out 2).trans rfl; have hfz15_0 := blk_frozen BK133.out 0; have hfz15_1 := blk_frozen BK133.out 1; have hfz15_2 := blk_frozen BK133.out 2))
                    go_ret
                    exact ⟨by first | rfl | (simp [errW_none, errW_some] <;> rfl) | (simp [*, errW_none, errW_some] <;> rfl), by repeat (first | (with_reducible first | exact HB.out | apply below_alloc | apply pw_below_drewN | apply below_drew1 | refine below_set ?_ GE133.out) | exact HB.out)⟩
                  · rw [if_neg c13] at H
                    have c13b0 : decide (a0 ≤ ((rd_T44 l1 x12_1).f1)) = false := decide_eq_false c13
                    clear c13
                    by_cases c16 : ((rd_T44 l1 x12_1).f2) < 0
                    · rw [if_pos c16] at H
                      have c16b0 : decide (((rd_T44 l1 x12_1).f2) < 0) = true := decide_eq_true c16
                      clear c16
                      obtain rfl := Option.some.inj H
                      have p132 : 0 ≤ (x12_1 : Int) := of_decide_eq_true (by first | (with_reducible assumption) | assumption)
                      have q132 : x12_1 < (l1.length : Int) := of_decide_eq_true (by first | (with_reducible assumption) | assumption)
                      obtain ⟨ad132, e132, hx132_0, hx132_1, hx132_2⟩ := at_T44 HR1.out x12_1 p132 q132
                      cases e132
                      replace hx132_0 := (HB.out.cell (World.block_lt_of_cell? w _ hx132_0)).trans hx132_0
                      replace hx132_1 := (HB.out.cell (World.block_lt_of_cell? w _ hx132_1)).trans hx132_1
                      replace hx132_2 := (HB.out.cell (World.block_lt_of_cell? w _ hx132_2)).trans hx132_2
                      replace p132 := eq_true p132
                      replace q132 := eq_true q132
                      go_wp2_with (first | ((with_reducible refine gate_dst (N := 6) rfl ?_); refine box_event ?hg (N := 6) ?hd (cs := #[.int .i64 0, .int .i64 0, .int .i64 0]) (t := 44) ?hr ?_; (case hd => rfl); (case hg => rfl); (case hr => first | (go_simp; done) | (go_simp; rfl)); intro gb133 hg w17 hbox hb; have n0_ := Aside0.mk (below_step (by repeat (first | (with_reducible first | exact HB.out | apply below_alloc | apply pw_below_drewN | apply below_drew1) | exact HB.out)) hb); have n1_ := Aside0.mk (hbox); have n2_ := Aside0.mk ((by rw [hg]; exact (below_size (by repeat (first | (with_reducible first | exact HB.out | apply below_alloc | apply pw_below_drewN | apply below_drew1) | exact HB.out))) : w.heap.size ≤ gb133)); have n3_ := Aside0.mk ((by rw [hg]; exact (below_size (by repeat (first | (with_reducible first | exact HB.out | apply below_alloc | apply pw_below_drewN | apply below_drew1) | exact HB.out))) : w.heap.size ≤ gb133)); clear HB; have HB := n0_; have BK133 := n1_; have GW133 := n2_; have GE133 := n3_; clear n0_ n1_ n2_ n3_; clear hb hbox hg; have hcz18_0 : w17.cell? ⟨gb133, 0, none⟩ = some (.int .i64 0) := (blk_cell BK133.out 0).trans rfl; have hcz18_1 : w17.cell? ⟨gb133, 1, none⟩ = some (.int .i64 0) := (blk_cell BK133.out 1).trans rfl; have hcz18_2 : w17.cell? ⟨gb133, 2, none⟩ = some (.int .i64 0) := (blk_cell BK133.out 2).trans rfl; have hfz18_0 := blk_frozen BK133.out 0; have hfz18_1 := blk_frozen BK133.out 1; have hfz18_2 := blk_frozen BK133.out 2))
                      go_ret
                      exact ⟨by first | rfl | (simp [errW_none, errW_some] <;> rfl) | (simp [*, errW_none, errW_some] <;> rfl), by repeat (first | (with_reducible first | exact HB.out | apply below_alloc | apply pw_below_drewN | apply below_drew1 | refine below_set ?_ GE133.out) | exact HB.out)⟩
                    · rw [if_neg c16] at H
                      have c16b0 : decide (((rd_T44 l1 x12_1).f2) < 0) = false := decide_eq_false c16
                      clear c16
                      by_cases c19 : ((rd_T44 l1 x12_1).f2) ≥ a0
                      · rw [if_pos c19] at H
                        have c19b0 : decide (a0 ≤ ((rd_T44 l1 x12_1).f2)) = true := decide_eq_true c19
                        clear c19
                        obtain rfl := Option.some.inj H
                        have p132 : 0 ≤ (x12_1 : Int) := of_decide_eq_true (by first | (with_reducible assumption) | assumption)
                        have q132 : x12_1 < (l1.length : Int) := of_decide_eq_true (by first | (with_reducible assumption) | assumption)
                        obtain ⟨ad132, e132, hx132_0, hx132_1, hx132_2⟩ := at_T44 HR1.out x12_1 p132 q132
                        cases e132
                        replace hx132_0 := (HB.out.cell (World.block_lt_of_cell? w _ hx132_0)).trans hx132_0
                        replace hx132_1 := (HB.out.cell (World.block_lt_of_cell? w _ hx132_1)).trans hx132_1
                        replace hx132_2 := (HB.out.cell (World.block_lt_of_cell? w _ hx132_2)).trans hx132_2
                        replace p132 := eq_true p132
                        replace q132 := eq_true q132
                        go_wp2_with (first | ((with_reducible refine gate_dst (N := 6) rfl ?_); refine box_event ?hg (N := 6) ?hd (cs := #[.int .i64 0, .int .i64 0, .int .i64 0]) (t := 44) ?hr ?_; (case hd => rfl); (case hg => rfl); (case hr => first | (go_simp; done) | (go_simp; rfl)); intro gb133 hg w20 hbox hb; have n0_ := Aside0.mk (below_step (by repeat (first | (with_reducible first | exact HB.out | apply below_alloc | apply pw_below_drewN | apply below_drew1) | exact HB.out)) hb); have n1_ := Aside0.mk (hbox); have n2_ := Aside0.mk ((by rw [hg]; exact (below_size (by repeat (first | (with_reducible first | exact HB.out | apply below_alloc | apply pw_below_drewN | apply below_drew1) | exact HB.out))) : w.heap.size ≤ gb133)); have n3_ := Aside0.mk ((by rw [hg]; exact (below_size (by repeat (first | (with_reducible first | exact HB.out | apply below_alloc | apply pw_below_drewN | apply below_drew1) | exact HB.out))) : w.heap.size ≤ gb133)); clear HB; have HB := n0_; have BK133 := n1_; have GW133 := n2_; have GE133 := n3_; clear n0_ n1_ n2_ n3_; clear hb hbox hg; have hcz21_0 : w20.cell? ⟨gb133, 0, none⟩ = some (.int .i64 0) := (blk_cell BK133.out 0).trans rfl; have hcz21_1 : w20.cell? ⟨gb133, 1, none⟩ = some (.int .i64 0) := (blk_cell BK133.out 1).trans rfl; have hcz21_2 : w20.cell? ⟨gb133, 2, none⟩ = some (.int .i64 0) := (blk_cell BK133.out 2).trans rfl; have hfz21_0 := blk_frozen BK133.out 0; have hfz21_1 := blk_frozen BK133.out 1; have hfz21_2 := blk_frozen BK133.out 2))
                        go_ret
                        exact ⟨by first | rfl | (simp [errW_none, errW_some] <;> rfl) | (simp [*, errW_none, errW_some] <;> rfl), by repeat (first | (with_reducible first | exact HB.out | apply below_alloc | apply pw_below_drewN | apply below_drew1 | refine below_set ?_ GE133.out) | exact HB.out)⟩
                      · rw [if_neg c19] at H
                        have c19b0 : decide (a0 ≤ ((rd_T44 l1 x12_1).f2)) = false := decide_eq_false c19
                        clear c19
                        by_cases c22 : ((rd_T44 l1 x12_1).f2) = ((rd_T44 l1 x12_1).f0)
                        · rw [if_pos c22] at H
                          have c22b0 : (((rd_T44 l1 x12_1).f2) == ((rd_T44 l1 x12_1).f0)) = true := beq_iff_eq.mpr c22
                          have c22b1 : (((rd_T44 l1 x12_1).f2) != ((rd_T44 l1 x12_1).f0)) = false := bne_eq_false_iff_eq.mpr c22
                          clear c22
                          obtain rfl := Option.some.inj H
                          have p132 : 0 ≤ (x12_1 : Int) := of_decide_eq_true (by first | (with_reducible assumption) | assumption)
                          have q132 : x12_1 < (l1.length : Int) := of_decide_eq_true (by first | (with_reducible assumption) | assumption)
                          obtain ⟨ad132, e132, hx132_0, hx132_1, hx132_2⟩ := at_T44 HR1.out x12_1 p132 q132
                          cases e132
                          replace hx132_0 := (HB.out.cell (World.block_lt_of_cell? w _ hx132_0)).trans hx132_0
                          replace hx132_1 := (HB.out.cell (World.block_lt_of_cell? w _ hx132_1)).trans hx132_1
                          replace hx132_2 := (HB.out.cell (World.block_lt_of_cell? w _ hx132_2)).trans hx132_2
                          replace p132 := eq_true p132
                          replace q132 := eq_true q132
                          go_wp2_with (first | ((with_reducible refine gate_dst (N := 6) rfl ?_); refine box_event ?hg (N := 6) ?hd (cs := #[.int .i64 0, .int .i64 0, .int .i64 0]) (t := 44) ?hr ?_; (case hd => rfl); (case hg => rfl); (case hr => first | (go_simp; done) | (go_simp; rfl)); intro gb133 hg w23 hbox hb; have n0_ := Aside0.mk (below_step (by repeat (first | (with_reducible first | exact HB.out | apply below_alloc | apply pw_below_drewN | apply below_drew1) | exact HB.out)) hb); have n1_ := Aside0.mk (hbox); have n2_ := Aside0.mk ((by rw [hg]; exact (below_size (by repeat (first | (with_reducible first | exact HB.out | apply below_alloc | apply pw_below_drewN | apply below_drew1) | exact HB.out))) : w.heap.size ≤ gb133)); have n3_ := Aside0.mk ((by rw [hg]; exact (below_size (by repeat (first | (with_reducible first | exact HB.out | apply below_alloc | apply pw_below_drewN | apply below_drew1) | exact HB.out))) : w.heap.size ≤ gb133)); clear HB; have HB := n0_; have BK133 := n1_; have GW133 := n2_; have GE133 := n3_; clear n0_ n1_ n2_ n3_; clear hb hbox hg; have hcz24_0 : w23.cell? ⟨gb133, 0, none⟩ = some (.int .i64 0) := (blk_cell BK133.out 0).trans rfl; have hcz24_1 : w23.cell? ⟨gb133, 1, none⟩ = some (.int .i64 0) := (blk_cell BK133.out 1).trans rfl; have hcz24_2 : w23.cell? ⟨gb133, 2, none⟩ = some (.int .i64 0) := (blk_cell BK133.out 2).trans rfl; have hfz24_0 := blk_frozen BK133.out 0; have hfz24_1 := blk_frozen BK133.out 1; have hfz24_2 := blk_frozen BK133.out 2))
                          go_ret
                          exact ⟨by first | rfl | (simp [errW_none, errW_some] <;> rfl) | (simp [*, errW_none, errW_some] <;> rfl), by repeat (first | (with_reducible first | exact HB.out | apply below_alloc | apply pw_below_drewN | apply below_drew1 | refine below_set ?_ GE133.out) | exact HB.out)⟩
                        · rw [if_neg c22] at H
                          have c22b0 : (((rd_T44 l1 x12_1).f2) == ((rd_T44 l1 x12_1).f0)) = false := beq_eq_false_iff_ne.mpr c22
                          have c22b1 : (((rd_T44 l1 x12_1).f2) != ((rd_T44 l1 x12_1).f0)) = true := bne_iff_ne.mpr c22
                          by_cases c25 : ((rd_T44 l1 x12_1).f2) = ((rd_T44 l1 x12_1).f1)
                          · rw [if_pos c25] at H
                            have c25b0 : (((rd_T44 l1 x12_1).f2) == ((rd_T44 l1 x12_1).f1)) = true := beq_iff_eq.mpr c25
                            have c25b1 : (((rd_T44 l1 x12_1).f2) != ((rd_T44 l1 x12_1).f1)) = false := bne_eq_false_iff_eq.mpr c25
                            clear c25
                            obtain rfl := Option.some.inj H
                            have p132 : 0 ≤ (x12_1 : Int) := of_decide_eq_true (by first | (with_reducible assumption) | assumption)
                            have q132 : x12_1 < (l1.length : Int) := of_decide_eq_true (by first | (with_reducible assumption) | assumption)
                            obtain ⟨ad132, e132, hx132_0, hx132_1, hx132_2⟩ := at_T44 HR1.out x12_1 p132 q132
                            cases e132
                            replace hx132_0 := (HB.out.cell (World.block_lt_of_cell? w _ hx132_0)).trans hx132_0
                            replace hx132_1 := (HB.out.cell (World.block_lt_of_cell? w _ hx132_1)).trans hx132_1
                            replace hx132_2 := (HB.out.cell (World.block_lt_of_cell? w _ hx132_2)).trans hx132_2
                            replace p132 := eq_true p132
                            replace q132 := eq_true q132
                            go_wp2_with (first | ((with_reducible refine gate_dst (N := 6) rfl ?_); refine box_event ?hg (N := 6) ?hd (cs := #[.int .i64 0, .int .i64 0, .int .i64 0]) (t := 44) ?hr ?_; (case hd => rfl); (case hg => rfl); (case hr => first | (go_simp; done) | (go_simp; rfl)); intro gb133 hg w26 hbox hb; have n0_ := Aside0.mk (below_step (by repeat (first | (with_reducible first | exact HB.out | apply below_alloc | apply pw_below_drewN | apply below_drew1) | exact HB.out)) hb); have n1_ := Aside0.mk (hbox); have n2_ := Aside0.mk ((by rw [hg]; exact (below_size (by repeat (first | (with_reducible first | exact HB.out | apply below_alloc | apply pw_below_drewN | apply below_drew1) | exact HB.out))) : w.heap.size ≤ gb133)); have n3_ := Aside0.mk ((by rw [hg]; exact (below_size (by repeat (first | (with_reducible first | exact HB.out | apply below_alloc | apply pw_below_drewN | apply below_drew1) | exact HB.out))) : w.heap.size ≤ gb133)); clear HB; have HB := n0_; have BK133 := n1_; have GW133 := n2_; have GE133 := n3_; clear n0_ n1_ n2_ n3_; clear hb hbox hg; have hcz27_0 : w26.cell? ⟨gb133, 0, none⟩ = some (.int .i64 0) := (blk_cell BK133.out 0).trans rfl; have hcz27_1 : w26.cell? ⟨gb133, 1, none⟩ = some (.int .i64 0) := (blk_cell BK133.out 1).trans rfl; have hcz27_2 : w26.cell? ⟨gb133, 2, none⟩ = some (.int .i64 0) := (blk_cell BK133.out 2).trans rfl; have hfz27_0 := blk_frozen BK133.out 0; have hfz27_1 := blk_frozen BK133.out 1; have hfz27_2 := blk_frozen BK133.out 2))
                            go_ret
                            exact ⟨by first | rfl | (simp [errW_none, errW_some] <;> rfl) | (simp [*, errW_none, errW_some] <;> rfl), by repeat (first | (with_reducible first | exact HB.out | apply below_alloc | apply pw_below_drewN | apply below_drew1 | refine below_set ?_ GE133.out) | exact HB.out)⟩
                          · rw [if_neg c25] at H
                            have c25b0 : (((rd_T44 l1 x12_1).f2) == ((rd_T44 l1 x12_1).f1)) = false := beq_eq_false_iff_ne.mpr c25
                            have c25b1 : (((rd_T44 l1 x12_1).f2) != ((rd_T44 l1 x12_1).f1)) = true := bne_iff_ne.mpr c25
                            have H' := Aside0.mk H
                            clear H
                            have p132 : 0 ≤ (x12_1 : Int) := of_decide_eq_true (by first | (with_reducible assumption) | assumption)
                            have q132 : x12_1 < (l1.length : Int) := of_decide_eq_true (by first | (with_reducible assumption) | assumption)
                            obtain ⟨ad132, e132, hx132_0, hx132_1, hx132_2⟩ := at_T44 HR1.out x12_1 p132 q132
                            cases e132
                            replace hx132_0 := (HB.out.cell (World.block_lt_of_cell? w _ hx132_0)).trans hx132_0
                            replace hx132_1 := (HB.out.cell (World.block_lt_of_cell? w _ hx132_1)).trans hx132_1
                            replace hx132_2 := (HB.out.cell (World.block_lt_of_cell? w _ hx132_2)).trans hx132_2
                            replace p132 := eq_true p132
                            replace q132 := eq_true q132
                            go_wp2_with (first | ((with_reducible refine gate_dst (N := 6) rfl ?_); refine box_event ?hg (N := 6) ?hd (cs := #[.int .i64 0, .int .i64 0, .int .i64 0]) (t := 44) ?hr ?_; (case hd => rfl); (case hg => rfl); (case hr => first | (go_simp; done) | (go_simp; rfl)); intro gb133 hg w28 hbox hb; have n0_ := Aside0.mk (below_step (by repeat (first | (with_reducible first | exact HB.out | apply below_alloc | apply pw_below_drewN | apply below_drew1) | exact HB.out)) hb); have n1_ := Aside0.mk (hbox); have n2_ := Aside0.mk ((by rw [hg]; exact (below_size (by repeat (first | (with_reducible first | exact HB.out | apply below_alloc | apply pw_below_drewN | apply below_drew1) | exact HB.out))) : w.heap.size ≤ gb133)); have n3_ := Aside0.mk ((by rw [hg]; exact (below_size (by repeat (first | (with_reducible first | exact HB.out | apply below_alloc | apply pw_below_drewN | apply below_drew1) | exact HB.out))) : w.heap.size ≤ gb133)); clear HB; have HB := n0_; have BK133 := n1_; have GW133 := n2_; have GE133 := n3_; clear n0_ n1_ n2_ n3_; clear hb hbox hg; have hcz29_0 : w28.cell? ⟨gb133, 0, none⟩ = some (.int .i64 0) := (blk_cell BK133.out 0).trans rfl; have hcz29_1 : w28.cell? ⟨gb133, 1, none⟩ = some (.int .i64 0) := (blk_cell BK133.out 1).trans rfl; have hcz29_2 : w28.cell? ⟨gb133, 2, none⟩ = some (.int .i64 0) := (blk_cell BK133.out 2).trans rfl; have hfz29_0 := blk_frozen BK133.out 0; have hfz29_1 := blk_frozen BK133.out 1; have hfz29_2 := blk_frozen BK133.out 2))
                            go_roundg k1
                            case measure => have := HK1.out; omega
                            case rel => exact ⟨(wrap64 (x12_1 + 1)), (by first | rfl | (simp; done) | (simp [*]; done)), H', ⟨by have := HK1.out; omega⟩, ⟨by repeat (first | (with_reducible first | exact HB.out | apply below_alloc | apply pw_below_drewN | apply below_drew1 | refine below_set ?_ GE133.out) | exact HB.out)⟩⟩
            · rw [if_neg c6] at H
              exact absurd H (by simp)
          · rw [if_neg c5] at H
            exact absurd H (by simp)
        · rw [if_neg c4] at H
          have c4b0 : decide (x12_1 < (l1.length : Int)) = false := decide_eq_false c4
          clear c4
          obtain rfl := Option.some.inj H
          go_wp2
          go_ret
          exact ⟨by first | rfl | (simp [errW_none, errW_some] <;> rfl) | (simp [*, errW_none, errW_some] <;> rfl), by repeat (first | (with_reducible first | exact HB.out | apply below_alloc | apply pw_below_drewN | apply below_drew1) | exact HB.out)⟩

/-! ### breed_asked: function 43 -/
def breed_asked.f (k : Nat) (a0 : Int) (l1 : List (S44)) : Option (Int) := (breed_herd.f a0).bind fun t134 => (if t134 = true then ((breed_remembered.f k a0 l1).bind fun t135 => (some t135)) else (some 2))
set_option maxHeartbeats 8000000 in
set_option maxRecDepth 100000 in
theorem breed_asked.calls (k : Nat) (a0 : Int) (A1 : Option Addr) (c1 : Nat) (l1 : List (S44)) (r : Int) (w : World) (hr1 : Kd.C k44 w A1 l1.length l1) (hc1 : l1.length ≤ c1) (h : breed_asked.f k a0 l1 = some r) :
    Calls Tryd.prog 43 #[.int .i64 a0, .slice A1 l1.length c1] w fun e w' => e = .returned (.int .i64 r) ∧ Below w.heap.size w w' := by
  have HR1 := Aside0.mk hr1
  have HC1 := Aside0.mk hc1
  clear hr1 hc1
  have HB := Aside0.mk (Below.refl w.heap.size w)
  have H : ((breed_herd.f a0).bind fun t134 => (if t134 = true then ((breed_remembered.f k a0 l1).bind fun t135 => (some t135)) else (some 2))) = some r := h
  clear h
  replace H := Option.bind_eq_some_iff.mp H
  obtain ⟨t134, A30, H⟩ := H
  replace H : (if t134 = true then ((breed_remembered.f k a0 l1).bind fun t135 => (some t135)) else (some 2)) = some r := H
  have A3 := Aside0.mk A30
  clear A30
  by_cases c4 : t134 = true
  · subst c4
    have H1 : ((breed_remembered.f k a0 l1).bind fun t135 => (some t135)) = some r := by rw [if_pos rfl] at H; exact H
    clear H
    have H := H1
    clear H1
    replace H := Option.bind_eq_some_iff.mp H
    obtain ⟨t135, A50, H⟩ := H
    replace H : (some t135) = some r := H
    have A5 := Aside0.mk A50
    clear A50
    obtain rfl := Option.some.inj H
    go_enter Tryd.func43, Tryd.ntmps43
    go_wp2_with (first | ((with_reducible refine gate_callee (f := 40) rfl ?_); refine goesL_ (some 6) rfl rfl Tryd.func40 (by kernel_rfl) rfl #[.int .i64 a0] rfl (by (try simp only [List.map_toArray, List.map_cons, List.map_nil]); first | done | rfl | (simp only [List.length_drop, List.length_take]; rfl)) ?_; (with_reducible refine (breed_herd.calls a0 true _ A3.out).mono ?_); rintro e w' ⟨rfl, ⟨nd, rfl⟩⟩; refine ⟨_, rfl, ?_⟩) | ((with_reducible refine gate_callee (f := 56) rfl ?_); refine goesL_ (some 10) rfl rfl Tryd.func56 (by kernel_rfl) rfl #[.int .i64 a0, .slice A1 l1.length c1] rfl (by (try simp only [List.map_toArray, List.map_cons, List.map_nil]); first | done | rfl | (simp only [List.length_drop, List.length_take]; rfl)) ?_; (with_reducible refine (breed_remembered.calls k a0 _ _ l1 t135 _ ?side1 ?side2 A5.out).mono ?_); (case side1 => repeat (first | exact HR1.out | (with_reducible refine Kd.C_alloc ?_ _) | (with_reducible refine Kd.C_drewN ?_ _) | (with_reducible refine Kd.C_drew ?_))); (case side2 => exact HC1.out); rintro e w6 ⟨rfl, hb⟩; refine ⟨_, rfl, ?_⟩; have n0_ := Aside0.mk (below_step (by repeat (first | (with_reducible first | exact HB.out | apply below_alloc | apply pw_below_drewN | apply below_drew1) | exact HB.out)) hb); clear HB; have HB := n0_; clear n0_; (try clear hb); (try clear hb2); (try clear hk); (try clear hi)))
    go_ret
    exact ⟨by first | rfl | (simp [errW_none, errW_some] <;> rfl) | (simp [*, errW_none, errW_some] <;> rfl), by repeat (first | (with_reducible first | exact HB.out | apply below_alloc | apply pw_below_drewN | apply below_drew1) | exact HB.out)⟩
  · replace c4 := Bool.eq_false_iff.mpr c4
    subst c4
    have H1 : (some 2) = some r := by rw [if_neg (show ¬ (false = true) by decide)] at H; exact H
    clear H
    have H := H1
    clear H1
    obtain rfl := Option.some.inj H
    go_enter Tryd.func43, Tryd.ntmps43
    go_wp2_with (first | ((with_reducible refine gate_callee (f := 40) rfl ?_); refine goesL_ (some 6) rfl rfl Tryd.func40 (by kernel_rfl) rfl #[.int .i64 a0] rfl (by (try simp only [List.map_toArray, List.map_cons, List.map_nil]); first | done | rfl | (simp only [List.length_drop, List.length_take]; rfl)) ?_; (with_reducible refine (breed_herd.calls a0 false _ A3.out).mono ?_); rintro e w' ⟨rfl, ⟨nd, rfl⟩⟩; refine ⟨_, rfl, ?_⟩))
    go_ret
    exact ⟨by first | rfl | (simp [errW_none, errW_some] <;> rfl) | (simp [*, errW_none, errW_some] <;> rfl), by repeat (first | (with_reducible first | exact HB.out | apply below_alloc | apply pw_below_drewN | apply below_drew1) | exact HB.out)⟩

end
end Go.Proofs.YtdbbcngmnpejnaaDoor.B

/- What is asked of a number of beasts and of triples, plain. -/
namespace Go.Proofs.YtdbbcngmnpejnaaDoor.B
open Go.Proofs.YtdbbcngmnpejnaaDoor.A
open Go.RowKit Go.Proofs.YtdbbcngmnpejnaaDoorW.PrintWords Go.Proofs.YtdbbcngmnpejnaaDoorW.PrintMore
def okTri (n : Int) (t : S44) : Bool := decide (0 ≤ t.f0) && decide (t.f0 < t.f1) && decide (t.f1 < n) && decide (0 ≤ t.f2) && decide (t.f2 < n) && decide (t.f2 ≠ t.f0) && decide (t.f2 ≠ t.f1)
def listE (n : Int) (l : List S44) : Int := if 60 < l.length then 3 else if l.all (okTri n) = true then 0 else 2
def askE (n : Int) (l : List S44) : Int := if 1 ≤ n ∧ n ≤ 8 then listE n l else 2
theorem rem_loop (n : Int) (l : List S44) (hl : l.length ≤ 60) : ∀ d i : Nat, i + d = l.length → breed_remembered.l0 (d + 1) n l (l.length : Int) (i : Int) = some (if (l.drop i).all (okTri n) = true then 0 else 2)
  | 0, i, h => by
    rw [breed_remembered.l0, if_neg (by omega), List.drop_of_length_le (by omega)]
    rfl
  | d + 1, i, h => by
    have hi : i < l.length := by omega
    have hw : wrap64 ((i : Int) + 1) = ((i + 1 : Nat) : Int) := by unfold wrap64; omega
    rw [breed_remembered.l0, if_pos (by omega), if_pos (by omega), if_pos (by omega), hw, rem_loop n l hl d (i + 1) (by omega)]
    have hrd : rd_T44 l (i : Int) = l[i] := by simp only [rd_T44, Int.toNat_natCast, List.getD_eq_getElem?_getD, List.getElem?_eq_getElem hi, Option.getD_some]
    rw [hrd, List.drop_eq_getElem_cons hi, List.all_cons]
    generalize l[i] = t
    unfold okTri
    by_cases h1 : t.f0 < 0
    · rw [if_pos h1, decide_eq_false (show ¬ 0 ≤ t.f0 by omega)]; rfl
    rw [if_neg h1, decide_eq_true (show 0 ≤ t.f0 by omega)]
    by_cases h2 : t.f0 ≥ t.f1
    · rw [if_pos h2, decide_eq_false (show ¬ t.f0 < t.f1 by omega)]; rfl
    rw [if_neg h2, decide_eq_true (show t.f0 < t.f1 by omega)]
    by_cases h3 : t.f1 ≥ n
    · rw [if_pos h3, decide_eq_false (show ¬ t.f1 < n by omega)]; rfl
    rw [if_neg h3, decide_eq_true (show t.f1 < n by omega)]
    by_cases h4 : t.f2 < 0
    · rw [if_pos h4, decide_eq_false (show ¬ 0 ≤ t.f2 by omega)]; rfl
    rw [if_neg h4, decide_eq_true (show 0 ≤ t.f2 by omega)]
    by_cases h5 : t.f2 ≥ n
    · rw [if_pos h5, decide_eq_false (show ¬ t.f2 < n by omega)]; rfl
    rw [if_neg h5, decide_eq_true (show t.f2 < n by omega)]
    by_cases h6 : t.f2 = t.f0
    · rw [if_pos h6, decide_eq_false (show ¬ t.f2 ≠ t.f0 from fun h => h h6)]; rfl
    rw [if_neg h6, decide_eq_true (show t.f2 ≠ t.f0 from h6)]
    by_cases h7 : t.f2 = t.f1
    · rw [if_pos h7, decide_eq_false (show ¬ t.f2 ≠ t.f1 from fun h => h h7)]; rfl
    rw [if_neg h7, decide_eq_true (show t.f2 ≠ t.f1 from h7)]
    simp
theorem rem_some (n : Int) (l : List S44) : ∃ k, breed_remembered.f k n l = some (listE n l) := by
  unfold breed_remembered.f listE
  by_cases h : 60 < l.length
  · exact ⟨0, by rw [if_pos (by omega), if_pos h]⟩
  · refine ⟨l.length + 1, ?_⟩
    rw [if_neg (by omega), if_neg h]
    have := rem_loop n l (by omega) l.length 0 (by omega)
    rw [List.drop_zero] at this
    exact this
theorem ask_some (n : Int) (l : List S44) : ∃ k, breed_asked.f k n l = some (askE n l) := by
  obtain ⟨k, hk⟩ := rem_some n l
  refine ⟨k, ?_⟩
  unfold breed_asked.f breed_herd.f askE
  by_cases h1 : n ≥ 1
  · rw [if_pos h1]
    by_cases h2 : n ≤ 8
    · rw [if_pos ⟨h1, h2⟩, decide_eq_true h2]
      simp [hk]
    · rw [if_neg (fun h => h2 h.2), decide_eq_false h2]
      simp
  · rw [if_neg h1, if_neg (fun h => h1 h.1)]
    simp
theorem asked_calls (n : Int) (A : Option Addr) (c : Nat) (l : List S44) (w : World) (hr : Kd.C k44 w A l.length l) (hc : l.length ≤ c) : Calls Tryd.prog 43 #[.int .i64 n, .slice A l.length c] w fun e w' => e = .returned (.int .i64 (askE n l)) ∧ Below w.heap.size w w' := by
  obtain ⟨k, hk⟩ := ask_some n l
  exact breed_asked.calls k n A c l _ w hr hc hk
theorem listE_zero {n : Int} {l : List S44} (h : listE n l = 0) : l.length ≤ 60 ∧ ∀ t ∈ l, okTri n t = true := by
  unfold listE at h
  split at h
  · cases h
  · rename_i h1
    split at h
    · rename_i h2; exact ⟨by omega, List.all_eq_true.mp h2⟩
    · cases h
theorem askE_zero {n : Int} {l : List S44} (h : askE n l = 0) : (1 ≤ n ∧ n ≤ 8) ∧ l.length ≤ 60 ∧ ∀ t ∈ l, okTri n t = true := by
  unfold askE at h
  split at h
  · rename_i h1; exact ⟨h1, listE_zero h⟩
  · cases h
theorem okTri_parts {n : Int} {t : S44} (h : okTri n t = true) : 0 ≤ t.f0 ∧ t.f0 < t.f1 ∧ t.f1 < n ∧ 0 ≤ t.f2 ∧ t.f2 < n ∧ t.f2 ≠ t.f0 ∧ t.f2 ≠ t.f1 := by
  unfold okTri at h
  simp only [Bool.and_eq_true, decide_eq_true_iff] at h
  obtain ⟨⟨⟨⟨⟨⟨h1, h2⟩, h3⟩, h4⟩, h5⟩, h6⟩, h7⟩ := h
  exact ⟨h1, h2, h3, h4, h5, h6, h7⟩
theorem okTri_8 {n : Int} {t : S44} (hn : n ≤ 8) (h : okTri n t = true) : Tri8 t := by
  have := okTri_parts h
  unfold Tri8
  omega
end Go.Proofs.YtdbbcngmnpejnaaDoor.B

/- How many beasts a set has: math/bits.OnesCount, as the kit's print writes it. -/
namespace Go.Proofs.YtdbbcngmnpejnaaDoor.B
open Go.Proofs.YtdbbcngmnpejnaaDoor.A
open Go.RowKit Go.Proofs.YtdbbcngmnpejnaaDoorW.PrintWords Go.Proofs.YtdbbcngmnpejnaaDoorW.PrintLast Go.Proofs.YtdbbcngmnpejnaaDoorW.PrintMore
section
attribute [local go_sem] max2_int min2_int max_two min_two max_three min_three max_four min_four   -- for this text's walks alone
set_option linter.unusedVariables false
set_option linter.unusedSimpArgs false
/-! ### bits_OnesCount64: function 73 -/
def bits_OnesCount64.f (a0 : Int) : Option (Int) := some (Go.bits .and .i64 (wrap64 (IntKind.u64.wrap ((IntKind.u64.wrap ((IntKind.u64.wrap ((Go.bits .and .u64 (IntKind.u64.wrap (((IntKind.u64.wrap ((Go.bits .and .u64 ((IntKind.u64.wrap ((Go.bits .and .u64 (a0 / 2) 6148914691236517205) + (Go.bits .and .u64 a0 6148914691236517205))) / 4) 3689348814741910323) + (Go.bits .and .u64 (IntKind.u64.wrap ((Go.bits .and .u64 (a0 / 2) 6148914691236517205) + (Go.bits .and .u64 a0 6148914691236517205))) 3689348814741910323))) / 16) + (IntKind.u64.wrap ((Go.bits .and .u64 ((IntKind.u64.wrap ((Go.bits .and .u64 (a0 / 2) 6148914691236517205) + (Go.bits .and .u64 a0 6148914691236517205))) / 4) 3689348814741910323) + (Go.bits .and .u64 (IntKind.u64.wrap ((Go.bits .and .u64 (a0 / 2) 6148914691236517205) + (Go.bits .and .u64 a0 6148914691236517205))) 3689348814741910323))))) 1085102592571150095) + ((Go.bits .and .u64 (IntKind.u64.wrap (((IntKind.u64.wrap ((Go.bits .and .u64 ((IntKind.u64.wrap ((Go.bits .and .u64 (a0 / 2) 6148914691236517205) + (Go.bits .and .u64 a0 6148914691236517205))) / 4) 3689348814741910323) + (Go.bits .and .u64 (IntKind.u64.wrap ((Go.bits .and .u64 (a0 / 2) 6148914691236517205) + (Go.bits .and .u64 a0 6148914691236517205))) 3689348814741910323))) / 16) + (IntKind.u64.wrap ((Go.bits .and .u64 ((IntKind.u64.wrap ((Go.bits .and .u64 (a0 / 2) 6148914691236517205) + (Go.bits .and .u64 a0 6148914691236517205))) / 4) 3689348814741910323) + (Go.bits .and .u64 (IntKind.u64.wrap ((Go.bits .and .u64 (a0 / 2) 6148914691236517205) + (Go.bits .and .u64 a0 6148914691236517205))) 3689348814741910323))))) 1085102592571150095) / 256))) + ((IntKind.u64.wrap ((Go.bits .and .u64 (IntKind.u64.wrap (((IntKind.u64.wrap ((Go.bits .and .u64 ((IntKind.u64.wrap ((Go.bits .and .u64 (a0 / 2) 6148914691236517205) + (Go.bits .and .u64 a0 6148914691236517205))) / 4) 3689348814741910323) + (Go.bits .and .u64 (IntKind.u64.wrap ((Go.bits .and .u64 (a0 / 2) 6148914691236517205) + (Go.bits .and .u64 a0 6148914691236517205))) 3689348814741910323))) / 16) + (IntKind.u64.wrap ((Go.bits .and .u64 ((IntKind.u64.wrap ((Go.bits .and .u64 (a0 / 2) 6148914691236517205) + (Go.bits .and .u64 a0 6148914691236517205))) / 4) 3689348814741910323) + (Go.bits .and .u64 (IntKind.u64.wrap ((Go.bits .and .u64 (a0 / 2) 6148914691236517205) + (Go.bits .and .u64 a0 6148914691236517205))) 3689348814741910323))))) 1085102592571150095) + ((Go.bits .and .u64 (IntKind.u64.wrap (((IntKind.u64.wrap ((Go.bits .and .u64 ((IntKind.u64.wrap ((Go.bits .and .u64 (a0 / 2) 6148914691236517205) + (Go.bits .and .u64 a0 6148914691236517205))) / 4) 3689348814741910323) + (Go.bits .and .u64 (IntKind.u64.wrap ((Go.bits .and .u64 (a0 / 2) 6148914691236517205) + (Go.bits .and .u64 a0 6148914691236517205))) 3689348814741910323))) / 16) + (IntKind.u64.wrap ((Go.bits .and .u64 ((IntKind.u64.wrap ((Go.bits .and .u64 (a0 / 2) 6148914691236517205) + (Go.bits .and .u64 a0 6148914691236517205))) / 4) 3689348814741910323) + (Go.bits .and .u64 (IntKind.u64.wrap ((Go.bits .and .u64 (a0 / 2) 6148914691236517205) + (Go.bits .and .u64 a0 6148914691236517205))) 3689348814741910323))))) 1085102592571150095) / 256))) / 65536))) + ((IntKind.u64.wrap ((IntKind.u64.wrap ((Go.bits .and .u64 (IntKind.u64.wrap (((IntKind.u64.wrap ((Go.bits .and .u64 ((IntKind.u64.wrap ((Go.bits .and .u64 (a0 / 2) 6148914691236517205) + (Go.bits .and .u64 a0 6148914691236517205))) / 4) 3689348814741910323) + (Go.bits .and .u64 (IntKind.u64.wrap ((Go.bits .and .u64 (a0 / 2) 6148914691236517205) + (Go.bits .and .u64 a0 6148914691236517205))) 3689348814741910323))) / 16) + (IntKind.u64.wrap ((Go.bits .and .u64 ((IntKind.u64.wrap ((Go.bits .and .u64 (a0 / 2) 6148914691236517205) + (Go.bits .and .u64 a0 6148914691236517205))) / 4) 3689348814741910323) + (Go.bits .and .u64 (IntKind.u64.wrap ((Go.bits .and .u64 (a0 / 2) 6148914691236517205) + (Go.bits .and .u64 a0 6148914691236517205))) 3689348814741910323))))) 1085102592571150095) + ((Go.bits .and .u64 (IntKind.u64.wrap (((IntKind.u64.wrap ((Go.bits .and .u64 ((IntKind.u64.wrap ((Go.bits .and .u64 (a0 / 2) 6148914691236517205) + (Go.bits .and .u64 a0 6148914691236517205))) / 4) 3689348814741910323) + (Go.bits .and .u64 (IntKind.u64.wrap ((Go.bits .and .u64 (a0 / 2) 6148914691236517205) + (Go.bits .and .u64 a0 6148914691236517205))) 3689348814741910323))) / 16) + (IntKind.u64.wrap ((Go.bits .and .u64 ((IntKind.u64.wrap ((Go.bits .and .u64 (a0 / 2) 6148914691236517205) + (Go.bits .and .u64 a0 6148914691236517205))) / 4) 3689348814741910323) + (Go.bits .and .u64 (IntKind.u64.wrap ((Go.bits .and .u64 (a0 / 2) 6148914691236517205) + (Go.bits .and .u64 a0 6148914691236517205))) 3689348814741910323))))) 1085102592571150095) / 256))) + ((IntKind.u64.wrap ((Go.bits .and .u64 (IntKind.u64.wrap (((IntKind.u64.wrap ((Go.bits .and .u64 ((IntKind.u64.wrap ((Go.bits .and .u64 (a0 / 2) 6148914691236517205) + (Go.bits .and .u64 a0 6148914691236517205))) / 4) 3689348814741910323) + (Go.bits .and .u64 (IntKind.u64.wrap ((Go.bits .and .u64 (a0 / 2) 6148914691236517205) + (Go.bits .and .u64 a0 6148914691236517205))) 3689348814741910323))) / 16) + (IntKind.u64.wrap ((Go.bits .and .u64 ((IntKind.u64.wrap ((Go.bits .and .u64 (a0 / 2) 6148914691236517205) + (Go.bits .and .u64 a0 6148914691236517205))) / 4) 3689348814741910323) + (Go.bits .and .u64 (IntKind.u64.wrap ((Go.bits .and .u64 (a0 / 2) 6148914691236517205) + (Go.bits .and .u64 a0 6148914691236517205))) 3689348814741910323))))) 1085102592571150095) + ((Go.bits .and .u64 (IntKind.u64.wrap (((IntKind.u64.wrap ((Go.bits .and .u64 ((IntKind.u64.wrap ((Go.bits .and .u64 (a0 / 2) 6148914691236517205) + (Go.bits .and .u64 a0 6148914691236517205))) / 4) 3689348814741910323) + (Go.bits .and .u64 (IntKind.u64.wrap ((Go.bits .and .u64 (a0 / 2) 6148914691236517205) + (Go.bits .and .u64 a0 6148914691236517205))) 3689348814741910323))) / 16) + (IntKind.u64.wrap ((Go.bits .and .u64 ((IntKind.u64.wrap ((Go.bits .and .u64 (a0 / 2) 6148914691236517205) + (Go.bits .and .u64 a0 6148914691236517205))) / 4) 3689348814741910323) + (Go.bits .and .u64 (IntKind.u64.wrap ((Go.bits .and .u64 (a0 / 2) 6148914691236517205) + (Go.bits .and .u64 a0 6148914691236517205))) 3689348814741910323))))) 1085102592571150095) / 256))) / 65536))) / 4294967296)))) 127)
set_option maxHeartbeats 8000000 in
set_option maxRecDepth 100000 in
theorem bits_OnesCount64.calls (a0 : Int) (r : Int) (w : World) (h : bits_OnesCount64.f a0 = some r) :
    Calls Tryd.prog 73 #[.int .u64 a0] w fun e w' => e = .returned (.int .i64 r) ∧ Drawn0 w w' := by
  have H : (some (Go.bits .and .i64 (wrap64 (IntKind.u64.wrap ((IntKind.u64.wrap ((IntKind.u64.wrap ((Go.bits .and .u64 (IntKind.u64.wrap (((IntKind.u64.wrap ((Go.bits .and .u64 ((IntKind.u64.wrap ((Go.bits .and .u64 (a0 / 2) 6148914691236517205) + (Go.bits .and .u64 a0 6148914691236517205))) / 4) 3689348814741910323) + (Go.bits .and .u64 (IntKind.u64.wrap ((Go.bits .and .u64 (a0 / 2) 6148914691236517205) + (Go.bits .and .u64 a0 6148914691236517205))) 3689348814741910323))) / 16) + (IntKind.u64.wrap ((Go.bits .and .u64 ((IntKind.u64.wrap ((Go.bits .and .u64 (a0 / 2) 6148914691236517205) + (Go.bits .and .u64 a0 6148914691236517205))) / 4) 3689348814741910323) + (Go.bits .and .u64 (IntKind.u64.wrap ((Go.bits .and .u64 (a0 / 2) 6148914691236517205) + (Go.bits .and .u64 a0 6148914691236517205))) 3689348814741910323))))) 1085102592571150095) + ((Go.bits .and .u64 (IntKind.u64.wrap (((IntKind.u64.wrap ((Go.bits .and .u64 ((IntKind.u64.wrap ((Go.bits .and .u64 (a0 / 2) 6148914691236517205) + (Go.bits .and .u64 a0 6148914691236517205))) / 4) 3689348814741910323) + (Go.bits .and .u64 (IntKind.u64.wrap ((Go.bits .and .u64 (a0 / 2) 6148914691236517205) + (Go.bits .and .u64 a0 6148914691236517205))) 3689348814741910323))) / 16) + (IntKind.u64.wrap ((Go.bits .and .u64 ((IntKind.u64.wrap ((Go.bits .and .u64 (a0 / 2) 6148914691236517205) + (Go.bits .and .u64 a0 6148914691236517205))) / 4) 3689348814741910323) + (Go.bits .and .u64 (IntKind.u64.wrap ((Go.bits .and .u64 (a0 / 2) 6148914691236517205) + (Go.bits .and .u64 a0 6148914691236517205))) 3689348814741910323))))) 1085102592571150095) / 256))) + ((IntKind.u64.wrap ((Go.bits .and .u64 (IntKind.u64.wrap (((IntKind.u64.wrap ((Go.bits .and .u64 ((IntKind.u64.wrap ((Go.bits .and .u64 (a0 / 2) 6148914691236517205) + (Go.bits .and .u64 a0 6148914691236517205))) / 4) 3689348814741910323) + (Go.bits .and .u64 (IntKind.u64.wrap ((Go.bits .and .u64 (a0 / 2) 6148914691236517205) + (Go.bits .and .u64 a0 6148914691236517205))) 3689348814741910323))) / 16) + (IntKind.u64.wrap ((Go.bits .and .u64 ((IntKind.u64.wrap ((Go.bits .and .u64 (a0 / 2) 6148914691236517205) + (Go.bits .and .u64 a0 6148914691236517205))) / 4) 3689348814741910323) + (Go.bits .and .u64 (IntKind.u64.wrap ((Go.bits .and .u64 (a0 / 2) 6148914691236517205) + (Go.bits .and .u64 a0 6148914691236517205))) 3689348814741910323))))) 1085102592571150095) + ((Go.bits .and .u64 (IntKind.u64.wrap (((IntKind.u64.wrap ((Go.bits .and .u64 ((IntKind.u64.wrap ((Go.bits .and .u64 (a0 / 2) 6148914691236517205) + (Go.bits .and .u64 a0 6148914691236517205))) / 4) 3689348814741910323) + (Go.bits .and .u64 (IntKind.u64.wrap ((Go.bits .and .u64 (a0 / 2) 6148914691236517205) + (Go.bits .and .u64 a0 6148914691236517205))) 3689348814741910323))) / 16) + (IntKind.u64.wrap ((Go.bits .and .u64 ((IntKind.u64.wrap ((Go.bits .and .u64 (a0 / 2) 6148914691236517205) + (Go.bits .and .u64 a0 6148914691236517205))) / 4) 3689348814741910323) + (Go.bits .and .u64 (IntKind.u64.wrap ((Go.bits .and .u64 (a0 / 2) 6148914691236517205) + (Go.bits .and .u64 a0 6148914691236517205))) 3689348814741910323))))) 1085102592571150095) / 256))) / 65536))) + ((IntKind.u64.wrap ((IntKind.u64.wrap ((Go.bits .and .u64 (IntKind.u64.wrap (((IntKind.u64.wrap ((Go.bits .and .u64 ((IntKind.u64.wrap ((Go.bits .and .u64 (a0 / 2) 6148914691236517205) + (Go.bits .and .u64 a0 6148914691236517205))) / 4) 3689348814741910323) + (Go.bits .and .u64 (IntKind.u64.wrap ((Go.bits .and .u64 (a0 / 2) 6148914691236517205) + (Go.bits .and .u64 a0 6148914691236517205))) 3689348814741910323))) / 16) + (IntKind.u64.wrap ((Go.bits .and .u64 ((IntKind.u64.wrap ((Go.bits .and .u64 (a0 / 2) 6148914691236517205) + (Go.bits .and .u64 a0 6148914691236517205))) / 4) 3689348814741910323) + (Go.bits .and .u64 (IntKind.u64.wrap ((Go.bits .and .u64 (a0 / 2) 6148914691236517205) + (Go.bits .and .u64 a0 6148914691236517205))) 3689348814741910323))))) 1085102592571150095) + ((Go.bits .and .u64 (IntKind.u64.wrap (((IntKind.u64.wrap ((Go.bits .and .u64 ((IntKind.u64.wrap ((Go.bits .and .u64 (a0 / 2) 6148914691236517205) + (Go.bits .and .u64 a0 6148914691236517205))) / 4) 3689348814741910323) + (Go.bits .and .u64 (IntKind.u64.wrap ((Go.bits .and .u64 (a0 / 2) 6148914691236517205) + (Go.bits .and .u64 a0 6148914691236517205))) 3689348814741910323))) / 16) + (IntKind.u64.wrap ((Go.bits .and .u64 ((IntKind.u64.wrap ((Go.bits .and .u64 (a0 / 2) 6148914691236517205) + (Go.bits .and .u64 a0 6148914691236517205))) / 4) 3689348814741910323) + (Go.bits .and .u64 (IntKind.u64.wrap ((Go.bits .and .u64 (a0 / 2) 6148914691236517205) + (Go.bits .and .u64 a0 6148914691236517205))) 3689348814741910323))))) 1085102592571150095) / 256))) + ((IntKind.u64.wrap ((Go.bits .and .u64 (IntKind.u64.wrap (((IntKind.u64.wrap ((Go.bits .and .u64 ((IntKind.u64.wrap ((Go.bits .and .u64 (a0 / 2) 6148914691236517205) + (Go.bits .and .u64 a0 6148914691236517205))) / 4) 3689348814741910323) + (Go.bits .and .u64 (IntKind.u64.wrap ((Go.bits .and .u64 (a0 / 2) 6148914691236517205) + (Go.bits .and .u64 a0 6148914691236517205))) 3689348814741910323))) / 16) + (IntKind.u64.wrap ((Go.bits .and .u64 ((IntKind.u64.wrap ((Go.bits .and .u64 (a0 / 2) 6148914691236517205) + (Go.bits .and .u64 a0 6148914691236517205))) / 4) 3689348814741910323) + (Go.bits .and .u64 (IntKind.u64.wrap ((Go.bits .and .u64 (a0 / 2) 6148914691236517205) + (Go.bits .and .u64 a0 6148914691236517205))) 3689348814741910323))))) 1085102592571150095) + ((Go.bits .and .u64 (IntKind.u64.wrap (((IntKind.u64.wrap ((Go.bits .and .u64 ((IntKind.u64.wrap ((Go.bits .and .u64 (a0 / 2) 6148914691236517205) + (Go.bits .and .u64 a0 6148914691236517205))) / 4) 3689348814741910323) + (Go.bits .and .u64 (IntKind.u64.wrap ((Go.bits .and .u64 (a0 / 2) 6148914691236517205) + (Go.bits .and .u64 a0 6148914691236517205))) 3689348814741910323))) / 16) + (IntKind.u64.wrap ((Go.bits .and .u64 ((IntKind.u64.wrap ((Go.bits .and .u64 (a0 / 2) 6148914691236517205) + (Go.bits .and .u64 a0 6148914691236517205))) / 4) 3689348814741910323) + (Go.bits .and .u64 (IntKind.u64.wrap ((Go.bits .and .u64 (a0 / 2) 6148914691236517205) + (Go.bits .and .u64 a0 6148914691236517205))) 3689348814741910323))))) 1085102592571150095) / 256))) / 65536))) / 4294967296)))) 127)) = some r := h
  clear h
  obtain rfl := Option.some.inj H
  go_enter Tryd.func73, Tryd.ntmps73
  go_wp2
  go_ret
  exact ⟨by first | rfl | (simp; done) | (simp [*]; done), by repeat (first | exact Drawn0.refl _ | apply Drawn0.step)⟩

/-! ### bits_OnesCount: function 47 -/
def bits_OnesCount.f (a0 : Int) : Option (Int) := (bits_OnesCount64.f a0).bind fun t257 => (some t257)
set_option maxHeartbeats 8000000 in
set_option maxRecDepth 100000 in
theorem bits_OnesCount.calls (a0 : Int) (r : Int) (w : World) (h : bits_OnesCount.f a0 = some r) :
    Calls Tryd.prog 47 #[.int .u64 a0] w fun e w' => e = .returned (.int .i64 r) ∧ Drawn0 w w' := by
  have H : ((bits_OnesCount64.f a0).bind fun t257 => (some t257)) = some r := h
  clear h
  replace H := Option.bind_eq_some_iff.mp H
  obtain ⟨t257, A20, H⟩ := H
  replace H : (some t257) = some r := H
  have A2 := Aside0.mk A20
  clear A20
  obtain rfl := Option.some.inj H
  go_enter Tryd.func47, Tryd.ntmps47
  go_wp2_with (first | ((with_reducible refine gate_callee (f := 73) rfl ?_); refine goesL_ (some 7) rfl rfl Tryd.func73 (by kernel_rfl) rfl #[.int .u64 a0] rfl (by (try simp only [List.map_toArray, List.map_cons, List.map_nil]); first | done | rfl | (simp only [List.length_drop, List.length_take]; rfl)) ?_; (with_reducible refine (bits_OnesCount64.calls a0 t257 _ A2.out).mono ?_); rintro e w' ⟨rfl, ⟨nd, rfl⟩⟩; refine ⟨_, rfl, ?_⟩))
  go_ret
  exact ⟨by first | rfl | (simp; done) | (simp [*]; done), by repeat (first | exact Drawn0.refl _ | apply Drawn0.step)⟩


theorem ones_table : (List.range 256).all (fun x => bits_OnesCount64.f (x : Int) == some (pcN x 8 : Int)) = true := by decide +kernel
theorem ones_calls (x : Nat) (hx : x < 256) (w : World) : Calls Tryd.prog 47 #[.int .u64 x] w fun e w' => e = .returned (.int .i64 (pcN x 8)) ∧ Below w.heap.size w w' := by
  have h := List.all_eq_true.1 ones_table x (List.mem_range.2 hx)
  have h := eq_of_beq h
  exact (bits_OnesCount.calls x (pcN x 8) w (by unfold bits_OnesCount.f; rw [h]; rfl)).mono fun _ _ ⟨p, q⟩ => ⟨p, q.below⟩
end
end Go.Proofs.YtdbbcngmnpejnaaDoor.B
