/- The plain game of an ambush, and what Go's bit operations on small sets come to. -/
import Derived.Laws.BitsLemmas
import Derived.RowKit3
import Derived.Test.YtbjpjjokamaliaaWMore
import Derived.Test.YtbjpjjokamaliaaProg
import Derived.Below
import Derived.Deep.Draws
import Derived.OwnWalk
import Derived.WalkKit
import Derived.KernelRfl
import Derived.Deep.LoopGhost
import Derived.Deep.QuietTactic
import Derived.BigQuiet
import Derived.Deep.DeepCutAuto
import Derived.Deep.CutBlock
import Derived.RowKit
import Derived.Outline
import Derived.Shelf.Abstract
import Derived.Deep.RegionHeld3
import Derived.Test.YtbjpjjokamaliaaWWords
import Derived.Lib.OthersKept
import Derived.Lib.DecodeN
import Derived.RegionTactic
import Derived.ChangeAlike
import Derived.BigRegion
import Derived.Maps.Own
import Derived.Test.YtbjpjjokamaliaaWEqStruct
import Derived.Test.YtbjpjjokamaliaaWLast
import Derived.Laws.EntriesVeiled
import Derived.Lib.ConvBytes
import Derived.Laws.BytesArg
import Derived.Deep.AppendLies
import Derived.Maps.AppendAt
import Derived.Laws.MakeOwn
import Derived.Laws.OwnMore
import Derived.Deep.OwnRows
import Derived.Tactics
import Derived.Laws.Slices
import Derived.WideLaws
import Derived.Laws.Rows
import Derived.Lib.AppendStr
import Derived.ArgAppend
import Derived.Laws.IdiomCopy
import Derived.OrdersHeld
import Derived.Test.YtbjpjjokamaliaaWTab
import Derived.Test.YtbjpjjokamaliaaWFour
import Derived.Test.YtbjpjjokamaliaaWQPut
import Derived.Test.YtbjpjjokamaliaaWApart
import Derived.Test.YtbjpjjokamaliaaWArr
import Derived.Test.YtbjpjjokamaliaaWZeros
import Derived.Test.YtbjpjjokamaliaaWFoot
import Derived.Test.YtbjpjjokamaliaaWKept
import Derived.Test.YtbjpjjokamaliaaWShare
import Derived.Test.YtbjpjjokamaliaaWN
import Derived.Test.YtbjpjjokamaliaaWFootNe
import Derived.Test.YtbjpjjokamaliaaWAt
import Derived.Test.YtbjpjjokamaliaaWRepsOne
import Derived.Test.YtbjpjjokamaliaaWInv
import Derived.Test.YtbjpjjokamaliaaWInvWords
import Derived.Test.YtbjpjjokamaliaaWGuard
import Derived.Test.YtbjpjjokamaliaaWNEv
/- The plain game of an ambush, and what Go's bit operations on small sets come to. -/
namespace Go.Proofs.Ytbjpjjokamaliaa.A
open Go.RowKit Go.Proofs.YtbjpjjokamaliaaW.PrintMore

/-! ### bits -/
theorem tb_big {a i j : Nat} (h : a < 2 ^ i) (hij : i ≤ j) : a.testBit j = false :=
  Nat.testBit_lt_two_pow (Nat.lt_of_lt_of_le h (Nat.pow_le_pow_right (by decide) hij))

theorem wrap64_nat (n : Int) (h0 : 0 ≤ n) (h1 : n < 2 ^ 62) : IntKind.i64.wrap n = n := by
  rw [IntKind.wrap_i64]; omega

theorem or64 (a b : Nat) (ha : a < 2 ^ 62) (hb : b < 2 ^ 62) : bits .or .i64 (a : Int) (b : Int) = ((a ||| b : Nat) : Int) :=
  (bits_nat .i64 62 (by decide) wrap64_nat a b ha hb).2
theorem and64 (a b : Nat) (ha : a < 2 ^ 62) (hb : b < 2 ^ 62) : bits .and .i64 (a : Int) (b : Int) = ((a &&& b : Nat) : Int) :=
  (bits_nat .i64 62 (by decide) wrap64_nat a b ha hb).1

/-- a without b. -/
def less (a b : Nat) : Nat := a ^^^ (a &&& b)
theorem tb_less (a b i : Nat) : (less a b).testBit i = (a.testBit i && !b.testBit i) := by
  unfold less
  rw [Nat.testBit_xor, Nat.testBit_and]
  cases a.testBit i <;> cases b.testBit i <;> rfl
theorem less_lt {a b k : Nat} (h : a < 2 ^ k) : less a b < 2 ^ k := Nat.xor_lt_two_pow h (Nat.lt_of_le_of_lt Nat.and_le_left h)

theorem andNot64 (a b : Nat) (ha : a < 2 ^ 62) (_hb : b < 2 ^ 62) : bits .andNot .i64 (a : Int) (b : Int) = ((less a b : Nat) : Int) := by
  have e : (BitVec.ofInt IntKind.i64.bits (a : Int) &&& ~~~ BitVec.ofInt IntKind.i64.bits (b : Int)).toNat = less a b := by
    rw [BitVec.ofInt_natCast, BitVec.ofInt_natCast]
    apply Nat.eq_of_testBit_eq
    intro i
    rw [tb_less, BitVec.testBit_toNat, BitVec.getLsbD_and, BitVec.getLsbD_not, BitVec.getLsbD_ofNat, BitVec.getLsbD_ofNat]
    by_cases hi : i < IntKind.i64.bits
    · simp [hi]
    · rw [tb_big ha (j := i) (by have : IntKind.i64.bits = 64 := rfl; omega)]
      simp
  show IntKind.i64.wrap _ = _
  simp only [e]
  exact wrap64_nat _ (by omega) (by exact_mod_cast less_lt ha)

theorem tb_two (i j : Nat) : (2 ^ i).testBit j = (j == i) := by
  rw [Nat.testBit_two_pow]
  by_cases h : i = j
  · simp [h]
  · simp [h, Ne.symm h]
theorem tb_full (m j : Nat) : (2 ^ m - 1).testBit j = decide (j < m) := Nat.testBit_two_pow_sub_one m j

theorem two_lt {i : Nat} (h : i < 62) : 2 ^ i < 2 ^ 62 := Nat.pow_lt_pow_right (by decide) h
theorem or_lt {a b k : Nat} (ha : a < 2 ^ k) (hb : b < 2 ^ k) : a ||| b < 2 ^ k := Nat.or_lt_two_pow ha hb
theorem lt62 {a k : Nat} (h : a < 2 ^ k) (hk : k ≤ 62) : a < 2 ^ 62 := Nat.lt_of_lt_of_le h (Nat.pow_le_pow_right (by decide) hk)

/-! ### the game -/
/-- A set with a spot more. -/
def up (f : Nat → Bool) (i : Nat) : Nat → Bool := fun j => f j || j == i
theorem tb_up (w i : Nat) : (w ||| 2 ^ i).testBit = up w.testBit i := by
  funext j
  rw [Nat.testBit_or, tb_two]
  rfl
/-- Have the wolves all spots of a line? -/
def inL (m : Nat) (x : Int) (W : Nat → Bool) : Bool := (List.range m).all fun i => !x.toNat.testBit i || W i
def hasL (l : List Int) (m : Nat) (W : Nat → Bool) : Bool := l.any fun x => inL m x W
/-- Is a spot free? -/
def fr (W D : Nat → Bool) (i : Nat) : Bool := !(W i || D i)
/-- Do the wolves win, n rounds at most being played (nx: they are next)? -/
def win (l : List Int) (m : Nat) : Nat → (Nat → Bool) → (Nat → Bool) → Bool → Bool
  | 0, W, _, _ => hasL l m W
  | n + 1, W, D, true => hasL l m W || (List.range m).any fun i => fr W D i && win l m n (up W i) D false
  | n + 1, W, D, false => hasL l m W || ((List.range m).any (fr W D) && (List.range m).all fun i => !fr W D i || win l m n W (up D i) true)

/-- The lines that a field may have. -/
def okL (m : Nat) (l : List Int) : Prop := ∀ x ∈ l, 1 ≤ x ∧ x < 2 ^ m

/-- The number of free spots. -/
def cntF (m : Nat) (W D : Nat → Bool) : Nat := ((List.range m).filter (fr W D)).length

theorem cnt_pos {m : Nat} {W D : Nat → Bool} {i : Nat} (hi : i < m) (h : fr W D i = true) : 0 < cntF m W D := by
  unfold cntF
  exact List.length_pos_of_mem (List.mem_filter.2 ⟨List.mem_range.2 hi, h⟩)

theorem filter_le {α : Type} {p q : α → Bool} {l : List α} (h : ∀ x ∈ l, q x = true → p x = true) : (l.filter q).length ≤ (l.filter p).length := by
  induction l with
  | nil => simp
  | cons a l ih =>
    have := ih (fun x hx => h x (List.mem_cons_of_mem _ hx))
    by_cases ha : q a = true
    · rw [List.filter_cons_of_pos ha, List.filter_cons_of_pos (h a (by simp) ha)]
      simp only [List.length_cons]; omega
    · rw [List.filter_cons_of_neg ha]
      by_cases hb : p a = true
      · rw [List.filter_cons_of_pos hb]; simp only [List.length_cons]; omega
      · rw [List.filter_cons_of_neg hb]; exact this
theorem filter_lt {α : Type} {p q : α → Bool} {l : List α} (h : ∀ x ∈ l, q x = true → p x = true) {y : α} (hy : y ∈ l) (hp : p y = true) (hq : q y = false) : (l.filter q).length < (l.filter p).length := by
  induction l with
  | nil => cases hy
  | cons a l ih =>
    have h' : ∀ x ∈ l, q x = true → p x = true := fun x hx => h x (List.mem_cons_of_mem _ hx)
    have hsub := filter_le h'
    by_cases ha : q a = true
    · have hne : a ≠ y := fun e => by rw [e, hq] at ha; cases ha
      have := ih h' ((List.mem_cons.1 hy).resolve_left (Ne.symm hne))
      rw [List.filter_cons_of_pos ha, List.filter_cons_of_pos (h a (by simp) ha)]
      simp only [List.length_cons]; omega
    · rw [List.filter_cons_of_neg ha]
      by_cases hb : p a = true
      · rw [List.filter_cons_of_pos hb]; simp only [List.length_cons]; omega
      · rw [List.filter_cons_of_neg hb]
        have hne : a ≠ y := fun e => hb (by rw [e]; exact hp)
        exact ih h' ((List.mem_cons.1 hy).resolve_left (Ne.symm hne))

theorem cnt_upW {m : Nat} {W D : Nat → Bool} {i : Nat} (hi : i < m) (h : fr W D i = true) : cntF m (up W i) D < cntF m W D :=
  filter_lt (fun x _ hx => by unfold fr up at *; revert hx; cases W x <;> cases D x <;> simp) (List.mem_range.2 hi) h (by simp [fr, up])
theorem cnt_upD {m : Nat} {W D : Nat → Bool} {i : Nat} (hi : i < m) (h : fr W D i = true) : cntF m W (up D i) < cntF m W D :=
  filter_lt (fun x _ hx => by unfold fr up at *; revert hx; cases W x <;> cases D x <;> simp) (List.mem_range.2 hi) h (by simp [fr, up])
theorem cnt_le (m : Nat) (W D : Nat → Bool) : cntF m W D ≤ m := by
  have := List.length_filter_le (fr W D) (List.range m)
  rwa [List.length_range] at this

theorem any_congr' {α : Type} {l : List α} {p q : α → Bool} (h : ∀ x ∈ l, p x = q x) : l.any p = l.any q := by
  induction l with
  | nil => rfl
  | cons a l ih => rw [List.any_cons, List.any_cons, h a (by simp), ih (fun x hx => h x (List.mem_cons_of_mem _ hx))]
theorem all_congr' {α : Type} {l : List α} {p q : α → Bool} (h : ∀ x ∈ l, p x = q x) : l.all p = l.all q := by
  induction l with
  | nil => rfl
  | cons a l ih => rw [List.all_cons, List.all_cons, h a (by simp), ih (fun x hx => h x (List.mem_cons_of_mem _ hx))]

theorem win_step (l : List Int) (m : Nat) : ∀ n W D nx, cntF m W D ≤ n → win l m (n + 1) W D nx = win l m n W D nx := by
  intro n
  induction n with
  | zero =>
    intro W D nx h
    have hno : ∀ i ∈ List.range m, fr W D i = false := by
      intro i hi
      cases hf : fr W D i with
      | false => rfl
      | true => have := cnt_pos (List.mem_range.1 hi) hf; omega
    cases nx
    · have e : (List.range m).any (fr W D) = false := by
        rw [List.any_eq_false]; intro i hi; rw [hno i hi]; simp
      simp [win, e]
    · have e : ((List.range m).any fun i => fr W D i && win l m 0 (up W i) D false) = false := by
        rw [List.any_eq_false]; intro i hi; rw [hno i hi]; simp
      show (hasL l m W || (List.range m).any fun i => fr W D i && win l m 0 (up W i) D false) = hasL l m W
      rw [e]; simp
  | succ n ih =>
    intro W D nx h
    cases nx
    · rw [win]
      conv => rhs; rw [win]
      congr 1; congr 1
      refine all_congr' fun i hi => ?_
      cases hf : fr W D i with
      | false => rfl
      | true => rw [ih W (up D i) true (by have := cnt_upD (List.mem_range.1 hi) hf; omega)]
    · rw [win]
      conv => rhs; rw [win]
      congr 1
      refine any_congr' fun i hi => ?_
      cases hf : fr W D i with
      | false => rfl
      | true => rw [ih (up W i) D false (by have := cnt_upW (List.mem_range.1 hi) hf; omega)]

/-- Do the wolves win? -/
def wins (l : List Int) (m : Nat) (W D : Nat → Bool) (nx : Bool) : Bool := win l m m W D nx
theorem wins_w (l : List Int) (m : Nat) (W D : Nat → Bool) : wins l m W D true = (hasL l m W || (List.range m).any fun i => fr W D i && wins l m (up W i) D false) := by
  show win l m m W D true = _
  rw [← win_step l m m W D true (cnt_le m W D)]
  rfl
theorem wins_d (l : List Int) (m : Nat) (W D : Nat → Bool) : wins l m W D false = (hasL l m W || ((List.range m).any (fr W D) && (List.range m).all fun i => !fr W D i || wins l m W (up D i) true)) := by
  show win l m m W D false = _
  rw [← win_step l m m W D false (cnt_le m W D)]
  rfl

/-! ### sets as numbers -/
theorem inL_iff {m x w : Nat} (hx : x < 2 ^ m) : inL m (x : Int) w.testBit = decide (less x w = 0) := by
  rw [Bool.eq_iff_iff, decide_eq_true_iff]
  unfold inL
  rw [List.all_eq_true]
  simp only [List.mem_range, Int.toNat_natCast]
  constructor
  · intro h
    apply Nat.eq_of_testBit_eq
    intro i
    rw [tb_less, Nat.zero_testBit]
    by_cases hi : i < m
    · have := h i hi
      revert this; cases x.testBit i <;> cases w.testBit i <;> simp
    · rw [tb_big hx (by omega)]; rfl
  · intro h i _
    have := congrArg (fun n => n.testBit i) h
    simp only [tb_less, Nat.zero_testBit] at this
    revert this; cases x.testBit i <;> cases w.testBit i <;> simp

/-- The free spots, as Go computes them. -/
theorem free_eq {m w d : Nat} (hm : m ≤ 61) (hw : w < 2 ^ m) (hd : d < 2 ^ m) :
    bits .andNot .i64 ((2 : Int) ^ m - 1) (bits .or .i64 (w : Int) (d : Int)) = ((less (2 ^ m - 1) (w ||| d) : Nat) : Int) := by
  have hp : 0 < 2 ^ m := Nat.two_pow_pos m
  have e : ((2 : Int) ^ m - 1) = ((2 ^ m - 1 : Nat) : Int) := by
    rw [Int.natCast_sub hp]; simp
  have hlt : 2 ^ m - 1 < 2 ^ m := Nat.sub_lt hp (by decide)
  rw [or64 w d (lt62 hw (by omega)) (lt62 hd (by omega)), e, andNot64 _ _ (lt62 hlt (by omega)) (lt62 (or_lt hw hd) (by omega))]
theorem tb_free {m w d i : Nat} (hi : i < m) : (less (2 ^ m - 1) (w ||| d)).testBit i = fr w.testBit d.testBit i := by
  rw [tb_less, tb_full, Nat.testBit_or]
  simp [hi, fr]
theorem free_zero {m w d : Nat} : less (2 ^ m - 1) (w ||| d) = 0 ↔ (List.range m).any (fr w.testBit d.testBit) = false := by
  rw [List.any_eq_false]
  constructor
  · intro h i hi
    rw [← tb_free (List.mem_range.1 hi), h]; simp
  · intro h
    apply Nat.eq_of_testBit_eq
    intro i
    rw [Nat.zero_testBit]
    by_cases hi : i < m
    · rw [tb_free hi]; simpa using h i (List.mem_range.2 hi)
    · rw [tb_less, tb_full]; simp [hi]
/-- Is bit i of a number set, as Go asks? -/
theorem bit_ask {a i : Nat} (ha : a < 2 ^ 62) : bits .and .i64 (((a : Int)) / 2 ^ i) 1 = if a.testBit i then 1 else 0 := by
  have e : ((a : Int)) / 2 ^ i = ((a / 2 ^ i : Nat) : Int) := by simp
  have h1 : ((1 : Int)) = ((1 : Nat) : Int) := rfl
  rw [e, h1, and64 _ 1 (Nat.lt_of_le_of_lt (Nat.div_le_self _ _) ha) (by decide), Nat.and_one_is_mod, Nat.testBit_eq_decide_div_mod_eq]
  rcases Nat.mod_two_eq_zero_or_one (a / 2 ^ i) with h | h <;> simp [h]
end Go.Proofs.Ytbjpjjokamaliaa.A

/- slices.IndexFunc and slices.ContainsFunc over whole numbers and over pairs: what they return, whatever predicate is handed over, if it only makes memory of its own. -/

namespace Go.Proofs.Ytbjpjjokamaliaa.A
open Go.RowKit Go.Proofs.YtbjpjjokamaliaaW.PrintWords

/-! #### struct type 59 (as print.sh writes it) -/
structure S59 where
  f0 : Int
  f1 : Int
def z59 : S59 := ⟨(0 : Int), (0 : Int)⟩
def k59 : Kd S59 := Kd.iso (Kd.pair (Kd.int .i64) (Kd.int .i64)) (fun x : S59 => (x.f0, x.f1))
theorem k59_open {w : World} {x : S59} {cs : List Value} (h : k59.K w x cs) : cs = [.int .i64 x.f0, .int .i64 x.f1] := by
  obtain ⟨_, _, rfl, rfl, rfl⟩ := h
  exact rfl
theorem k59_openM {w : World} {base : Nat} {ok : Nat → Prop} {x : S59} {cs : List Value} (h : k59.M w base ok x cs) : cs = [.int .i64 x.f0, .int .i64 x.f1] := by
  obtain ⟨_, _, rfl, rfl, rfl⟩ := h
  exact rfl
theorem k59_mk (w : World) (x : S59)  : k59.K w x [.int .i64 x.f0, .int .i64 x.f1] := ⟨[.int .i64 x.f0], [.int .i64 x.f1], rfl, rfl, rfl⟩
theorem k59_mkM (w : World) (base : Nat) (ok : Nat → Prop) (x : S59)  : k59.M w base ok x [.int .i64 x.f0, .int .i64 x.f1] := ⟨[.int .i64 x.f0], [.int .i64 x.f1], rfl, rfl, rfl⟩
def rd_T59 (xs : List S59) (i : Int) : S59 := xs.getD i.toNat z59
theorem at_T59 {w : World} {A : Option Addr} {n : Nat} {xs : List S59} (h : Kd.C k59 w A n xs) (i : Int) (h0 : 0 ≤ i) (h1 : i < n) : ∃ ad , A = some ad ∧ w.cell? (ad.add (i.toNat * 2)) = some (.int .i64 (rd_T59 xs i).f0) ∧ w.cell? ⟨(ad.add (i.toNat * 2)).block, (ad.add (i.toNat * 2)).off + 1, none⟩ = some (.int .i64 (rd_T59 xs i).f1) := by
  obtain ⟨ad, c, e, _, hK, hc0⟩ := Kd.C_get h z59 i h0 h1
  have hc : ∀ j u, c[j]? = some u → w.cell? (ad.add (i.toNat * 2 + j)) = some u := hc0
  obtain rfl := k59_open hK
  exact ⟨ad, e, hc 0 _ rfl, by rw [← add_field _ _ 1 (by omega)]; exact hc 1 _ rfl⟩

/-- A function value that answers p at each element of a list, in every world in which all that lay in w lies unturned. -/
def PredB {α : Type} (g : Nat) (lb : Array Value) (enc : α → Value) (p : α → Bool) (l : List α) (w : World) : Prop :=
  ∀ (W : World) (x : α), x ∈ l → Below w.heap.size w W → Calls Try.prog g (#[enc x] ++ lb) W fun e w' => e = .returned (.bool (p x)) ∧ Below w.heap.size w w'

theorem getD_mem {α : Type} {l : List α} {k : Nat} (d : α) (h : k < l.length) : l.getD k d ∈ l := by
  rw [List.getD_eq_getElem?_getD, List.getElem?_eq_getElem h]; exact List.getElem_mem h

theorem any_hit {α : Type} {l : List α} {p : α → Bool} {k : Nat} (d : α) (h : k < l.length) (hp : p (l.getD k d) = true) : l.any p = true := by
  rw [List.any_eq_true]
  exact ⟨_, getD_mem d h, hp⟩

theorem any_miss {α : Type} {l : List α} {p : α → Bool} (d : α) (h : ∀ j, j < l.length → p (l.getD j d) = false) : l.any p = false := by
  rw [List.any_eq_false]
  intro x hx
  obtain ⟨j, hj, rfl⟩ := List.mem_iff_getElem.1 hx
  have := h j hj
  rw [List.getD_eq_getElem?_getD, List.getElem?_eq_getElem hj] at this
  simpa using this

set_option maxHeartbeats 2000000 in
theorem IndexFunc_int (g : Nat) (lb : Array Value) (p : Int → Bool) (eg : ∀ args w, (callFunc g args).run Try.prog w = .ok (.enter g args) w)
    (A : Option Addr) (n c : Nat) (l : List Int) (w : World) (hr : Kd.C (Kd.int .i64) w A n l) (hp : PredB g lb (fun x => .int .i64 x) p l w) :
    Calls Try.prog 73 #[.slice A n c, .func (.func g) #[] lb] w fun e w' => (∃ i : Int, e = .returned (.int .i64 i) ∧ Aside0 (decide (0 ≤ i) = l.any p)) ∧ Below w.heap.size w w' := by
  have hlen : l.length = n := hr.1
  have hmax : n ≤ 9223372036854775807 := hr.2.1
  have HR := Aside0.mk hr
  have HP := Aside0.mk hp
  have HL := Aside0.mk hlen
  clear hr hp hlen
  go_enter Try.func73, Try.ntmps73
  go_wp2
  go_loopg [5, 8] n (fun gg _ s8 wr => ∃ kk : Nat, kk ≤ n ∧ n - kk ≤ gg ∧ s8 = .int .i64 kk ∧ Aside0 (Below w.heap.size w wr) ∧ Aside0 (∀ j, j < kk → p (l.getD j 0) = false))
  case atStart => exact ⟨0, Nat.zero_le _, by omega, rfl, ⟨Below.refl _ w⟩, ⟨fun j hj => absurd hj (Nat.not_lt_zero _)⟩⟩
  case round =>
    obtain ⟨kk, hkk, hg, rfl, BW, AF⟩ := hrel
    by_cases hlt : kk < n
    · have hltz : (kk : Int) < (n : Int) := by omega
      obtain ⟨ad, rfl, hcell⟩ := Kd.at_int (Kd.C_below HR.out BW.out) (kk : Int) (by omega) (by omega)
      rw [Int.toNat_natCast] at hcell
      have hcall := HP.out wr (l.getD kk 0) (getD_mem 0 (by rw [HL.out]; exact hlt)) BW.out
      have hrd : rd l (kk : Int) = l.getD kk 0 := by simp [rd]
      rw [hrd] at hcell
      clear hrd
      generalize hy : l.getD kk 0 = y at hcell hcall
      have B := Aside0.mk hy
      clear hy
      cases hq : p y with
      | true =>
        rw [hq] at hcall
        go_wp2_with (go_at_fn g; refine hcall.mono ?_; rintro e w' ⟨rfl, hb'⟩)
        go_ret
        refine ⟨⟨kk, rfl, ⟨?_⟩⟩, hb'⟩
        rw [any_hit 0 (by rw [HL.out]; exact hlt) (by rw [B.out]; exact hq)]
        exact decide_eq_true (by omega)
      | false =>
        rw [hq] at hcall
        go_wp2_with (go_at_fn g; refine hcall.mono ?_; rintro e w' ⟨rfl, hb'⟩)
        go_roundg (n - (kk + 1))
        case measure => omega
        case rel =>
          refine ⟨kk + 1, by omega, by omega, by go_num, ⟨hb'⟩, ⟨fun j hj => ?_⟩⟩
          by_cases e : j = kk
          · subst e
            rw [B.out]; exact hq
          · exact AF.out j (by omega)
    · have hltz : ¬ (kk : Int) < (n : Int) := by omega
      have : kk = n := by omega
      subst this
      go_wp2
      go_ret
      refine ⟨⟨-1, rfl, ⟨?_⟩⟩, BW.out⟩
      rw [any_miss 0 (fun j hj => AF.out j (by rw [← HL.out]; exact hj))]
      exact decide_eq_false (by omega)

set_option maxHeartbeats 2000000 in
theorem ContainsFunc_int (g : Nat) (lb : Array Value) (p : Int → Bool) (eg : ∀ args w, (callFunc g args).run Try.prog w = .ok (.enter g args) w)
    (A : Option Addr) (n c : Nat) (l : List Int) (w : World) (hr : Kd.C (Kd.int .i64) w A n l) (hp : PredB g lb (fun x => .int .i64 x) p l w) :
    Calls Try.prog 59 #[.slice A n c, .func (.func g) #[] lb] w fun e w' => e = .returned (.bool (l.any p)) ∧ Below w.heap.size w w' := by
  have H := Aside0.mk (IndexFunc_int g lb p eg A n c l w hr hp)
  clear hr hp eg
  go_enter Try.func59, Try.ntmps59
  go_wp2_with (go_at_call 73; refine H.out.mono ?_; rintro e w' ⟨⟨i, rfl, hi⟩, hb'⟩)
  go_ret
  refine ⟨?_, hb'⟩
  rw [← hi.out]; rfl

set_option maxHeartbeats 2000000 in
theorem IndexFunc_pair (g : Nat) (lb : Array Value) (p : S59 → Bool) (eg : ∀ args w, (callFunc g args).run Try.prog w = .ok (.enter g args) w)
    (A : Option Addr) (n c : Nat) (l : List S59) (w : World) (hr : Kd.C k59 w A n l) (hp : PredB g lb (fun x : S59 => .agg #[.int .i64 x.f0, .int .i64 x.f1]) p l w) :
    Calls Try.prog 76 #[.slice A n c, .func (.func g) #[] lb] w fun e w' => (∃ i : Int, e = .returned (.int .i64 i) ∧ Aside0 (decide (0 ≤ i) = l.any p)) ∧ Below w.heap.size w w' := by
  have hlen : l.length = n := hr.1
  have hmax : n ≤ 9223372036854775807 := hr.2.1
  have HR := Aside0.mk hr
  have HP := Aside0.mk hp
  have HL := Aside0.mk hlen
  clear hr hp hlen
  go_enter Try.func76, Try.ntmps76
  go_wp2
  go_loopg [5, 8] n (fun gg _ s8 wr => ∃ kk : Nat, kk ≤ n ∧ n - kk ≤ gg ∧ s8 = .int .i64 kk ∧ Aside0 (Below w.heap.size w wr) ∧ Aside0 (∀ j, j < kk → p (l.getD j z59) = false))
  case atStart => exact ⟨0, Nat.zero_le _, by omega, rfl, ⟨Below.refl _ w⟩, ⟨fun j hj => absurd hj (Nat.not_lt_zero _)⟩⟩
  case round =>
    obtain ⟨kk, hkk, hg, rfl, BW, AF⟩ := hrel
    by_cases hlt : kk < n
    · have hltz : (kk : Int) < (n : Int) := by omega
      obtain ⟨ad, rfl, hcell0, hcell1⟩ := at_T59 (Kd.C_below HR.out BW.out) (kk : Int) (by omega) (by omega)
      rw [Int.toNat_natCast] at hcell0 hcell1
      have hcall := HP.out wr (l.getD kk z59) (getD_mem z59 (by rw [HL.out]; exact hlt)) BW.out
      have hrd : rd_T59 l (kk : Int) = l.getD kk z59 := by simp [rd_T59]
      rw [hrd] at hcell0 hcell1
      clear hrd
      generalize hy : l.getD kk z59 = y at hcell0 hcell1 hcall
      have B := Aside0.mk hy
      clear hy
      cases hq : p y with
      | true =>
        rw [hq] at hcall
        go_wp2_with (go_at_fn g; refine hcall.mono ?_; rintro e w' ⟨rfl, hb'⟩)
        go_ret
        refine ⟨⟨kk, rfl, ⟨?_⟩⟩, hb'⟩
        rw [any_hit z59 (by rw [HL.out]; exact hlt) (by rw [B.out]; exact hq)]
        exact decide_eq_true (by omega)
      | false =>
        rw [hq] at hcall
        go_wp2_with (go_at_fn g; refine hcall.mono ?_; rintro e w' ⟨rfl, hb'⟩)
        go_roundg (n - (kk + 1))
        case measure => omega
        case rel =>
          refine ⟨kk + 1, by omega, by omega, by go_num, ⟨hb'⟩, ⟨fun j hj => ?_⟩⟩
          by_cases e : j = kk
          · subst e
            rw [B.out]; exact hq
          · exact AF.out j (by omega)
    · have hltz : ¬ (kk : Int) < (n : Int) := by omega
      have : kk = n := by omega
      subst this
      go_wp2
      go_ret
      refine ⟨⟨-1, rfl, ⟨?_⟩⟩, BW.out⟩
      rw [any_miss z59 (fun j hj => AF.out j (by rw [← HL.out]; exact hj))]
      exact decide_eq_false (by omega)

set_option maxHeartbeats 2000000 in
theorem ContainsFunc_pair (g : Nat) (lb : Array Value) (p : S59 → Bool) (eg : ∀ args w, (callFunc g args).run Try.prog w = .ok (.enter g args) w)
    (A : Option Addr) (n c : Nat) (l : List S59) (w : World) (hr : Kd.C k59 w A n l) (hp : PredB g lb (fun x : S59 => .agg #[.int .i64 x.f0, .int .i64 x.f1]) p l w) :
    Calls Try.prog 69 #[.slice A n c, .func (.func g) #[] lb] w fun e w' => e = .returned (.bool (l.any p)) ∧ Below w.heap.size w w' := by
  have H := Aside0.mk (IndexFunc_pair g lb p eg A n c l w hr hp)
  clear hr hp eg
  go_enter Try.func69, Try.ntmps69
  go_wp2_with (go_at_call 76; refine H.out.mono ?_; rintro e w' ⟨⟨i, rfl, hi⟩, hb'⟩)
  go_ret
  refine ⟨?_, hb'⟩
  rw [← hi.out]; rfl
end Go.Proofs.Ytbjpjjokamaliaa.A

/- The field, the position and who is next, as the program reads them. -/
namespace Go.Proofs.Ytbjpjjokamaliaa.A
open Go.RowKit Go.Proofs.YtbjpjjokamaliaaW.PrintWords Go.Proofs.YtbjpjjokamaliaaW.PrintMore

theorem wrap64_id {n : Int} (h0 : -9223372036854775808 ≤ n) (h1 : n ≤ 9223372036854775807) : wrap64 n = n := by unfold wrap64; omega
theorem two_pow_le {m : Nat} (h : m ≤ 61) : (2 : Int) ^ m ≤ 2305843009213693952 := by
  have := Nat.pow_le_pow_right (show 1 ≤ 2 by decide) h
  have e : ((2 ^ m : Nat) : Int) = (2 : Int) ^ m := by simp
  have e2 : (2 : Nat) ^ 61 = 2305843009213693952 := by decide
  omega
theorem two_pow_pos' (m : Nat) : (1 : Int) ≤ 2 ^ m := by
  have := Nat.two_pow_pos m
  have e : ((2 ^ m : Nat) : Int) = (2 : Int) ^ m := by simp
  omega
theorem wrap64_two {m : Nat} (h : m ≤ 61) : wrap64 (2 ^ m) = 2 ^ m := wrap64_id (by have := two_pow_pos' m; omega) (by have := two_pow_le h; omega)

theorem enters65 : ∀ args w, (callFunc 65 args).run Try.prog w = .ok (.enter 65 args) w := enters_of Try.func65 (by kernel_rfl) rfl
theorem enters75 : ∀ args w, (callFunc 75 args).run Try.prog w = .ok (.enter 75 args) w := enters_of Try.func75 (by kernel_rfl) rfl

set_option maxHeartbeats 400000 in
theorem read1_pred (m : Nat) (h1 : 1 ≤ m) (h9 : m ≤ 9) (g : Nat) (l : List Int) (w : World) (hc : w.cell? ⟨g, 0, none⟩ = some (.int .i64 m)) :
    PredB 65 #[.pointer (some ⟨g, 0, none⟩)] (fun x => .int .i64 x) (fun x => decide (x < 1) || decide (2 ^ m ≤ x)) l w := by
  intro W x _ hb
  have hcW := pw_cell_below hb hc
  have HB := Aside0.mk hb
  clear hb hc
  show Calls Try.prog 65 #[.int .i64 x, .pointer (some ⟨g, 0, none⟩)] W _
  obtain ⟨b, hbv⟩ : ∃ b, (decide (x < 1) || decide (2 ^ m ≤ x)) = b := ⟨_, rfl⟩
  have BV := Aside0.mk hbv
  show Calls Try.prog 65 #[.int .i64 x, .pointer (some ⟨g, 0, none⟩)] W fun e w' => e = .returned (.bool (decide (x < 1) || decide (2 ^ m ≤ x))) ∧ Below w.heap.size w w'
  rw [hbv]
  clear hbv
  by_cases hx : x < 1
  · go_enter Try.func65, Try.ntmps65
    go_wp2
    go_ret
    exact ⟨by rw [← BV.out]; simp [hx], HB.out⟩
  · go_enter Try.func65, Try.ntmps65
    go_wp2
    go_ret
    exact ⟨by rw [← BV.out]; simp [show ¬ x < 1 by omega, wrap64_two (show m ≤ 61 by omega)], HB.out⟩

/-- The errors of a field. -/
def okF (m : Int) (l : List Int) : Int := if m < 1 ∨ 9 < m then 2 else if 12 < l.length then 3 else if (l.any fun x => decide (x < 1) || decide (2 ^ m.toNat ≤ x)) = true then 2 else 0

theorem below_set0 {w W : World} (h : Below w.heap.size w W) (o : Obj) (j : Nat) (v : Value) : Below w.heap.size w ((W.alloc o).setCell ⟨W.heap.size, j, none⟩ v) := (below_alloc h o).setCell h.size v

theorem bcell {W w1 : World} (hb : Below W.heap.size W w1) : (∀ b o, b < W.heap.size → w1.cell? ⟨b, o, none⟩ = W.cell? ⟨b, o, none⟩) ∧ (∀ b o, b < W.heap.size → w1.frozen? ⟨b, o, none⟩ = W.frozen? ⟨b, o, none⟩) :=
  ⟨fun b o h => hb.cell (p := ⟨b, o, none⟩) h, fun b o h => hb.frozen (p := ⟨b, o, none⟩) h⟩

set_option maxHeartbeats 800000 in
theorem read_bad (m : Int) (A : Option Addr) (c : Nat) (l : List Int) (E : Int) (w : World) (hr : Kd.C (Kd.int .i64) w A l.length l) (he : okF m l = E) (h0 : E ≠ 0) :
    Calls Try.prog 41 #[.int .i64 m, .slice A l.length c] w fun e w' => e = .returned (.tuple #[.agg #[.int .i64 0, .slice none 0 0], .int .i64 E]) ∧ Below w.heap.size w w' := by
  unfold okF at he
  have HB := Aside0.mk (Below.refl w.heap.size w)
  by_cases h1 : m < 1
  · rw [if_pos (.inl h1)] at he
    subst he
    go_enter Try.func41, Try.ntmps41
    go_wp2
    exact bodyPost_ret (v := .tuple #[.agg #[.int .i64 0, .slice none 0 0], .int .i64 2]) (by simp [results, Try.results41, go_sem]) rfl ⟨rfl, below_alloc (below_alloc HB.out _) _⟩
  by_cases h9 : 9 < m
  · rw [if_pos (.inr h9)] at he
    subst he
    go_enter Try.func41, Try.ntmps41
    go_wp2
    exact bodyPost_ret (v := .tuple #[.agg #[.int .i64 0, .slice none 0 0], .int .i64 2]) (by simp [results, Try.results41, go_sem]) rfl ⟨rfl, below_alloc (below_alloc HB.out _) _⟩
  rw [if_neg (by omega)] at he
  by_cases hl : 12 < l.length
  · rw [if_pos hl] at he
    subst he
    go_enter Try.func41, Try.ntmps41
    go_wp2
    exact bodyPost_ret (v := .tuple #[.agg #[.int .i64 0, .slice none 0 0], .int .i64 3]) (by simp [results, Try.results41, go_sem]) rfl ⟨rfl, below_alloc (below_alloc HB.out _) _⟩
  rw [if_neg hl] at he
  obtain ⟨b, hb⟩ : ∃ b, (l.any fun x => decide (x < 1) || decide (2 ^ m.toNat ≤ x)) = b := ⟨_, rfl⟩
  rw [hb] at he
  cases b with
  | false => simp at he; exact absurd he.symm h0
  | true =>
    rw [if_pos rfl] at he
    subst he
    obtain ⟨k, rfl⟩ := Int.eq_ofNat_of_zero_le (show 0 ≤ m by omega)
    rw [Int.toNat_natCast] at hb
    have HR := Aside0.mk hr
    have HV := Aside0.mk hb
    clear hr hb
    go_enter Try.func41, Try.ntmps41
    go_wp2_with (go_at_call 59; refine (ContainsFunc_int 65 #[.pointer (some ⟨w.heap.size, 0, none⟩)] (fun x => decide (x < 1) || decide (2 ^ k ≤ x)) enters65 A l.length c l _ ?s1 ?s2).mono ?_; (case s1 => repeat (first | exact HR.out | refine Kd.C_alloc ?_ _)); (case s2 => refine read1_pred k (by omega) (by omega) _ _ _ ?_; simp); rw [HV.out]; rintro e w' ⟨rfl, hb'⟩; obtain ⟨hc, hf⟩ := bcell hb')
    have hz : w.heap.size + 1 < w'.heap.size := by have := hb'.size; simp at this; omega
    have hB : Below w.heap.size w w' := below_then (below_alloc (below_alloc HB.out _) _) (by simp; omega) hb'
    exact bodyPost_ret (v := .tuple #[.agg #[.int .i64 0, .slice none 0 0], .int .i64 2]) (by simp [results, Try.results41, go_sem, hc]) rfl ⟨rfl, (hB.setCell (by simp) _).setCell (by simp) _⟩

set_option maxHeartbeats 800000 in
theorem read_ok (m : Int) (A : Option Addr) (c : Nat) (l : List Int) (w : World) (hr : Kd.C (Kd.int .i64) w A l.length l) (he : okF m l = 0) :
    Calls Try.prog 41 #[.int .i64 m, .slice A l.length c] w fun e w' => e = .returned (.tuple #[.agg #[.int .i64 m, .slice A l.length c], .int .i64 0]) ∧ Below w.heap.size w w' := by
  unfold okF at he
  have HB := Aside0.mk (Below.refl w.heap.size w)
  by_cases h19 : m < 1 ∨ 9 < m
  · rw [if_pos h19] at he; cases he
  rw [if_neg h19] at he
  by_cases hl : 12 < l.length
  · rw [if_pos hl] at he; cases he
  rw [if_neg hl] at he
  obtain ⟨b, hb⟩ : ∃ b, (l.any fun x => decide (x < 1) || decide (2 ^ m.toNat ≤ x)) = b := ⟨_, rfl⟩
  rw [hb] at he
  cases b with
  | true => simp at he
  | false =>
    obtain ⟨k, rfl⟩ := Int.eq_ofNat_of_zero_le (show 0 ≤ m by omega)
    rw [Int.toNat_natCast] at hb
    have HR := Aside0.mk hr
    have HV := Aside0.mk hb
    have h1 : ¬ (k : Int) < 1 := by omega
    have h9 : ¬ (9 : Int) < k := by omega
    clear hr hb he h19
    go_enter Try.func41, Try.ntmps41
    go_wp2_with (go_at_call 59; refine (ContainsFunc_int 65 #[.pointer (some ⟨w.heap.size, 0, none⟩)] (fun x => decide (x < 1) || decide (2 ^ k ≤ x)) enters65 A l.length c l _ ?s1 ?s2).mono ?_; (case s1 => repeat (first | exact HR.out | refine Kd.C_alloc ?_ _)); (case s2 => refine read1_pred k (by omega) (by omega) _ _ _ ?_; simp); rw [HV.out]; rintro e w' ⟨rfl, hb'⟩; obtain ⟨hc, hf⟩ := bcell hb')
    have hz : w.heap.size + 1 < w'.heap.size := by have := hb'.size; simp at this; omega
    have hB : Below w.heap.size w w' := below_then (below_alloc (below_alloc HB.out _) _) (by simp; omega) hb'
    exact bodyPost_ret (v := .tuple #[.agg #[.int .i64 k, .slice A l.length c], .int .i64 0]) (by simp [results, Try.results41, go_sem, hc]) rfl ⟨rfl, (hB.setCell (by simp) _).setCell (by simp) _⟩
end Go.Proofs.Ytbjpjjokamaliaa.A

/- A position, as the program reads it. -/
namespace Go.Proofs.Ytbjpjjokamaliaa.A
open Go.RowKit Go.Proofs.YtbjpjjokamaliaaW.PrintWords Go.Proofs.YtbjpjjokamaliaaW.PrintMore

/-- The spots among the first k that somebody has. -/
def msk (c : Int) (s : ByteArray) : Nat → Nat
  | 0 => 0
  | k + 1 => if bt s k = c then msk c s k ||| 2 ^ k else msk c s k
theorem msk_lt (c : Int) (s : ByteArray) : ∀ k, msk c s k < 2 ^ k
  | 0 => by simp [msk]
  | k + 1 => by
    have h := msk_lt c s k
    have h2 : msk c s k < 2 ^ (k + 1) := Nat.lt_of_lt_of_le h (Nat.pow_le_pow_right (by decide) (by omega))
    rw [msk]
    split
    · exact or_lt h2 (Nat.pow_lt_pow_right (by decide) (by omega))
    · exact h2
theorem msk_tb (c : Int) (s : ByteArray) (i : Nat) : ∀ k, (msk c s k).testBit i = (decide (i < k) && decide (bt s i = c))
  | 0 => by simp [msk]
  | k + 1 => by
    rw [msk]
    split
    · rename_i h
      rw [Nat.testBit_or, tb_two, msk_tb c s i k]
      by_cases e : i = k
      · subst e; simp [h]
      · by_cases h2 : i < k
        · simp [h2, e, show i < k + 1 by omega]
        · simp [h2, e, show ¬ i < k + 1 by omega]
    · rename_i h
      rw [msk_tb c s i k]
      by_cases e : i = k
      · subst e; simp [h]
      · by_cases h2 : i < k
        · simp [h2, show i < k + 1 by omega]
        · simp [h2, show ¬ i < k + 1 by omega]

/-- A letter of a position. -/
def okC (c : Int) : Bool := c == 119 || c == 100 || c == 46
/-- The errors of a field and a position. -/
def okP (m : Int) (l : List Int) (s : ByteArray) : Int :=
  if okF m l ≠ 0 then okF m l else if (s.size : Int) ≠ m then 5 else if (List.range s.size).all (fun i => okC (bt s i)) = true then 0 else 5

theorem okF_m {m : Int} {l : List Int} (h : okF m l = 0) : 1 ≤ m ∧ m ≤ 9 := by
  unfold okF at h
  by_cases h1 : m < 1 ∨ 9 < m
  · rw [if_pos h1] at h; cases h
  · omega
theorem okF_L {m : Int} {l : List Int} (h : okF m l = 0) : okL m.toNat l := by
  unfold okF at h
  split at h
  · cases h
  split at h
  · cases h
  split at h
  · cases h
  · rename_i h3
    intro x hx
    have : (l.any fun x => decide (x < 1) || decide (2 ^ m.toNat ≤ x)) = false := by simpa using h3
    rw [List.any_eq_false] at this
    have := this x hx
    simp at this
    omega

def zF : Value := .agg #[.int .i64 0, .slice none 0 0]
def zP : Value := .agg #[.int .i64 0, .int .i64 0]
/-- The position that is read. -/
def posV (E : Int) (s : ByteArray) : Value := if E = 0 then .agg #[.int .i64 (msk 119 s s.size), .int .i64 (msk 100 s s.size)] else zP

theorem bsize2 {w w' : World} {o1 o2 : Obj} (hb' : Below ((w.alloc o1).alloc o2).heap.size ((w.alloc o1).alloc o2) w') : w.heap.size < w'.heap.size ∧ w.heap.size + 1 < w'.heap.size := by
  have := hb'.size; simp at this; omega
theorem cells2 {w : World} {g : Nat} {a b : Value} {t : TypeId} (h : w.heap[g]? = some (.cells #[a, b] t (0, 0))) :
    w.cell? ⟨g, 0, none⟩ = some a ∧ w.cell? ⟨g, 1, none⟩ = some b ∧ w.frozen? ⟨g, 0, none⟩ = false ∧ w.frozen? ⟨g, 1, none⟩ = false :=
  ⟨blk_cell h 0, blk_cell h 1, blk_frozen h 0, blk_frozen h 1⟩
theorem blks2 {w w' : World} {o1 o2 : Obj} (hb' : Below ((w.alloc o1).alloc o2).heap.size ((w.alloc o1).alloc o2) w') : w'.heap[w.heap.size]? = some o1 ∧ w'.heap[w.heap.size + 1]? = some o2 := by
  constructor
  · rw [hb'.block _ (by simp; omega), Below.heap_alloc _ _ _ (by simp)]
    exact heap_alloc_new w o1
  · rw [hb'.block _ (by simp)]
    have := heap_alloc_new (w.alloc o1) o2
    simpa using this
theorem btrans2 {w w' : World} {o1 o2 : Obj} (hb' : Below ((w.alloc o1).alloc o2).heap.size ((w.alloc o1).alloc o2) w') : Below w.heap.size w w' :=
  below_then (below_alloc (below_alloc (Below.refl _ _) _) _) (by simp; omega) hb'

set_option maxHeartbeats 1600000 in
theorem placed_badF (m : Int) (A : Option Addr) (c : Nat) (l : List Int) (s : ByteArray) (w : World) (hr : Kd.C (Kd.int .i64) w A l.length l) (he : okF m l ≠ 0) :
    Calls Try.prog 43 #[.int .i64 m, .slice A l.length c, .string s] w fun e w' => e = .returned (.tuple #[zF, zP, .int .i64 (okF m l)]) ∧ Below w.heap.size w w' := by
  have HR := Aside0.mk hr
  have HE := Aside0.mk he
  obtain ⟨E, hE⟩ : ∃ E, okF m l = E := ⟨_, rfl⟩
  rw [hE] at he ⊢
  have HV := Aside0.mk hE
  clear hr hE
  go_enter Try.func43, Try.ntmps43
  go_wp2_with (go_at_call 41; refine (read_bad m A c l E _ ?s1 HV.out he).mono ?_; (case s1 => repeat (first | exact HR.out | refine Kd.C_alloc ?_ _)); rintro e w' ⟨rfl, hb'⟩; obtain ⟨hk0, hk1⟩ := blks2 hb'; obtain ⟨hc0, hc1, hf0, hf1⟩ := cells2 hk0; obtain ⟨hc2, hc3, hf2, hf3⟩ := cells2 hk1; obtain ⟨hz0, hz1⟩ := bsize2 hb'; have HB := Aside0.mk (btrans2 hb'))
  refine bodyPost_ret (v := .tuple #[zF, zP, .int .i64 E]) (by simp [results, Try.results43, go_sem, hc0, hc1, hc2, hc3, hz0, hz1, zF, zP]) rfl ⟨rfl, ?_⟩
  repeat (first | exact HB.out | apply below_alloc | refine Below.setCell ?_ (by simp) _)

set_option maxHeartbeats 1600000 in
theorem placed_badS (m : Int) (A : Option Addr) (c : Nat) (l : List Int) (s : ByteArray) (w : World) (hr : Kd.C (Kd.int .i64) w A l.length l) (he : okF m l = 0) (hs : (s.size : Int) ≠ m) :
    Calls Try.prog 43 #[.int .i64 m, .slice A l.length c, .string s] w fun e w' => e = .returned (.tuple #[.agg #[.int .i64 m, .slice A l.length c], zP, .int .i64 5]) ∧ Below w.heap.size w w' := by
  have HR := Aside0.mk hr
  have HE := Aside0.mk he
  have hg : ((s.size : Int) != m) = true := by rw [bne_iff_ne]; exact hs
  clear hr he
  go_enter Try.func43, Try.ntmps43
  go_wp2_with (go_at_call 41; refine (read_ok m A c l _ ?s1 HE.out).mono ?_; (case s1 => repeat (first | exact HR.out | refine Kd.C_alloc ?_ _)); rintro e w' ⟨rfl, hb'⟩; obtain ⟨hk0, hk1⟩ := blks2 hb'; obtain ⟨hc0, hc1, hf0, hf1⟩ := cells2 hk0; obtain ⟨hc2, hc3, hf2, hf3⟩ := cells2 hk1; obtain ⟨hz0, hz1⟩ := bsize2 hb'; have HB := Aside0.mk (btrans2 hb'))
  refine bodyPost_ret (v := .tuple #[.agg #[.int .i64 m, .slice A l.length c], zP, .int .i64 5]) (by simp [results, Try.results43, go_sem, hc0, hc1, hc2, hc3, hz0, hz1, zP]) rfl ⟨rfl, ?_⟩
  repeat (first | exact HB.out | apply below_alloc | refine Below.setCell ?_ (by simp) _)

structure PlR (w : World) (B B1 : Nat) (m : Int) (A : Option Addr) (n c : Nat) (s : ByteArray) (wr : World) (pos : Nat) : Prop where
  below : Below w.heap.size w wr
  b6 : wr.heap[B]? = some (.cells #[.int .i64 0, .slice none 0 0] 61 (0, 0))
  b7 : wr.heap[B + 1]? = some (.cells #[.int .i64 0, .int .i64 0] 63 (0, 0))
  b9 : wr.heap[B1]? = some (.cells #[.int .i64 m, .slice A n c] 61 (0, 0))
  b11 : wr.heap[B1 + 1]? = some (.cells #[.int .i64 (msk 119 s pos), .int .i64 (msk 100 s pos)] 63 (0, 0))
  it : wr.heap[B1 + 2]? = some (.stringIter s pos)
  sz : wr.heap.size = B1 + 3

theorem get_bt (s : ByteArray) (i : Nat) (h : i < s.size) : ((s.get! i).toNat : Int) = bt s i := by
  unfold bt
  rw [dif_pos (by simpa using h)]
  have e : s.get! i = s.data[i]! := rfl
  rw [e, getElem!_pos s.data i h]
  rfl

theorem decode_lo (s : ByteArray) (i : Nat) (h : i < s.size) (hb : bt s i < 128) : ((Utf8.decode s i).1 : Int) = bt s i ∧ (Utf8.decode s i).2 = 1 := by
  have e := get_bt s i h
  rw [Lib.decode_at]
  unfold Lib.decodeN
  rw [if_pos (by omega)]
  exact ⟨e, rfl⟩
theorem decode_hi (s : ByteArray) (i : Nat) (h : i < s.size) (hb : 128 ≤ bt s i) : (128 : Int) ≤ (Utf8.decode s i).1 := by
  have e := get_bt s i h
  rw [Lib.decode_at]
  unfold Lib.decodeN
  rw [if_neg (by omega)]
  repeat' split
  all_goals first | omega | (simp only []; omega)

theorem PlR.step {w : World} {B B1 : Nat} {m : Int} {A : Option Addr} {n c : Nat} {s : ByteArray} {wr : World} {pos : Nat} (h : PlR w B B1 m A n c s wr pos) (hB : w.heap.size = B) (hB1 : B + 2 ≤ B1) (p' : Nat) :
    let W1 := wr.iterAt (B1 + 2) s p'
    Below w.heap.size w W1 ∧ W1.heap[B]? = some (.cells #[.int .i64 0, .slice none 0 0] 61 (0, 0)) ∧ W1.heap[B + 1]? = some (.cells #[.int .i64 0, .int .i64 0] 63 (0, 0)) ∧
    W1.heap[B1]? = some (.cells #[.int .i64 m, .slice A n c] 61 (0, 0)) ∧ W1.heap[B1 + 1]? = some (.cells #[.int .i64 (msk 119 s pos), .int .i64 (msk 100 s pos)] 63 (0, 0)) ∧ W1.heap[B1 + 2]? = some (.stringIter s p') ∧ W1.heap.size = B1 + 3 := by
  refine ⟨Lib.below_iterAt h.below (by omega) _ _, ?_, ?_, ?_, ?_, Lib.iterAt_heap _ _ _ _ _ h.it, by rw [Lib.iterAt_size]; exact h.sz⟩
  · rw [Lib.iterAt_other _ _ _ _ _ (by omega)]; exact h.b6
  · rw [Lib.iterAt_other _ _ _ _ _ (by omega)]; exact h.b7
  · rw [Lib.iterAt_other _ _ _ _ _ (by omega)]; exact h.b9
  · rw [Lib.iterAt_other _ _ _ _ _ (by omega)]; exact h.b11

/-- What is held in the middle of a round. -/
structure PlM (w : World) (B B1 : Nat) (m : Int) (A : Option Addr) (n c : Nat) (s : ByteArray) (W1 : World) (pos p' : Nat) : Prop where
  below : Below w.heap.size w W1
  b6 : W1.heap[B]? = some (.cells #[.int .i64 0, .slice none 0 0] 61 (0, 0))
  b7 : W1.heap[B + 1]? = some (.cells #[.int .i64 0, .int .i64 0] 63 (0, 0))
  b9 : W1.heap[B1]? = some (.cells #[.int .i64 m, .slice A n c] 61 (0, 0))
  b11 : W1.heap[B1 + 1]? = some (.cells #[.int .i64 (msk 119 s pos), .int .i64 (msk 100 s pos)] 63 (0, 0))
  it : W1.heap[B1 + 2]? = some (.stringIter s p')
  sz : W1.heap.size = B1 + 3

theorem or_msk {a pos : Nat} (ha : a < 2 ^ pos) (h : pos ≤ 9) : bits .or .i64 (a : Int) (wrap64 (2 ^ min pos 64)) = ((a ||| 2 ^ pos : Nat) : Int) := by
  rw [Nat.min_eq_left (by omega), wrap64_two (by omega)]
  have e : ((2 : Int) ^ pos) = ((2 ^ pos : Nat) : Int) := by simp
  rw [e, or64 _ _ (lt62 ha (by omega)) (two_lt (by omega))]

theorem PlM.put0 {w : World} {B B1 : Nat} {m : Int} {A : Option Addr} {n c : Nat} {s : ByteArray} {W1 : World} {pos : Nat} (h : PlM w B B1 m A n c s W1 pos (pos + 1)) (hB : w.heap.size = B) (hB1 : B + 2 ≤ B1) (hp : pos ≤ 9) (hc : bt s pos = 119) :
    PlR w B B1 m A n c s (W1.setCell ⟨B1 + 1, 0, none⟩ (.int .i64 (bits .or .i64 (msk 119 s pos) (wrap64 (2 ^ min pos 64))))).drew (pos + 1) := by
  rw [or_msk (msk_lt 119 s pos) hp]
  have e1 : msk 119 s (pos + 1) = msk 119 s pos ||| 2 ^ pos := by rw [msk, if_pos hc]
  have e2 : msk 100 s (pos + 1) = msk 100 s pos := by rw [msk, if_neg (by omega)]
  refine ⟨(h.below.setCell (by show w.heap.size ≤ B1 + 1; omega) _).drew, ?_, ?_, ?_, ?_, ?_, ?_⟩
  · exact blk_far h.b6 (by show B ≠ B1 + 1; omega) _
  · exact blk_far h.b7 (by show B + 1 ≠ B1 + 1; omega) _
  · exact blk_far h.b9 (by show B1 ≠ B1 + 1; omega) _
  · rw [e1, e2]; exact blk_set h.b11 0 _
  · exact (Below.heap_setCell _ _ _ _ (by show B1 + 2 ≠ B1 + 1; omega)).trans h.it
  · show (W1.setCell _ _).heap.size = _
    simp [World.setCell, h.sz]
theorem PlM.put1 {w : World} {B B1 : Nat} {m : Int} {A : Option Addr} {n c : Nat} {s : ByteArray} {W1 : World} {pos : Nat} (h : PlM w B B1 m A n c s W1 pos (pos + 1)) (hB : w.heap.size = B) (hB1 : B + 2 ≤ B1) (hp : pos ≤ 9) (hc : bt s pos = 100) :
    PlR w B B1 m A n c s (W1.setCell ⟨B1 + 1, 1, none⟩ (.int .i64 (bits .or .i64 (msk 100 s pos) (wrap64 (2 ^ min pos 64))))).drew (pos + 1) := by
  rw [or_msk (msk_lt 100 s pos) hp]
  have e1 : msk 100 s (pos + 1) = msk 100 s pos ||| 2 ^ pos := by rw [msk, if_pos hc]
  have e2 : msk 119 s (pos + 1) = msk 119 s pos := by rw [msk, if_neg (by omega)]
  refine ⟨(h.below.setCell (by show w.heap.size ≤ B1 + 1; omega) _).drew, ?_, ?_, ?_, ?_, ?_, ?_⟩
  · exact blk_far h.b6 (by show B ≠ B1 + 1; omega) _
  · exact blk_far h.b7 (by show B + 1 ≠ B1 + 1; omega) _
  · exact blk_far h.b9 (by show B1 ≠ B1 + 1; omega) _
  · rw [e1, e2]; exact blk_set h.b11 1 _
  · exact (Below.heap_setCell _ _ _ _ (by show B1 + 2 ≠ B1 + 1; omega)).trans h.it
  · show (W1.setCell _ _).heap.size = _
    simp [World.setCell, h.sz]
theorem PlM.keep {w : World} {B B1 : Nat} {m : Int} {A : Option Addr} {n c : Nat} {s : ByteArray} {W1 : World} {pos : Nat} (h : PlM w B B1 m A n c s W1 pos (pos + 1)) (h1 : bt s pos ≠ 119) (h2 : bt s pos ≠ 100) :
    PlR w B B1 m A n c s W1 (pos + 1) := by
  have e1 : msk 119 s (pos + 1) = msk 119 s pos := by rw [msk, if_neg h1]
  have e2 : msk 100 s (pos + 1) = msk 100 s pos := by rw [msk, if_neg h2]
  exact ⟨h.below, h.b6, h.b7, h.b9, by rw [e1, e2]; exact h.b11, h.it, h.sz⟩

set_option maxHeartbeats 1600000 in
theorem placed_ok (m : Int) (A : Option Addr) (c : Nat) (l : List Int) (s : ByteArray) (w : World) (hr : Kd.C (Kd.int .i64) w A l.length l) (he : okF m l = 0) (hs : (s.size : Int) = m) (E : Int) (hE : (if (List.range s.size).all (fun i => okC (bt s i)) = true then (0 : Int) else 5) = E) :
    Calls Try.prog 43 #[.int .i64 m, .slice A l.length c, .string s] w fun e w' => e = .returned (.tuple #[.agg #[.int .i64 m, .slice A l.length c], posV E s, .int .i64 E]) ∧ Below w.heap.size w w' := by
  have HR := Aside0.mk hr
  have HE := Aside0.mk he
  have HV := Aside0.mk hE
  have HM := Aside0.mk (okF_m he)
  subst hs
  have hg : ((s.size : Int) != (s.size : Int)) = false := by simp
  clear hr he hE
  go_enter Try.func43, Try.ntmps43
  go_wp2_with (go_at_call 41; refine (read_ok s.size A c l _ ?s1 HE.out).mono ?_; (case s1 => repeat (first | exact HR.out | refine Kd.C_alloc ?_ _)); rintro e w' ⟨rfl, hb'⟩; obtain ⟨hk0, hk1⟩ := blks2 hb'; obtain ⟨hc0, hc1, hf0, hf1⟩ := cells2 hk0; obtain ⟨hc2, hc3, hf2, hf3⟩ := cells2 hk1; obtain ⟨hz0, hz1⟩ := bsize2 hb'; have HB := Aside0.mk (btrans2 hb'))
  have HZ := Aside0.mk hz1
  have hP : PlR w w.heap.size w'.heap.size s.size A l.length c s (((w'.alloc (.cells #[.int .i64 s.size, .slice A l.length c] 61)).alloc (.cells #[.int .i64 0, .int .i64 0] 63)).alloc (.stringIter s 0)) 0 := by
    refine ⟨below_alloc (below_alloc (below_alloc HB.out _) _) _, ?_, ?_, ?_, ?_, ?_, by simp⟩
    · rw [Below.heap_alloc _ _ _ (by simp; omega), Below.heap_alloc _ _ _ (by simp; omega), Below.heap_alloc _ _ _ (by omega)]; exact hk0
    · rw [Below.heap_alloc _ _ _ (by simp; omega), Below.heap_alloc _ _ _ (by simp; omega), Below.heap_alloc _ _ _ (by omega)]; exact hk1
    · rw [Below.heap_alloc _ _ _ (by simp; omega), Below.heap_alloc _ _ _ (by simp)]; exact heap_alloc_new w' _
    · rw [Below.heap_alloc _ _ _ (by simp)]; have := heap_alloc_new (w'.alloc (.cells #[.int .i64 s.size, .slice A l.length c] 61)) (.cells #[.int .i64 0, .int .i64 0] 63); simpa [msk] using this
    · have := heap_alloc_new ((w'.alloc (.cells #[.int .i64 s.size, .slice A l.length c] 61)).alloc (.cells #[.int .i64 0, .int .i64 0] 63)) (.stringIter s 0); simpa using this
  have HP := Aside0.mk hP
  clear hP hk0 hk1 hc0 hc1 hf0 hf1 hc2 hc3 hf2 hf3 hb'
  go_loopg [12, 13] s.size (fun gg _ _ wr => ∃ pos : Nat, pos ≤ s.size ∧ s.size - pos ≤ gg ∧ Aside0 (PlR w w.heap.size w'.heap.size s.size A l.length c s wr pos) ∧ Aside0 (∀ i, i < pos → okC (bt s i) = true))
  case atStart => exact ⟨0, Nat.zero_le _, by omega, HP, ⟨fun i hi => absurd hi (Nat.not_lt_zero _)⟩⟩
  case round =>
    obtain ⟨pos, hpos, hgg, HP1, HO⟩ := hrel
    clear HP HB
    generalize w'.heap.size = B1 at *
    have HS := HP1.out.step rfl (by have := HZ.out; omega)
    clear hz0 hz1
    by_cases hp : pos < s.size
    · have hnx : ∀ ty, (Instr.next (.pointer (some ⟨B1 + 2, 0, none⟩)) true ty).run Try.prog wr = _ := fun ty => Lib.run_next_any_at wr (B1 + 2) s pos ty HP1.out.it hp
      have HS1 := HS (pos + (Utf8.decode s pos).2)
      clear HS
      obtain ⟨W1, hW1⟩ : ∃ W1, W1 = wr.iterAt (B1 + 2) s (pos + (Utf8.decode s pos).2) := ⟨_, rfl⟩
      rw [← hW1] at hnx HS1
      obtain ⟨hbw, hk6, hk7, hk9, hk11, hit, hsz⟩ := HS1
      obtain ⟨c60, c61, f60, f61⟩ := cells2 hk6
      obtain ⟨c70, c71, f70, f71⟩ := cells2 hk7
      obtain ⟨c90, c91, f90, f91⟩ := cells2 hk9
      obtain ⟨c110, c111, f110, f111⟩ := cells2 hk11
      have HK : Aside0 (PlM w w.heap.size B1 s.size A l.length c s W1 pos (pos + (Utf8.decode s pos).2)) := ⟨⟨hbw, hk6, hk7, hk9, hk11, hit, hsz⟩⟩
      clear hbw hk6 hk7 hk9 hk11 hit hsz hW1
      by_cases h119 : bt s pos = 119
      · have hd := decode_lo s pos hp (by omega)
        rw [h119] at hd
        rw [hd.1] at hnx
        rw [hd.2] at HK
        have HC := Aside0.mk h119
        clear hd h119
        go_wp2
        go_region
        go_wp2
        go_roundg (s.size - (pos + 1))
        case measure => omega
        case rel =>
          refine ⟨pos + 1, by omega, by omega, ⟨HK.out.put0 rfl (by have := HZ.out; omega) (by have := HM.out; omega) HC.out⟩, ⟨fun i hi => ?_⟩⟩
          by_cases e : i = pos
          · subst e; rw [HC.out]; rfl
          · exact HO.out i (by omega)
      by_cases h100 : bt s pos = 100
      · have hd := decode_lo s pos hp (by omega)
        rw [h100] at hd
        rw [hd.1] at hnx
        rw [hd.2] at HK
        have HC := Aside0.mk h100
        clear hd h119 h100
        go_wp2
        go_region
        go_wp2
        go_roundg (s.size - (pos + 1))
        case measure => omega
        case rel =>
          refine ⟨pos + 1, by omega, by omega, ⟨HK.out.put1 rfl (by have := HZ.out; omega) (by have := HM.out; omega) HC.out⟩, ⟨fun i hi => ?_⟩⟩
          by_cases e : i = pos
          · subst e; rw [HC.out]; rfl
          · exact HO.out i (by omega)
      by_cases h46 : bt s pos = 46
      · have hd := decode_lo s pos hp (by omega)
        rw [h46] at hd
        rw [hd.1] at hnx
        rw [hd.2] at HK
        have HC := Aside0.mk h46
        clear hd h119 h100 h46
        go_wp2
        go_roundg (s.size - (pos + 1))
        case measure => omega
        case rel =>
          refine ⟨pos + 1, by omega, by omega, ⟨HK.out.keep (by rw [HC.out]; decide) (by rw [HC.out]; decide)⟩, ⟨fun i hi => ?_⟩⟩
          by_cases e : i = pos
          · subst e; rw [HC.out]; rfl
          · exact HO.out i (by omega)
      · obtain ⟨R, hR⟩ : ∃ R : Int, ((Utf8.decode s pos).1 : Int) = R := ⟨_, rfl⟩
        rw [hR] at hnx
        have hq : R ≠ 119 ∧ R ≠ 100 ∧ R ≠ 46 := by
          by_cases h : bt s pos < 128
          · have := (decode_lo s pos hp h).1; omega
          · have := decode_hi s pos hp (by omega); omega
        obtain ⟨q1, q2, q3⟩ := hq
        have g1 : (R == 119) = false := beq_eq_false_iff_ne.2 q1
        have g2 : (R == 100) = false := beq_eq_false_iff_ne.2 q2
        have g3 : (R == 46) = false := beq_eq_false_iff_ne.2 q3
        have hall : ((List.range s.size).all fun i => okC (bt s i)) = false := by
          rw [List.all_eq_false]
          exact ⟨pos, List.mem_range.2 hp, by simp [okC, h119, h100, h46]⟩
        have HE5 : Aside0 (E = 5) := ⟨by rw [← HV.out, hall]; rfl⟩
        clear hall q1 q2 q3 hR h119 h100 h46
        have hlt : w.heap.size + 1 < B1 := HZ.out
        go_wp2
        refine bodyPost_ret (v := .tuple #[.agg #[.int .i64 s.size, .slice A l.length c], zP, .int .i64 5]) (by simp [results, Try.results43, go_sem, c60, c61, c70, c71, zP]) rfl ⟨?_, ?_⟩
        · rw [HE5.out]; rfl
        · exact Below.setCell (Below.setCell (Below.setCell (Below.setCell HK.out.below (by simp) _) (by simp) _) (by simp) _) (by simp) _
    · have hnx : ∀ ty, (Instr.next (.pointer (some ⟨B1 + 2, 0, none⟩)) true ty).run Try.prog wr = .ok (.tuple #[.bool false]) wr := fun ty => Lib.run_next_end_at wr (B1 + 2) s pos ty HP1.out.it hp
      have hall : ((List.range s.size).all fun i => okC (bt s i)) = true := by
        rw [List.all_eq_true]
        intro i hi
        exact HO.out i (by have := List.mem_range.1 hi; omega)
      have HE0 : Aside0 (E = 0) := ⟨by rw [← HV.out, hall]; rfl⟩
      have hpe : pos = s.size := by omega
      subst hpe
      obtain ⟨c60, c61, f60, f61⟩ := cells2 HP1.out.b6
      obtain ⟨c70, c71, f70, f71⟩ := cells2 HP1.out.b7
      obtain ⟨c90, c91, f90, f91⟩ := cells2 HP1.out.b9
      obtain ⟨c110, c111, f110, f111⟩ := cells2 HP1.out.b11
      have hlt : w.heap.size + 1 < B1 := HZ.out
      have n1 : ¬ (w.heap.size = B1) := by omega
      have n2 : ¬ (w.heap.size = B1 + 1) := by omega
      have n3 : ¬ (w.heap.size + 1 = B1) := by omega
      have n4 : ¬ (w.heap.size = B1) := by omega
      have n5 : ¬ (B1 = w.heap.size) := by omega
      have n6 : ¬ (B1 + 1 = w.heap.size) := by omega
      have n7 : ¬ (B1 = w.heap.size + 1) := by omega
      clear hall hp
      go_wp2
      go_region
      go_wp2
      refine bodyPost_ret (v := .tuple #[.agg #[.int .i64 s.size, .slice A l.length c], .agg #[.int .i64 (msk 119 s s.size), .int .i64 (msk 100 s s.size)], .int .i64 0]) (by simp [results, Try.results43, go_sem, c60, c61, c70, c71]) rfl ⟨?_, ?_⟩
      · rw [HE0.out]; rfl
      · exact (Below.setCell (Below.setCell (Below.setCell (Below.setCell HP1.out.below (by simp) _) (by simp) _) (by simp) _) (by simp) _).drew

theorem placed_err (m : Int) (A : Option Addr) (c : Nat) (l : List Int) (s : ByteArray) (w : World) (hr : Kd.C (Kd.int .i64) w A l.length l) (he : okP m l s ≠ 0) :
    Calls Try.prog 43 #[.int .i64 m, .slice A l.length c, .string s] w fun e w' => (∃ x A2 n2 c2, e = .returned (.tuple #[.agg #[.int .i64 x, .slice A2 n2 c2], .agg #[.int .i64 0, .int .i64 0], .int .i64 (okP m l s)])) ∧ Below w.heap.size w w' := by
  unfold okP at he ⊢
  by_cases hF : okF m l ≠ 0
  · rw [if_pos hF] at he ⊢
    exact (placed_badF m A c l s w hr hF).mono fun e w' ⟨h1, h2⟩ => ⟨⟨0, none, 0, 0, h1⟩, h2⟩
  · rw [if_neg hF] at he ⊢
    have hF0 : okF m l = 0 := by simpa using hF
    by_cases hs : (s.size : Int) ≠ m
    · rw [if_pos hs] at he ⊢
      exact (placed_badS m A c l s w hr hF0 hs).mono fun e w' ⟨h1, h2⟩ => ⟨⟨m, A, l.length, c, h1⟩, h2⟩
    · rw [if_neg hs] at he ⊢
      refine (placed_ok m A c l s w hr hF0 (by simpa using hs) _ rfl).mono fun e w' ⟨h1, h2⟩ => ⟨⟨m, A, l.length, c, ?_⟩, h2⟩
      rw [h1]
      unfold posV
      rw [if_neg he]
      rfl

theorem placed_good (m : Int) (A : Option Addr) (c : Nat) (l : List Int) (s : ByteArray) (w : World) (hr : Kd.C (Kd.int .i64) w A l.length l) (he : okP m l s = 0) :
    Calls Try.prog 43 #[.int .i64 m, .slice A l.length c, .string s] w fun e w' => e = .returned (.tuple #[.agg #[.int .i64 m, .slice A l.length c], .agg #[.int .i64 (msk 119 s s.size), .int .i64 (msk 100 s s.size)], .int .i64 0]) ∧ Below w.heap.size w w' := by
  unfold okP at he
  by_cases hF : okF m l ≠ 0
  · rw [if_pos hF] at he; exact absurd he hF
  · rw [if_neg hF] at he
    have hF0 : okF m l = 0 := by simpa using hF
    by_cases hs : (s.size : Int) ≠ m
    · rw [if_pos hs] at he; cases he
    · rw [if_neg hs] at he
      exact placed_ok m A c l s w hr hF0 (by simpa using hs) 0 he
end Go.Proofs.Ytbjpjjokamaliaa.A

/- Who is asked for, as the program reads it. -/
namespace Go.Proofs.Ytbjpjjokamaliaa.A
open Go.RowKit Go.Proofs.YtbjpjjokamaliaaW.PrintWords Go.Proofs.YtbjpjjokamaliaaW.PrintMore

def sW : ByteArray := ⟨#[119]⟩
def sD : ByteArray := ⟨#[100]⟩

set_option maxHeartbeats 400000 in
theorem letter_w (w : World) : Calls Try.prog 39 #[.int .i64 1] w fun e w' => e = .returned (.string sW) ∧ w = w' := by
  go_enter Try.func39, Try.ntmps39
  go_wp2
  go_ret
  exact ⟨rfl, rfl⟩
set_option maxHeartbeats 400000 in
theorem letter_d (w : World) : Calls Try.prog 39 #[.int .i64 2] w fun e w' => e = .returned (.string sD) ∧ w = w' := by
  go_enter Try.func39, Try.ntmps39
  go_wp2
  go_ret
  exact ⟨rfl, rfl⟩

/-- The errors of a question. -/
def okA (m : Int) (l : List Int) (s nx : ByteArray) : Int := if okP m l s ≠ 0 then okP m l s else if (nx.toList == sW.toList) = true then 0 else if (nx.toList == sD.toList) = true then 0 else 5

theorem cells3 {w : World} {g : Nat} {a b d : Value} {t : TypeId} (h : w.heap[g]? = some (.cells #[a, b, d] t (0, 0))) :
    w.cell? ⟨g, 0, none⟩ = some a ∧ w.cell? ⟨g, 1, none⟩ = some b ∧ w.cell? ⟨g, 2, none⟩ = some d ∧ w.frozen? ⟨g, 0, none⟩ = false ∧ w.frozen? ⟨g, 1, none⟩ = false ∧ w.frozen? ⟨g, 2, none⟩ = false :=
  ⟨blk_cell h 0, blk_cell h 1, blk_cell h 2, blk_frozen h 0, blk_frozen h 1, blk_frozen h 2⟩

set_option maxHeartbeats 400000 in
theorem asked_err (m : Int) (A : Option Addr) (c : Nat) (l : List Int) (s nx : ByteArray) (w : World) (hr : Kd.C (Kd.int .i64) w A l.length l) (he : okA m l s nx ≠ 0) :
    Calls Try.prog 38 #[.int .i64 m, .slice A l.length c, .string s, .string nx] w fun e w' => (∃ x A2 n2 c2, e = .returned (.tuple #[.agg #[.int .i64 x, .slice A2 n2 c2], .agg #[.int .i64 0, .int .i64 0, .int .i64 0], .int .i64 (okA m l s nx)])) ∧ Below w.heap.size w w' := by
  unfold okA at he ⊢
  have HR := Aside0.mk hr
  by_cases hP : okP m l s ≠ 0
  · rw [if_pos hP]
    have HE := Aside0.mk hP
    obtain ⟨E, hE⟩ : ∃ E, okP m l s = E := ⟨_, rfl⟩
    rw [hE] at hP
    have HV := Aside0.mk hE
    have hg : (E != 0) = true := by rw [bne_iff_ne]; exact hP
    rw [hE]
    clear hr hE he
    go_enter Try.func38, Try.ntmps38
    go_wp2_with (go_at_call 43; refine (placed_err m A c l s _ ?s1 HE.out).mono ?_; (case s1 => repeat (first | exact HR.out | refine Kd.C_alloc ?_ _)); rw [HV.out]; rintro e w' ⟨⟨x, A2, n2, c2, rfl⟩, hb'⟩; obtain ⟨hk0, hk1⟩ := blks2 hb'; obtain ⟨hc0, hc1, hf0, hf1⟩ := cells2 hk0; obtain ⟨hc2, hc3, hc4, hf2, hf3, hf4⟩ := cells3 hk1; obtain ⟨hz0, hz1⟩ := bsize2 hb'; have HB := Aside0.mk (btrans2 hb'))
    refine bodyPost_ret (v := .tuple #[.agg #[.int .i64 x, .slice A2 n2 c2], .agg #[.int .i64 0, .int .i64 0, .int .i64 0], .int .i64 E]) (by simp [results, Try.results38, go_sem, hc0, hc1, hc2, hc3, hc4, hz0, hz1]) rfl ⟨⟨x, A2, n2, c2, rfl⟩, ?_⟩
    repeat (first | (with_reducible exact HB.out) | (with_reducible refine Below.drew ?_) | (with_reducible refine below_alloc ?_ _) | (with_reducible refine Below.setCell ?_ (by simp) _))
  · rw [if_neg hP] at he ⊢
    have hP0 : okP m l s = 0 := by simpa using hP
    have HE := Aside0.mk hP0
    by_cases q1 : (nx.toList == sW.toList) = true
    · rw [if_pos q1] at he; exact absurd rfl he
    rw [if_neg q1] at he ⊢
    by_cases q2 : (nx.toList == sD.toList) = true
    · rw [if_pos q2] at he; exact absurd rfl he
    rw [if_neg q2] at he ⊢
    have q1 : (nx.toList == sW.toList) = false := by simpa using q1
    have q2 : (nx.toList == sD.toList) = false := by simpa using q2
    clear hr he hP hP0
    go_enter Try.func38, Try.ntmps38
    go_wp2_with (first | (go_at_call 43; refine (placed_good m A c l s _ ?s1 HE.out).mono ?_; (case s1 => repeat (first | exact HR.out | refine Kd.C_alloc ?_ _)); rintro e w' ⟨rfl, hb'⟩; obtain ⟨hk0, hk1⟩ := blks2 hb'; obtain ⟨hc0, hc1, hf0, hf1⟩ := cells2 hk0; obtain ⟨hc2, hc3, hc4, hf2, hf3, hf4⟩ := cells3 hk1; obtain ⟨hz0, hz1⟩ := bsize2 hb'; have HB := Aside0.mk (btrans2 hb'); clear hk0 hk1 hb') | (go_at_call_of 39 (Value.int IntKind.i64 1); refine (letter_w _).mono ?_; rintro e w' ⟨rfl, rfl⟩) | (go_at_call_of 39 (Value.int IntKind.i64 2); refine (letter_d _).mono ?_; rintro e w' ⟨rfl, rfl⟩))
    refine bodyPost_ret (v := .tuple #[.agg #[.int .i64 m, .slice A l.length c], .agg #[.int .i64 0, .int .i64 0, .int .i64 0], .int .i64 5]) (by simp [results, Try.results38, go_sem, hc0, hc1, hc2, hc3, hc4, hz0, hz1]) rfl ⟨⟨m, A, l.length, c, rfl⟩, ?_⟩
    repeat (first | (with_reducible exact HB.out) | (with_reducible refine Below.drew ?_) | (with_reducible refine below_alloc ?_ _) | (with_reducible refine Below.setCell ?_ (by simp) _))

set_option maxHeartbeats 400000 in
theorem asked_w (m : Int) (A : Option Addr) (c : Nat) (l : List Int) (s nx : ByteArray) (w : World) (hr : Kd.C (Kd.int .i64) w A l.length l) (hP0 : okP m l s = 0) (q1 : (nx.toList == sW.toList) = true) :
    Calls Try.prog 38 #[.int .i64 m, .slice A l.length c, .string s, .string nx] w fun e w' => e = .returned (.tuple #[.agg #[.int .i64 m, .slice A l.length c], .agg #[.int .i64 (msk 119 s s.size), .int .i64 (msk 100 s s.size), .int .i64 1], .int .i64 0]) ∧ Below w.heap.size w w' := by
  have HR := Aside0.mk hr
  have HE := Aside0.mk hP0
  clear hr hP0
  go_enter Try.func38, Try.ntmps38
  go_wp2_with (first | (go_at_call 43; refine (placed_good m A c l s _ ?s1 HE.out).mono ?_; (case s1 => repeat (first | exact HR.out | refine Kd.C_alloc ?_ _)); rintro e w' ⟨rfl, hb'⟩; obtain ⟨hk0, hk1⟩ := blks2 hb'; obtain ⟨hc0, hc1, hf0, hf1⟩ := cells2 hk0; obtain ⟨hc2, hc3, hc4, hf2, hf3, hf4⟩ := cells3 hk1; obtain ⟨hz0, hz1⟩ := bsize2 hb'; have HB := Aside0.mk (btrans2 hb'); clear hk0 hk1 hb') | (go_at_call_of 39 (Value.int IntKind.i64 1); refine (letter_w _).mono ?_; rintro e w' ⟨rfl, rfl⟩) | (go_at_call_of 39 (Value.int IntKind.i64 2); refine (letter_d _).mono ?_; rintro e w' ⟨rfl, rfl⟩))
  have n1 : ¬ (w.heap.size = w'.heap.size) := by omega
  have n2 : ¬ (w.heap.size = w'.heap.size + 1) := by omega
  have n3 : ¬ (w.heap.size + 1 = w'.heap.size) := by omega
  have n4 : ¬ (w'.heap.size = w.heap.size) := by omega
  have n5 : ¬ (w'.heap.size + 1 = w.heap.size) := by omega
  have n6 : ¬ (w'.heap.size = w.heap.size + 1) := by omega
  go_region
  go_wp2
  refine bodyPost_ret (v := .tuple #[.agg #[.int .i64 m, .slice A l.length c], .agg #[.int .i64 (msk 119 s s.size), .int .i64 (msk 100 s s.size), .int .i64 1], .int .i64 0]) (by simp [results, Try.results38, go_sem, hc0, hc1, hc2, hc3, hc4, hz0, hz1]) rfl ⟨rfl, ?_⟩
  repeat (first | (with_reducible exact HB.out) | (with_reducible refine Below.drew ?_) | (with_reducible refine below_alloc ?_ _) | (with_reducible refine Below.setCell ?_ (by simp) _))

set_option maxHeartbeats 400000 in
theorem asked_d (m : Int) (A : Option Addr) (c : Nat) (l : List Int) (s nx : ByteArray) (w : World) (hr : Kd.C (Kd.int .i64) w A l.length l) (hP0 : okP m l s = 0) (q1 : (nx.toList == sW.toList) = false) (q2 : (nx.toList == sD.toList) = true) :
    Calls Try.prog 38 #[.int .i64 m, .slice A l.length c, .string s, .string nx] w fun e w' => e = .returned (.tuple #[.agg #[.int .i64 m, .slice A l.length c], .agg #[.int .i64 (msk 119 s s.size), .int .i64 (msk 100 s s.size), .int .i64 2], .int .i64 0]) ∧ Below w.heap.size w w' := by
  have HR := Aside0.mk hr
  have HE := Aside0.mk hP0
  clear hr hP0
  go_enter Try.func38, Try.ntmps38
  go_wp2_with (first | (go_at_call 43; refine (placed_good m A c l s _ ?s1 HE.out).mono ?_; (case s1 => repeat (first | exact HR.out | refine Kd.C_alloc ?_ _)); rintro e w' ⟨rfl, hb'⟩; obtain ⟨hk0, hk1⟩ := blks2 hb'; obtain ⟨hc0, hc1, hf0, hf1⟩ := cells2 hk0; obtain ⟨hc2, hc3, hc4, hf2, hf3, hf4⟩ := cells3 hk1; obtain ⟨hz0, hz1⟩ := bsize2 hb'; have HB := Aside0.mk (btrans2 hb'); clear hk0 hk1 hb') | (go_at_call_of 39 (Value.int IntKind.i64 1); refine (letter_w _).mono ?_; rintro e w' ⟨rfl, rfl⟩) | (go_at_call_of 39 (Value.int IntKind.i64 2); refine (letter_d _).mono ?_; rintro e w' ⟨rfl, rfl⟩))
  have n1 : ¬ (w.heap.size = w'.heap.size) := by omega
  have n2 : ¬ (w.heap.size = w'.heap.size + 1) := by omega
  have n3 : ¬ (w.heap.size + 1 = w'.heap.size) := by omega
  have n4 : ¬ (w'.heap.size = w.heap.size) := by omega
  have n5 : ¬ (w'.heap.size + 1 = w.heap.size) := by omega
  have n6 : ¬ (w'.heap.size = w.heap.size + 1) := by omega
  go_region
  go_wp2
  refine bodyPost_ret (v := .tuple #[.agg #[.int .i64 m, .slice A l.length c], .agg #[.int .i64 (msk 119 s s.size), .int .i64 (msk 100 s s.size), .int .i64 2], .int .i64 0]) (by simp [results, Try.results38, go_sem, hc0, hc1, hc2, hc3, hc4, hz0, hz1]) rfl ⟨rfl, ?_⟩
  repeat (first | (with_reducible exact HB.out) | (with_reducible refine Below.drew ?_) | (with_reducible refine below_alloc ?_ _) | (with_reducible refine Below.setCell ?_ (by simp) _))
end Go.Proofs.Ytbjpjjokamaliaa.A

/- Who has won, which spots are free, and the position behind a move. -/
namespace Go.Proofs.Ytbjpjjokamaliaa.A
open Go.RowKit Go.Proofs.YtbjpjjokamaliaaW.PrintWords Go.Proofs.YtbjpjjokamaliaaW.PrintMore

set_option maxHeartbeats 400000 in
theorem won1_pred (m p : Nat) (h9 : m ≤ 9) (hp : p < 2 ^ m) (l : List Int) (hl : okL m l) (g : Nat) (w : World) (hc : w.cell? ⟨g, 0, none⟩ = some (.int .i64 p)) :
    PredB 75 #[.pointer (some ⟨g, 0, none⟩)] (fun x => .int .i64 x) (fun x => inL m x p.testBit) l w := by
  intro W x hx hb
  have hcW := pw_cell_below hb hc
  have HB := Aside0.mk hb
  obtain ⟨h1, h2⟩ := hl x hx
  obtain ⟨k, rfl⟩ := Int.eq_ofNat_of_zero_le (show 0 ≤ x by omega)
  have hk : k < 2 ^ m := by exact_mod_cast h2
  have e : (bits .andNot .i64 (k : Int) (p : Int) == 0) = inL m (k : Int) p.testBit := by
    rw [andNot64 _ _ (lt62 hk (by omega)) (lt62 hp (by omega)), inL_iff hk]
    rw [Bool.eq_iff_iff]; simp
  have EV := Aside0.mk e
  clear hb hc e hl hx h1 h2 hk
  show Calls Try.prog 75 #[.int .i64 (k : Int), .pointer (some ⟨g, 0, none⟩)] W fun e w' => e = .returned (.bool (inL m (k : Int) p.testBit)) ∧ Below w.heap.size w w'
  rw [← EV.out]
  go_enter Try.func75, Try.ntmps75
  go_wp2
  go_ret
  exact ⟨by first | rfl | simp, HB.out⟩

set_option maxHeartbeats 400000 in
theorem won_calls (m p d : Nat) (h9 : m ≤ 9) (hp : p < 2 ^ m) (l : List Int) (hl : okL m l) (A : Option Addr) (n c : Nat) (w : World) (hr : Kd.C (Kd.int .i64) w A n l) :
    Calls Try.prog 63 #[.agg #[.int .i64 m, .slice A n c], .agg #[.int .i64 p, .int .i64 d]] w fun e w' => e = .returned (.bool (hasL l m p.testBit)) ∧ Below w.heap.size w w' := by
  have HR := Aside0.mk hr
  have HL := Aside0.mk hl
  clear hr hl
  go_enter Try.func63, Try.ntmps63
  go_wp2_with (go_at_call 59; refine (ContainsFunc_int 75 #[.pointer (some ⟨w.heap.size + 1, 0, none⟩)] (fun x => inL m x p.testBit) enters75 A n c l _ ?s1 ?s2).mono ?_; (case s1 => repeat (first | exact HR.out | refine Kd.C_alloc ?_ _)); (case s2 => refine won1_pred m p h9 hp l HL.out _ _ ?_; simp); rintro e w' ⟨rfl, hb'⟩; have HB := Aside0.mk (btrans2 hb'))
  go_ret
  exact ⟨rfl, HB.out⟩

set_option maxHeartbeats 400000 in
theorem free_calls (m p d : Nat) (h9 : m ≤ 9) (hp : p < 2 ^ m) (hd : d < 2 ^ m) (A : Option Addr) (n c : Nat) (w : World) :
    Calls Try.prog 46 #[.agg #[.int .i64 m, .slice A n c], .agg #[.int .i64 p, .int .i64 d]] w fun e w' => e = .returned (.int .i64 (less (2 ^ m - 1) (p ||| d) : Nat)) ∧ Below w.heap.size w w' := by
  have e := free_eq (show m ≤ 61 by omega) hp hd
  have e2 := wrap64_two (show m ≤ 61 by omega)
  have q0 := two_pow_pos' m
  have q1 := two_pow_le (show m ≤ 61 by omega)
  have e3 : wrap64 ((2 : Int) ^ m - 1) = 2 ^ m - 1 := wrap64_id (by omega) (by omega)
  have HE := Aside0.mk e
  have H2 := Aside0.mk e2
  have H3 := Aside0.mk e3
  clear e e2 e3
  go_enter Try.func46, Try.ntmps46
  go_wp2
  go_quiet (fail)
  go_wp2
  go_ret
  refine ⟨by rw [← HE.out]; rfl, pw_below_drewN (below_alloc (below_alloc (Below.refl _ _) _) _) _⟩

theorem or_two (p i : Nat) (hp : p < 2 ^ 9) (hi : i < 9) : bits .or .i64 (p : Int) (wrap64 (2 ^ i)) = ((p ||| 2 ^ i : Nat) : Int) := by
  rw [wrap64_two (by omega)]
  have e : ((2 : Int) ^ i) = ((2 ^ i : Nat) : Int) := by simp
  rw [e, or64 _ _ (lt62 hp (by omega)) (two_lt (by omega))]

set_option maxHeartbeats 400000 in
theorem after_w (p d i : Nat) (hp : p < 2 ^ 9) (hi : i < 9) (w : World) :
    Calls Try.prog 47 #[.agg #[.int .i64 p, .int .i64 d], .int .i64 1, .int .i64 i] w fun e w' => e = .returned (.agg #[.int .i64 (p ||| 2 ^ i : Nat), .int .i64 d]) ∧ Below w.heap.size w w' := by
  have HE := Aside0.mk (or_two p i hp hi)
  clear hp
  go_enter Try.func47, Try.ntmps47
  go_wp2
  go_region
  go_wp2
  refine bodyPost_ret (v := .agg #[.int .i64 (bits .or .i64 (p : Int) (wrap64 (2 ^ i))), .int .i64 d]) (by simp [results, Try.results47, go_sem]) rfl ⟨by rw [HE.out], ?_⟩
  exact (below_alloc (below_alloc (Below.refl _ _) _) _).drew

set_option maxHeartbeats 400000 in
theorem after_d (p d i : Nat) (hd : d < 2 ^ 9) (hi : i < 9) (w : World) :
    Calls Try.prog 47 #[.agg #[.int .i64 p, .int .i64 d], .int .i64 2, .int .i64 i] w fun e w' => e = .returned (.agg #[.int .i64 p, .int .i64 (d ||| 2 ^ i : Nat)]) ∧ Below w.heap.size w w' := by
  have HE := Aside0.mk (or_two d i hd hi)
  clear hd
  go_enter Try.func47, Try.ntmps47
  go_wp2
  go_region
  go_wp2
  refine bodyPost_ret (v := .agg #[.int .i64 p, .int .i64 (bits .or .i64 (d : Int) (wrap64 (2 ^ i)))]) (by simp [results, Try.results47, go_sem]) rfl ⟨by rw [HE.out], ?_⟩
  exact (below_alloc (below_alloc (Below.refl _ _) _) _).drew

set_option maxHeartbeats 400000 in
theorem other_calls (k : Int) (w : World) (h : k = 1 ∨ k = 2) :
    Calls Try.prog 64 #[.int .i64 k] w fun e w' => e = .returned (.int .i64 (3 - k)) ∧ w = w' := by
  have h1 : 1 ≤ k := by omega
  have h2 : k ≤ 2 := by omega
  clear h
  go_enter Try.func64, Try.ntmps64
  go_wp2
  go_ret
  exact ⟨rfl, rfl⟩
end Go.Proofs.Ytbjpjjokamaliaa.A

/- A map that the call makes, whose keys are structs or arrays of whole numbers: what a look-up gives, and what a store leaves. -/
namespace Go.Proofs.Ytbjpjjokamaliaa.A
open Go.RowKit Go.Proofs.YtbjpjjokamaliaaW.PrintWords
variable {P : Program} {κ : Type} [DecidableEq κ]

/-- Keys of one type, as values. -/
structure KeyKind (P : Program) (K : TypeId) (enc : κ → Value) : Prop where
  eq : ∀ a b w, (Op.equal K (enc a) (enc b)).run P w = .ok (decide (a = b)) w
  ok : ∀ a e w, (Instr.checkKey e 10000 K (enc a)).run P w = .ok () w
  now : ∀ d, P.underlying K = some d → ∀ a b, Instr.sameNow d (enc a) (enc b) = none
  kind : ∃ d, P.underlying K = some d
  same : ∀ a, Instr.sameBits 10000 (enc a) (enc a) = true

/-- Where a key stands. -/
def idx (m : List (κ × Value)) (k : κ) : Option (Nat × Value) := (m.findIdx? (fun p => decide (p.1 = k))).map fun i => (i, ((m[i]?).map (·.2)).getD undef)

/-- A map reads as a list of keys and values. -/
def MapIs (enc : κ → Value) (w : World) (b : Nat) (m : List (κ × Value)) : Prop :=
  ∃ es clock, w.heap[b]? = some (.map es clock) ∧ es.toList.map (fun e => (e.key, e.val)) = m.map fun p => (enc p.1, p.2)

theorem findAsking_run {K : TypeId} {enc : κ → Value} (h : KeyKind P K enc) (k : κ) (w : World) : ∀ (es : List MapEntry) (m : List (κ × Value)) (i : Nat), es.map (fun e => (e.key, e.val)) = m.map (fun p => (enc p.1, p.2)) →
    (Instr.findAsking K (enc k) es i).run P w = .ok ((idx m k).map fun q => (q.1 + i, q.2)) w := by
  intro es
  induction es with
  | nil =>
    intro m i hm
    cases m with
    | nil => rfl
    | cons p m => simp at hm
  | cons e es ih =>
    intro m i hm
    cases m with
    | nil => simp at hm
    | cons p m =>
      simp only [List.map_cons, List.cons.injEq, Prod.mk.injEq] at hm
      obtain ⟨⟨h1, h2⟩, h3⟩ := hm
      rw [Instr.findAsking, h1]
      simp only [Sem.run_bind, h.eq, Result.andThen]
      by_cases hk : k = p.1
      · subst hk
        simp [idx, List.findIdx?_cons, h2]
      · have hk2 : ¬ p.1 = k := fun e => hk e.symm
        simp only [hk, decide_false, Bool.false_eq_true, if_false]
        rw [ih m (i + 1) h3]
        simp only [idx, List.findIdx?_cons, hk2, decide_false, Bool.false_eq_true, if_false]
        cases hq : m.findIdx? (fun q => decide (q.1 = k)) with
        | none => simp
        | some j => simp; omega

theorem findKey_run {K : TypeId} {enc : κ → Value} (h : KeyKind P K enc) (k : κ) (w : World) (es : List MapEntry) (m : List (κ × Value)) (hm : es.map (fun e => (e.key, e.val)) = m.map fun p => (enc p.1, p.2)) :
    (Instr.findKey K (enc k) es).run P w = .ok (idx m k) w := by
  obtain ⟨d, hd⟩ := h.kind
  have hask := findAsking_run h k w es m 0 hm
  rw [Instr.findKey]
  simp only [Sem.run_bind, run_underlying hd, Result.andThen]
  cases es with
  | nil =>
    cases m with
    | nil => rfl
    | cons p m => simp at hm
  | cons e es =>
    cases m with
    | nil => simp at hm
    | cons p m =>
      have h1 : e.key = enc p.1 := by simp at hm; exact hm.1.1
      have : Instr.findNow d (enc k) (e :: es) 0 = none := by rw [Instr.findNow, h1, h.now d hd]
      rw [this]
      simp only [hask]
      cases idx (p :: m) k <;> rfl

theorem lookup_run {K t E : TypeId} {enc : κ → Value} (h : KeyKind P K enc) (ht : P.underlying t = some (.map K E)) {z : Value} (hz : ∀ w, (zeroValue E).run P w = .ok z w) {w : World} {b : Nat} {m : List (κ × Value)} (hm : MapIs enc w b m) (k : κ) :
    (Instr.lookup t (.map (some b)) (enc k) false).run P w = .ok (((idx m k).map (·.2)).getD z) w := by
  obtain ⟨es, clock, hb, he⟩ := hm
  have h1 := findKey_run h k w es.toList m he
  have hget : (getObj b).run P w = .ok (.map es clock) w := by simp [getObj, Sem.run, hb]
  rw [Instr.lookup]
  simp only [Sem.run_bind, run_underlying ht, Result.andThen, hget, Sem.run_pure, h.ok, h1]
  cases idx m k with
  | none => simp [hz]
  | some q => simp

theorem idx_none {m : List (κ × Value)} {k : κ} (h : idx m k = none) : ∀ p ∈ m, p.1 ≠ k := by
  unfold idx at h
  rw [Option.map_eq_none_iff, List.findIdx?_eq_none_iff] at h
  intro p hp e
  have := h p hp
  simp [e] at this
theorem idx_some {m : List (κ × Value)} {k : κ} {q : Nat × Value} (h : idx m k = some q) : ∃ hq : q.1 < m.length, m[q.1].1 = k ∧ m[q.1].2 = q.2 := by
  unfold idx at h
  rw [Option.map_eq_some_iff] at h
  obtain ⟨i, hi, rfl⟩ := h
  rw [List.findIdx?_eq_some_iff_getElem] at hi
  obtain ⟨hlt, h1, _⟩ := hi
  exact ⟨hlt, by simpa using h1, by simp [List.getElem?_eq_getElem hlt]⟩

/-- A map behind a store. -/
def putM (m : List (κ × Value)) (k : κ) (v : Value) : List (κ × Value) :=
  match idx m k with
  | some q => m.set q.1 (k, v)
  | none => m ++ [(k, v)]

theorem mem_putM {m : List (κ × Value)} {k : κ} {v : Value} {p : κ × Value} (h : p ∈ putM m k v) : p = (k, v) ∨ p ∈ m := by
  unfold putM at h
  split at h
  · rcases List.mem_or_eq_of_mem_set h with h | h
    · exact .inr h
    · exact .inl h
  · rw [List.mem_append] at h
    rcases h with h | h
    · exact .inr h
    · exact .inl (by simpa using h)

/-- But for block b all that lay lies. -/
structure Keep (b : Nat) (w w' : World) : Prop where
  os : w'.os = w.os
  tape : w'.tape = w.tape
  output : w'.output = w.output
  size : w.heap.size ≤ w'.heap.size
  block : ∀ k, k < w.heap.size → k ≠ b → w'.heap[k]? = w.heap[k]?
theorem Keep.refl (b : Nat) (w : World) : Keep b w w := ⟨rfl, rfl, rfl, Nat.le_refl _, fun _ _ _ => rfl⟩
theorem Keep.trans {b : Nat} {a c d : World} (h : Keep b a c) (k : Keep b c d) : Keep b a d :=
  ⟨k.os.trans h.os, k.tape.trans h.tape, k.output.trans h.output, Nat.le_trans h.size k.size, fun i hi hb => (k.block i (Nat.lt_of_lt_of_le hi h.size) hb).trans (h.block i hi hb)⟩
theorem Keep.of_below {b : Nat} {w w' : World} (h : Below w.heap.size w w') : Keep b w w' := ⟨h.os, h.tape, h.output, h.size, fun k hk _ => h.block k hk⟩
theorem Keep.below {b : Nat} {w w' : World} {B : Nat} (h : Keep b w w') (hB : B ≤ b) (hs : B ≤ w.heap.size) : Below B w w' := ⟨h.os, h.tape, h.output, h.size, fun k hk => h.block k (by omega) (by omega)⟩

theorem run_setMap {w : World} {b : Nat} {o : Obj} {es : Array MapEntry} {clock : Nat} (h : w.heap[b]? = some (.map es clock)) : ∃ w', (setObj b o).run P w = .ok () w' ∧ w'.heap[b]? = some o ∧ Keep b w w' := by
  refine ⟨{ w with heap := w.heap.setIfInBounds b o }, ?_, ?_, rfl, rfl, rfl, by simp, ?_⟩
  · simp [setObj, Sem.run, h]
  · have hlt : b < w.heap.size := (Array.getElem?_eq_some_iff.1 h).1
    simp [hlt]
  · intro k _ hk
    simp only []
    rw [Array.getElem?_setIfInBounds_ne (Ne.symm hk)]

theorem update_run {K t E : TypeId} {enc : κ → Value} (h : KeyKind P K enc) (ht : P.underlying t = some (.map K E)) {w : World} {b : Nat} {m : List (κ × Value)} (hm : MapIs enc w b m) (k : κ) (v : Value) :
    ∃ w', (Instr.mapUpdate t (.map (some b)) (enc k) v).run P w = .ok () w' ∧ MapIs enc w' b (putM m k v) ∧ Keep b w w' := by
  obtain ⟨es, clock, hb, he⟩ := hm
  have h1 := findKey_run h k w es.toList m he
  have hlt : b < w.heap.size := (Array.getElem?_eq_some_iff.1 hb).1
  have hget : (getObj b).run P w = .ok (.map es clock) w := by simp [getObj, Sem.run, hb]
  have hlen : es.size = m.length := by have := congrArg List.length he; simpa using this
  unfold putM
  cases hi : idx m k with
  | none =>
    obtain ⟨w', hr, hh, hk⟩ := run_setMap (P := P) (o := .map (es.push { key := enc k, val := v, born := clock }) (clock + 1)) hb
    refine ⟨w', ?_, ⟨_, _, hh, by simp [he]⟩, hk⟩
    rw [Instr.mapUpdate]
    simp only [Sem.run_bind, run_underlying ht, Result.andThen, hget, h.ok, h1, hi, hr]
  | some q =>
    obtain ⟨hq, hk1, hk2⟩ := idx_some hi
    have hqe : q.1 < es.size := by omega
    have hkey : (es[q.1]'hqe).key = enc k := by
      have := congrArg (fun l => l[q.1]?) he
      simp [hqe, hq] at this
      rw [this.1, hk1]
    obtain ⟨w', hr, hh, hk⟩ := run_setMap (P := P) (o := .map (es.modify q.1 fun e => { e with key := enc k, val := v }) clock) hb
    refine ⟨w', ?_, ⟨_, _, hh, ?_⟩, hk⟩
    · rw [Instr.mapUpdate]
      simp only [Sem.run_bind, run_underlying ht, Result.andThen, hget, h.ok, h1, hi]
      simp only [Array.getElem?_eq_getElem hqe, Option.map_some, Option.getD_some, hkey, Instr.keyThatStays, h.same, if_true, Sem.run_pure, hr]
    · rw [Array.toList_modify]
      apply List.ext_getElem?
      intro j
      have hj := congrArg (fun l => l[j]?) he
      simp only [List.getElem?_map, List.getElem?_modify, List.getElem?_set] at hj ⊢
      by_cases hjq : q.1 = j
      · subst hjq
        simp [hqe, hq]
      · simp only [hjq, if_false]
        simpa using hj
end Go.Proofs.Ytbjpjjokamaliaa.A

/- Who wins: the program's recursion, which remembers turns, against the plain game. -/
namespace Go.Proofs.Ytbjpjjokamaliaa.A
open Go.RowKit Go.Proofs.YtbjpjjokamaliaaW.PrintWords Go.Proofs.YtbjpjjokamaliaaW.PrintMore

theorem eqA63 (d : Nat) (w : World) (x0 y0 : Int) (x1 y1 : Int) :
    (Op.equalIn (d + 2) 63 (.agg #[.int .i64 x0, .int .i64 x1]) (.agg #[.int .i64 y0, .int .i64 y1])).run Try.prog w = .ok (x0 == y0 && (x1 == y1)) w := by
  refine eqA_of Try.underlying63 (by kernel_rfl) ?_
  refine eqf_cons (by rfl) (by go_simp; rfl) (by go_simp; rfl) (by go_simp) ?_
  exact eqf_last (by rfl) (by go_simp; rfl) (by go_simp; rfl) (by go_simp)
theorem eqA65 (d : Nat) (w : World) (x0 y0 : Int) (x1 y1 : Int) (x2 y2 : Int) :
    (Op.equalIn (d + 3) 65 (.agg #[.int .i64 x0, .int .i64 x1, .int .i64 x2]) (.agg #[.int .i64 y0, .int .i64 y1, .int .i64 y2])).run Try.prog w = .ok ((x0 == y0 && (x1 == y1)) && (x2 == y2)) w := by
  refine eqA_of Try.underlying65 (by kernel_rfl) ?_
  refine eqf_cons (by rfl) (by go_simp) (by go_simp) (eqA63 (d + 0) w _ _ _ _) ?_
  exact eqf_last (by rfl) (by go_simp; rfl) (by go_simp; rfl) (by go_simp)

/-- A turn, as a key. -/
def encT (k : Int × Int × Int) : Value := .agg #[.int .i64 k.1, .int .i64 k.2.1, .int .i64 k.2.2]

theorem check_int (e : Bool) (n : Nat) (t : TypeId) (k : IntKind) (x : Int) (w : World) (ht : Try.prog.underlying t = some (.int k)) : (Instr.checkKey e (n + 1) t (.int k x)).run Try.prog w = .ok () w := by
  rw [Instr.checkKey]
  simp [run_underlying ht]

theorem part_i0 (a b : Int) (w : World) : (part 3 #[.int .i64 a, .int .i64 b] 0).run Try.prog w = .ok (.int .i64 a) w := by go_simp
theorem part_i1 (a b : Int) (w : World) : (part 3 #[.int .i64 a, .int .i64 b] 1).run Try.prog w = .ok (.int .i64 b) w := by go_simp
theorem part_i2 (a b c : Int) (w : World) : (part 3 #[.int .i64 a, .int .i64 b, .int .i64 c] 2).run Try.prog w = .ok (.int .i64 c) w := by go_simp
theorem part_p (a b c : Int) (w : World) : (part 63 #[.int .i64 a, .int .i64 b, .int .i64 c] 0).run Try.prog w = .ok (.agg #[.int .i64 a, .int .i64 b]) w := by go_simp

theorem check63 (e : Bool) (n : Nat) (a b : Int) (w : World) : (Instr.checkKey e (n + 2) 63 (.agg #[.int .i64 a, .int .i64 b])).run Try.prog w = .ok () w := by
  rw [Instr.checkKey]
  simp only [Sem.run_bind, run_underlying Try.underlying63, Result.andThen]
  simp [check_int _ _ _ _ _ _ Try.underlying3, part_i0, part_i1]

theorem check65 (e : Bool) (n : Nat) (a b c : Int) (w : World) : (Instr.checkKey e (n + 3) 65 (.agg #[.int .i64 a, .int .i64 b, .int .i64 c])).run Try.prog w = .ok () w := by
  rw [Instr.checkKey]
  simp only [Sem.run_bind, run_underlying Try.underlying65, Result.andThen]
  simp [check_int _ _ _ _ _ _ Try.underlying3, part_i2, part_p, check63]

theorem depth_eq : Op.maxDepth = 9997 + 3 := by simp [Op.maxDepth]

theorem kindT : KeyKind Try.prog 65 encT where
  eq a b w := by
    obtain ⟨a1, a2, a3⟩ := a
    obtain ⟨b1, b2, b3⟩ := b
    have e : (((a1 == b1) && (a2 == b2)) && a3 == b3) = decide ((a1, a2, a3) = (b1, b2, b3)) := by
      rw [Bool.eq_iff_iff]
      simp [and_assoc]
    rw [Op.equal, depth_eq, ← e]
    exact eqA65 9997 w a1 b1 a2 b2 a3 b3
  ok a e w := by
    rw [show (10000 : Nat) = 9997 + 3 from rfl]
    exact check65 e 9997 a.1 a.2.1 a.2.2 w
  now d hd a b := by
    rw [Try.underlying65] at hd
    cases hd
    rfl
  kind := ⟨_, Try.underlying65⟩
  same a := by simp [encT, Instr.sameBits]
end Go.Proofs.Ytbjpjjokamaliaa.A

/- Who wins: the program's recursion, which remembers turns, against the plain game. -/
namespace Go.Proofs.Ytbjpjjokamaliaa.A
open Go.RowKit Go.Proofs.YtbjpjjokamaliaaW.PrintWords Go.Proofs.YtbjpjjokamaliaaW.PrintMore

/-- Wolves are 1, dogs 2. -/
def who (b : Bool) : Int := if b then 1 else 2
def winZ (l : List Int) (m p d : Nat) (nx : Bool) : Int := who (wins l m p.testBit d.testBit nx)
theorem who_12 (b : Bool) : who b = 1 ∨ who b = 2 := by cases b <;> simp [who]

/-- What is remembered is so. -/
def Memo (l : List Int) (m : Nat) (w : World) (b : Nat) : Prop :=
  ∃ mm : List ((Int × Int × Int) × Value), MapIs encT w b mm ∧ ∀ q ∈ mm, ∀ (p d : Nat) (nx : Bool), q.1 = ((p : Int), (d : Int), who nx) → q.2 = .int .i64 (winZ l m p d nx)

theorem Memo.keep {l : List Int} {m : Nat} {w w' : World} {b : Nat} (h : Memo l m w b) (hb : Below w.heap.size w w') : Memo l m w' b := by
  obtain ⟨mm, ⟨es, clock, h1, h2⟩, h3⟩ := h
  exact ⟨mm, ⟨es, clock, (hb.block b (Array.getElem?_eq_some_iff.1 h1).1).trans h1, h2⟩, h3⟩

theorem run_zero3 (w : World) : (zeroValue 3).run Try.prog w = .ok (.int .i64 0) w := by kernel_rfl

theorem Memo.look {l : List Int} {m : Nat} {w : World} {b : Nat} (h : Memo l m w b) (p d : Nat) (nx : Bool) :
    ∃ v : Int, (Instr.lookup 70 (.map (some b)) (.agg #[.int .i64 p, .int .i64 d, .int .i64 (who nx)]) false).run Try.prog w = .ok (.int .i64 v) w ∧ (v = 0 ∨ v = winZ l m p d nx) := by
  obtain ⟨mm, h1, h2⟩ := h
  have hr := lookup_run kindT Try.underlying70 run_zero3 h1 ((p : Int), (d : Int), who nx)
  cases hi : idx mm ((p : Int), (d : Int), who nx) with
  | none =>
    rw [hi] at hr
    exact ⟨0, hr, .inl rfl⟩
  | some q =>
    rw [hi] at hr
    obtain ⟨hq, k1, k2⟩ := idx_some hi
    have := h2 _ (List.getElem_mem hq) p d nx k1
    rw [k2] at this
    refine ⟨winZ l m p d nx, ?_, .inr rfl⟩
    rw [← this]
    exact hr

theorem who_inj {a b : Bool} (h : who a = who b) : a = b := by cases a <;> cases b <;> simp [who] at h ⊢

theorem Memo.store {l : List Int} {m : Nat} {w : World} {b : Nat} (h : Memo l m w b) (p d : Nat) (nx : Bool) (v : Int) (hv : v = winZ l m p d nx) :
    ∃ w', (Instr.mapUpdate 70 (.map (some b)) (.agg #[.int .i64 p, .int .i64 d, .int .i64 (who nx)]) (.int .i64 v)).run Try.prog w = .ok () w' ∧ Memo l m w' b ∧ Keep b w w' := by
  obtain ⟨mm, h1, h2⟩ := h
  obtain ⟨w', hr, hm, hk⟩ := update_run kindT Try.underlying70 h1 ((p : Int), (d : Int), who nx) (.int .i64 v)
  refine ⟨w', hr, ⟨_, hm, ?_⟩, hk⟩
  intro q hq p' d' nx' he
  rcases mem_putM hq with rfl | hq
  · simp only [Prod.mk.injEq] at he
    obtain ⟨e1, e2, e3⟩ := he
    have e1 : p = p' := by omega
    have e2 : d = d' := by omega
    have e3 := who_inj e3
    subst e1; subst e2; subst e3; subst hv
    rfl
  · exact h2 q hq p' d' nx' he

/-- What is held while a turn is looked at. -/
structure WInv (l : List Int) (m : Nat) (b : Nat) (w W : World) (g : Nat) : Prop where
  keep : Keep b w W
  memo : Memo l m W b
  big : g + 1 < W.heap.size
  ne : b < g

theorem held_below {l : List Int} {m p d b g : Nat} {nx : Int} {A : Option Addr} {c : Nat} {w W W' : World}
    (h : W.cell? ⟨g, 0, none⟩ = some (.int .i64 m) ∧ W.cell? ⟨g, 1, none⟩ = some (.slice A l.length c) ∧ W.cell? ⟨g + 1, 0, none⟩ = some (.int .i64 p) ∧ W.cell? ⟨g + 1, 1, none⟩ = some (.int .i64 d) ∧ W.cell? ⟨g + 1, 2, none⟩ = some (.int .i64 nx) ∧ Aside0 (WInv l m b w W g))
    (hb : Below W.heap.size W W') :
    W'.cell? ⟨g, 0, none⟩ = some (.int .i64 m) ∧ W'.cell? ⟨g, 1, none⟩ = some (.slice A l.length c) ∧ W'.cell? ⟨g + 1, 0, none⟩ = some (.int .i64 p) ∧ W'.cell? ⟨g + 1, 1, none⟩ = some (.int .i64 d) ∧ W'.cell? ⟨g + 1, 2, none⟩ = some (.int .i64 nx) ∧ Aside0 (WInv l m b w W' g) := by
  obtain ⟨h1, h2, h3, h4, h5, ⟨h6⟩⟩ := h
  exact ⟨pw_cell_below hb h1, pw_cell_below hb h2, pw_cell_below hb h3, pw_cell_below hb h4, pw_cell_below hb h5, ⟨⟨h6.keep.trans (Keep.of_below hb), h6.memo.keep hb, Nat.lt_of_lt_of_le h6.big hb.size, h6.ne⟩⟩⟩
theorem keep_cell {b : Nat} {W W' : World} (hk : Keep b W W') {a : Addr} {v : Value} (hne : a.block ≠ b) (h : W.cell? a = some v) : W'.cell? a = some v :=
  (World.cell?_of_block (w := W) (hk.block a.block (World.block_lt_of_cell? W a h) hne)).trans h
theorem held_keep {l : List Int} {m p d b g : Nat} {nx : Int} {A : Option Addr} {c : Nat} {w W W' : World}
    (h : W.cell? ⟨g, 0, none⟩ = some (.int .i64 m) ∧ W.cell? ⟨g, 1, none⟩ = some (.slice A l.length c) ∧ W.cell? ⟨g + 1, 0, none⟩ = some (.int .i64 p) ∧ W.cell? ⟨g + 1, 1, none⟩ = some (.int .i64 d) ∧ W.cell? ⟨g + 1, 2, none⟩ = some (.int .i64 nx) ∧ Aside0 (WInv l m b w W g))
    (hb : Keep b W W') (hm : Memo l m W' b) :
    W'.cell? ⟨g, 0, none⟩ = some (.int .i64 m) ∧ W'.cell? ⟨g, 1, none⟩ = some (.slice A l.length c) ∧ W'.cell? ⟨g + 1, 0, none⟩ = some (.int .i64 p) ∧ W'.cell? ⟨g + 1, 1, none⟩ = some (.int .i64 d) ∧ W'.cell? ⟨g + 1, 2, none⟩ = some (.int .i64 nx) ∧ Aside0 (WInv l m b w W' g) := by
  obtain ⟨h1, h2, h3, h4, h5, ⟨h6⟩⟩ := h
  have hne := h6.ne
  exact ⟨keep_cell hb (by show g ≠ b; omega) h1, keep_cell hb (by show g ≠ b; omega) h2, keep_cell hb (by show g + 1 ≠ b; omega) h3, keep_cell hb (by show g + 1 ≠ b; omega) h4, keep_cell hb (by show g + 1 ≠ b; omega) h5, ⟨⟨h6.keep.trans hb, hm, Nat.lt_of_lt_of_le h6.big hb.size, h6.ne⟩⟩⟩
end Go.Proofs.Ytbjpjjokamaliaa.A

/- A drawn region with guards that say no, operation by operation. -/
namespace Go.Proofs.Ytbjpjjokamaliaa.A
variable {P : Program} {ops : Array Oper} {Q : Exit → Act → World → Prop} {md : Region.Mode} {S : World → Prop} {oi : Oper} {fuel : Nat} {listed : Array Bool} {a : Act} {w : World}

theorem noPanic_not {Q : Exit → Act → World → Prop} {c : List PanicEntry} {a : Act} {w : World} : ¬ NoPanic Q (.panic c) a w := fun h => h

theorem H_off (i d : Nat) (ho : ops[i]? = some oi) (hd : oi.dst = some d) (hn : Region.noSelect ops = true) (hf : Region.free md ops listed i = true) (hr : (Region.ready md ops listed).contains i = true)
    (hw : Region.wanted oi (yielded ops a.tmps) = false) (hS : S w) (h : wpAnyH P md ops (NoPanic Q) S fuel (listed.setIfInBounds i true) (a.put (some d) undef) w) : wpAnyH P md ops (NoPanic Q) S (fuel + 1) listed a w :=
  wpAnyH_take ho hn hf hr (fun _ _ _ h => (noPanic_not h).elim) (Or.inr ⟨hw, rfl⟩) hS (by rw [hd]; exact h)

theorem H_on (i d : Nat) (v : Value) (ho : ops[i]? = some oi) (hd : oi.dst = some d) (hn : Region.noSelect ops = true) (hf : Region.free md ops listed i = true) (hr : (Region.ready md ops listed).contains i = true)
    (hw : Region.wanted oi (yielded ops a.tmps) = true) (hy : ∀ w, S w → (execOp a.eval oi).run P w = .ok (.value v) w) (hS : S w) (h : wpAnyH P md ops (NoPanic Q) S fuel (listed.setIfInBounds i true) (a.put (some d) v) w) : wpAnyH P md ops (NoPanic Q) S (fuel + 1) listed a w :=
  wpAnyH_take ho hn hf hr (fun _ _ _ h => (noPanic_not h).elim) (Or.inl ⟨hw, hy⟩) hS (by rw [hd]; exact h)
end Go.Proofs.Ytbjpjjokamaliaa.A

/- Who wins: the walk of the program's recursion. -/
namespace Go.Proofs.Ytbjpjjokamaliaa.A
open Go.RowKit Go.Proofs.YtbjpjjokamaliaaW.PrintWords Go.Proofs.YtbjpjjokamaliaaW.PrintMore

def WinSaid (l : List Int) (m : Nat) (A : Option Addr) (c b n : Nat) : Prop :=
  ∀ (p d : Nat) (nx : Bool) (w : World), cntF m p.testBit d.testBit < n → p < 2 ^ m → d < 2 ^ m → (∀ W, Keep b w W → Kd.C (Kd.int .i64) W A l.length l) → Memo l m w b →
    Calls Try.prog 40 #[.agg #[.int .i64 m, .slice A l.length c], .agg #[.int .i64 p, .int .i64 d, .int .i64 (who nx)], .map (some b)] w fun e w' => e = .returned (.int .i64 (winZ l m p d nx)) ∧ Memo l m w' b ∧ Keep b w w'

theorem Memo.lt {l : List Int} {m : Nat} {w : World} {b : Nat} (h : Memo l m w b) : b < w.heap.size := by
  obtain ⟨mm, ⟨es, clock, h1, h2⟩, h3⟩ := h
  exact (Array.getElem?_eq_some_iff.1 h1).1

theorem held_start {l : List Int} {m p d b : Nat} {nx : Int} {A : Option Addr} {c : Nat} {w : World} (hm : Memo l m w b) :
    let W := (w.alloc (.cells #[.int .i64 m, .slice A l.length c] 61)).alloc (.cells #[.int .i64 p, .int .i64 d, .int .i64 nx] 65)
    let g := w.heap.size
    W.cell? ⟨g, 0, none⟩ = some (.int .i64 m) ∧ W.cell? ⟨g, 1, none⟩ = some (.slice A l.length c) ∧ W.cell? ⟨g + 1, 0, none⟩ = some (.int .i64 p) ∧ W.cell? ⟨g + 1, 1, none⟩ = some (.int .i64 d) ∧ W.cell? ⟨g + 1, 2, none⟩ = some (.int .i64 nx) ∧ Aside0 (WInv l m b w W g) := by
  intro W g
  have hb : Below w.heap.size w W := below_alloc (below_alloc (Below.refl _ _) _) _
  have hk0 : W.heap[g]? = some (.cells #[.int .i64 m, .slice A l.length c] 61 (0, 0)) := (blks2 (Below.refl _ W)).1
  have hk1 : W.heap[g + 1]? = some (.cells #[.int .i64 p, .int .i64 d, .int .i64 nx] 65 (0, 0)) := (blks2 (Below.refl _ W)).2
  obtain ⟨a1, a2, _, _⟩ := cells2 hk0
  obtain ⟨b1, b2, b3, _, _, _⟩ := cells3 hk1
  exact ⟨a1, a2, b1, b2, b3, ⟨⟨Keep.of_below hb, hm.keep hb, by show g + 1 < W.heap.size; simp [W, g], hm.lt⟩⟩⟩

theorem winZ_has {l : List Int} {m p d : Nat} {nx : Bool} (h : hasL l m p.testBit = true) : winZ l m p d nx = 1 := by
  unfold winZ
  cases nx
  · rw [wins_d, h]; rfl
  · rw [wins_w, h]; rfl
theorem winZ_full {l : List Int} {m p d : Nat} {nx : Bool} (h : hasL l m p.testBit = false) (hf : less (2 ^ m - 1) (p ||| d) = 0) : winZ l m p d nx = 2 := by
  have hf := free_zero.1 hf
  unfold winZ
  cases nx
  · rw [wins_d, h, hf]; rfl
  · rw [wins_w, h]
    have : ((List.range m).any fun i => fr p.testBit d.testBit i && wins l m (up p.testBit i) d.testBit false) = false := by
      rw [List.any_eq_false] at hf ⊢
      intro i hi
      simp [hf i hi]
    rw [this]; rfl

theorem free_bit {m p d F k : Nat} (hF : less (2 ^ m - 1) (p ||| d) = F) (hk : k < m) (hm : m ≤ 9) : (bits .and .i64 ((F : Int) / 2 ^ k) 1 == 1) = fr p.testBit d.testBit k := by
  have hlt : F < 2 ^ 62 := by
    rw [← hF]
    exact lt62 (less_lt (Nat.sub_lt (Nat.two_pow_pos m) (by decide))) (by omega)
  rw [bit_ask hlt, ← tb_free hk, hF]
  cases F.testBit k <;> rfl

/-- Who wins behind a move. -/
def aftZ (l : List Int) (m p d : Nat) (nx : Bool) (i : Nat) : Int := if nx then winZ l m (p ||| 2 ^ i) d false else winZ l m p (d ||| 2 ^ i) true

def pW (nx : Bool) (p k : Nat) : Nat := if nx then p ||| 2 ^ k else p
def dD (nx : Bool) (d k : Nat) : Nat := if nx then d else d ||| 2 ^ k
theorem after_any (nx : Bool) (x : Int) (hx : who nx = x) (p d i : Nat) (hp : p < 2 ^ 9) (hd : d < 2 ^ 9) (hi : i < 9) (w : World) :
    Calls Try.prog 47 #[.agg #[.int .i64 p, .int .i64 d], .int .i64 x, .int .i64 i] w fun e w' => e = .returned (.agg #[.int .i64 (pW nx p i), .int .i64 (dD nx d i)]) ∧ Below w.heap.size w w' := by
  subst hx
  cases nx
  · exact after_d p d i hd hi w
  · exact after_w p d i hp hi w
theorem other_any (nx : Bool) (x : Int) (hx : who nx = x) (w : World) : Calls Try.prog 64 #[.int .i64 x] w fun e w' => e = .returned (.int .i64 (who (!nx))) ∧ w = w' := by
  subst hx
  have h := other_calls (who nx) w (who_12 nx)
  have e : 3 - who nx = who (!nx) := by cases nx <;> rfl
  rw [e] at h
  exact h
theorem pow9 {p m : Nat} (h : p < 2 ^ m) (hm : m ≤ 9) : p < 2 ^ 9 := Nat.lt_of_lt_of_le h (Nat.pow_le_pow_right (by decide) hm)
theorem pW_lt {nx : Bool} {p k m : Nat} (h : p < 2 ^ m) (hk : k < m) : pW nx p k < 2 ^ m := by
  unfold pW; split
  · exact or_lt h (Nat.pow_lt_pow_right (by decide) hk)
  · exact h
theorem dD_lt {nx : Bool} {d k m : Nat} (h : d < 2 ^ m) (hk : k < m) : dD nx d k < 2 ^ m := by
  unfold dD; split
  · exact h
  · exact or_lt h (Nat.pow_lt_pow_right (by decide) hk)
theorem cnt_pd {nx : Bool} {p d k m : Nat} (hk : k < m) (hf : fr p.testBit d.testBit k = true) : cntF m (pW nx p k).testBit (dD nx d k).testBit < cntF m p.testBit d.testBit := by
  unfold pW dD
  cases nx
  · simp only [Bool.false_eq_true, if_false]; rw [tb_up]; exact cnt_upD hk hf
  · simp only [if_true]; rw [tb_up]; exact cnt_upW hk hf
theorem aft_eq (l : List Int) (m p d : Nat) (nx : Bool) (k : Nat) : winZ l m (pW nx p k) (dD nx d k) (!nx) = aftZ l m p d nx k := by
  unfold aftZ pW dD; cases nx <;> rfl

theorem winZ_hit {l : List Int} {m p d : Nat} {nx : Bool} {k : Nat} (hw : hasL l m p.testBit = false) (hk : k < m) (hf : fr p.testBit d.testBit k = true) (h : aftZ l m p d nx k = who nx) : winZ l m p d nx = who nx := by
  unfold winZ
  cases nx
  · have h1 : wins l m p.testBit (up d.testBit k) true = false := by
      unfold aftZ winZ at h
      simp only [Bool.false_eq_true, if_false] at h
      have := who_inj h
      rwa [tb_up] at this
    have h2 : wins l m p.testBit d.testBit false = false := by
      rw [wins_d, hw, Bool.false_or, Bool.and_eq_false_iff]
      right
      rw [List.all_eq_false]
      exact ⟨k, List.mem_range.2 hk, by rw [hf, h1]; simp⟩
    rw [h2]
  · have h1 : wins l m (up p.testBit k) d.testBit false = true := by
      unfold aftZ winZ at h
      simp only [if_true] at h
      have := who_inj h
      rwa [tb_up] at this
    have h2 : wins l m p.testBit d.testBit true = true := by
      rw [wins_w, hw, Bool.false_or, List.any_eq_true]
      exact ⟨k, List.mem_range.2 hk, by rw [hf, h1]; rfl⟩
    rw [h2]
theorem aft_two (l : List Int) (m p d : Nat) (nx : Bool) (k : Nat) (h : aftZ l m p d nx k ≠ who nx) : aftZ l m p d nx k = 3 - who nx := by
  rw [← aft_eq] at h ⊢
  unfold winZ at h ⊢
  have := who_12 (wins l m (pW nx p k).testBit (dD nx d k).testBit (!nx))
  have := who_12 nx
  omega
theorem winZ_miss {l : List Int} {m p d : Nat} {nx : Bool} (hw : hasL l m p.testBit = false) (hF : less (2 ^ m - 1) (p ||| d) ≠ 0) (h : ∀ i, i < m → fr p.testBit d.testBit i = true → aftZ l m p d nx i ≠ who nx) : winZ l m p d nx = 3 - who nx := by
  have hne : (List.range m).any (fr p.testBit d.testBit) = true := by
    cases hq : (List.range m).any (fr p.testBit d.testBit) with
    | true => rfl
    | false => exact absurd (free_zero.2 hq) hF
  unfold winZ
  cases nx
  · have h2 : wins l m p.testBit d.testBit false = true := by
      rw [wins_d, hw, hne, Bool.false_or, Bool.true_and, List.all_eq_true]
      intro i hi
      cases hf : fr p.testBit d.testBit i with
      | false => rfl
      | true =>
        have := aft_two l m p d false i (h i (List.mem_range.1 hi) hf)
        unfold aftZ winZ at this
        simp only [Bool.false_eq_true, if_false] at this
        have := who_inj (b := true) this
        rw [tb_up] at this
        rw [this]; rfl
    rw [h2]; rfl
  · have h2 : wins l m p.testBit d.testBit true = false := by
      rw [wins_w, hw, Bool.false_or, List.any_eq_false]
      intro i hi
      cases hf : fr p.testBit d.testBit i with
      | false => simp
      | true =>
        have := aft_two l m p d true i (h i (List.mem_range.1 hi) hf)
        unfold aftZ winZ at this
        simp only [if_true] at this
        have := who_inj (b := false) this
        rw [tb_up] at this
        rw [this]; simp
    rw [h2]; rfl

/-- One call of the recursion, where what is held is held. -/
theorem win_call {l : List Int} {m : Nat} {A : Option Addr} {c b n : Nat} (ih : WinSaid l m A c b n) {p d k g : Nat} {nx : Bool} {x : Int} {w W : World} (_hx : who nx = x) (hn : cntF m p.testBit d.testBit < n + 1) (hp : p < 2 ^ m) (hd : d < 2 ^ m) (hk : k < m) (hf : fr p.testBit d.testBit k = true)
    (hr : ∀ W, Keep b w W → Kd.C (Kd.int .i64) W A l.length l) (hw : WInv l m b w W g) :
    Calls Try.prog 40 #[.agg #[.int .i64 m, .slice A l.length c], .agg #[.int .i64 (pW nx p k), .int .i64 (dD nx d k), .int .i64 (who (!nx))], .map (some b)] W fun e w' => e = .returned (.int .i64 (aftZ l m p d nx k)) ∧ Memo l m w' b ∧ Keep b W w' := by
  have h := ih (pW nx p k) (dD nx d k) (!nx) W (by have := cnt_pd (nx := nx) hk hf; omega) (pW_lt hp hk) (dD_lt hd hk) (fun W' hW' => hr W' (hw.keep.trans hW')) hw.memo
  rw [aft_eq] at h
  exact h

set_option maxRecDepth 100000 in
set_option maxHeartbeats 1600000 in
theorem winner_step (l : List Int) (m : Nat) (h9 : m ≤ 9) (hl : okL m l) (A : Option Addr) (c b n : Nat) (ih : WinSaid l m A c b n) : WinSaid l m A c b (n + 1) := by
  intro p d nx w hn hp hd hr hm
  have HI := Aside0.mk ih
  have HL := Aside0.mk hl
  have HN := Aside0.mk hn
  have HP := Aside0.mk hp
  have HD := Aside0.mk hd
  have HR := Aside0.mk hr
  have HM := Aside0.mk hm
  obtain ⟨z, hz⟩ : ∃ z, winZ l m p d nx = z := ⟨_, rfl⟩
  have HZ := Aside0.mk hz
  have HS := Aside0.mk (held_start (p := p) (d := d) (nx := who nx) (A := A) (c := c) hm)
  rw [hz]
  obtain ⟨x, hx⟩ : ∃ x, who nx = x := ⟨_, rfl⟩
  have HX := Aside0.mk hx
  rw [hx] at HS ⊢
  clear ih hl hn hp hd hr hm hz hx
  go_enter Try.func40, Try.ntmps40
  go_wp2_with fail
  refine (won_calls m p d h9 HP.out l HL.out A l.length c _ (HR.out _ HS.out.2.2.2.2.2.out.keep)).mono ?_
  rintro e w1 ⟨rfl, hb1⟩
  have HS1 := Aside0.mk (held_below HS.out hb1)
  clear HS hb1
  obtain ⟨c1, c2, c3, c4, c5, -⟩ := HS1.out
  cases hw : hasL l m p.testBit with
  | true =>
    have HW := Aside0.mk hw
    clear hw
    go_wp2_with fail
    go_ret
    exact ⟨by rw [← HZ.out, winZ_has HW.out]; rfl, HS1.out.2.2.2.2.2.out.memo, HS1.out.2.2.2.2.2.out.keep⟩
  | false =>
    have HW := Aside0.mk hw
    clear hw
    go_wp2_with fail
    refine (free_calls m p d h9 HP.out HD.out A l.length c _).mono ?_
    rintro e w2 ⟨rfl, hb2⟩
    have HS2 := Aside0.mk (held_below HS1.out hb2)
    clear HS1 hb2 c1 c2 c3 c4 c5
    obtain ⟨c1, c2, c3, c4, c5, -⟩ := HS2.out
    obtain ⟨F, hF⟩ : ∃ F, less (2 ^ m - 1) (p ||| d) = F := ⟨_, rfl⟩
    have HF := Aside0.mk hF
    rw [hF]
    clear hF
    by_cases hF0 : F = 0
    · have t1 : ((F : Int) == 0) = true := by rw [hF0]; rfl
      have HF0 := Aside0.mk hF0
      clear hF0
      go_wp2_with fail
      go_ret
      exact ⟨by rw [← HZ.out, winZ_full HW.out (HF.out.trans HF0.out)]; rfl, HS2.out.2.2.2.2.2.out.memo, HS2.out.2.2.2.2.2.out.keep⟩
    · have t1 : ((F : Int) == 0) = false := by rw [beq_eq_false_iff_ne]; omega
      have HF1 := Aside0.mk hF0
      clear hF0
      obtain ⟨v, hlk, hv⟩ := HS2.out.2.2.2.2.2.out.memo.look p d nx
      rw [HX.out] at hlk
      have HV := Aside0.mk hv
      clear hv
      by_cases hv0 : v = 0
      · subst hv0
        clear HV
        go_wp2_with fail
        refine (other_calls x _ (by rw [← HX.out]; exact who_12 nx)).mono ?_
        rintro e w3 ⟨rfl, rfl⟩
        clear hlk
        go_wp2_with fail
        go_loopg [8, 9, 30] m (fun gg v8 _ v30 wr => ∃ k : Nat, k ≤ m ∧ m - k ≤ gg ∧ v30 = .int .i64 k ∧ v8 = .int .i64 (3 - x) ∧ Aside0 (wr.cell? ⟨w.heap.size, 0, none⟩ = some (.int .i64 m) ∧ wr.cell? ⟨w.heap.size, 1, none⟩ = some (.slice A l.length c) ∧ wr.cell? ⟨w.heap.size + 1, 0, none⟩ = some (.int .i64 p) ∧ wr.cell? ⟨w.heap.size + 1, 1, none⟩ = some (.int .i64 d) ∧ wr.cell? ⟨w.heap.size + 1, 2, none⟩ = some (.int .i64 x) ∧ Aside0 (WInv l m b w wr w.heap.size)) ∧ Aside0 (∀ i, i < k → fr p.testBit d.testBit i = true → aftZ l m p d nx i ≠ x))
        case atStart => exact ⟨0, Nat.zero_le _, by omega, rfl, rfl, HS2, ⟨fun i hi => absurd hi (Nat.not_lt_zero _)⟩⟩
        case round =>
          clear HS2 c1 c2 c3 c4 c5
          obtain ⟨k, hk, hgg, rfl, rfl, HSr, HNo⟩ := hrel
          obtain ⟨c1, c2, c3, c4, c5, c6⟩ := HSr.out
          by_cases hlt : k < m
          · have hltz : (k : Int) < (m : Int) := by omega
            cases hfb : fr p.testBit d.testBit k with
            | false =>
              have HFB := Aside0.mk hfb
              have hgd := free_bit HF.out hlt h9
              rw [hfb] at hgd
              clear hfb
              go_wp2_with fail
              refine wp_region_noPanic ?_
              refine wp_region_held_drew (S := (fun w' => w'.cell? ⟨w.heap.size, 0, none⟩ = some (.int .i64 m) ∧ w'.cell? ⟨w.heap.size, 1, none⟩ = some (.slice A l.length c) ∧ w'.cell? ⟨w.heap.size + 1, 0, none⟩ = some (.int .i64 p) ∧ w'.cell? ⟨w.heap.size + 1, 1, none⟩ = some (.int .i64 d) ∧ w'.cell? ⟨w.heap.size + 1, 2, none⟩ = some (.int .i64 x) ∧ Aside0 (WInv l m b w w' w.heap.size))) (by kernel_rfl) (held_below HSr.out (below_drew (Below.refl _ _))) (fun hHeld => ?_)
              refine H_on 0 33 ?vf0 rfl rfl (by kernel_rfl) (by kernel_rfl) (by kernel_rfl) (by rfl) ?hf0 hHeld ?rf0
              case hf0 => (intro w hSw; (try dsimp only at hSw); go_simp <;> with_reducible rfl)
              simp only [Act.put, List.setIfInBounds_toArray, List.set_cons_zero, List.set_cons_succ]
              refine H_on 1 34 ?vf1 rfl rfl (by kernel_rfl) (by kernel_rfl) (by kernel_rfl) (by rfl) ?hf1 hHeld ?rf1
              case hf1 => (intro w hSw; (try dsimp only at hSw); go_simp <;> with_reducible rfl)
              simp only [Act.put, List.setIfInBounds_toArray, List.set_cons_zero, List.set_cons_succ]
              refine H_on 2 35 ?vf2 rfl rfl (by kernel_rfl) (by kernel_rfl) (by kernel_rfl) (by rfl) ?hf2 hHeld ?rf2
              case hf2 => (intro w hSw; (try dsimp only at hSw); go_simp <;> with_reducible rfl)
              simp only [Act.put, List.setIfInBounds_toArray, List.set_cons_zero, List.set_cons_succ]
              refine H_on 4 37 ?vf4 rfl rfl (by kernel_rfl) (by kernel_rfl) (by kernel_rfl) (by rfl) ?hf4 hHeld ?rf4
              case hf4 => (intro w hSw; (try dsimp only at hSw); go_simp <;> with_reducible rfl)
              simp only [Act.put, List.setIfInBounds_toArray, List.set_cons_zero, List.set_cons_succ]
              refine wpAnyH_ready (rs := [3]) (by kernel_rfl) (by simp) ?_
              refine AllReadyH.cons rfl (fun K hK => ?_) AllReadyH.nil
              go_simp
              (refine (free_calls m p d h9 HP.out HD.out A l.length c _).mono ?_; rw [HF.out]; rintro e w2 ⟨rfl, hb2⟩)
              go_wp2_with fail
              refine hK.out _ _ (held_below hHeld hb2) (fun hHeld => ?_)
              clear hK K
              try simp only [Act.put, List.setIfInBounds_toArray, List.set_cons_zero, List.set_cons_succ]
              refine H_on 5 38 ?vf5 rfl rfl (by kernel_rfl) (by kernel_rfl) (by kernel_rfl) (by rfl) ?hf5 hHeld ?rf5
              case hf5 => (intro w hSw; (try dsimp only at hSw); go_simp <;> with_reducible rfl)
              simp only [Act.put, List.setIfInBounds_toArray, List.set_cons_zero, List.set_cons_succ]
              refine H_on 6 39 ?vf6 rfl rfl (by kernel_rfl) (by kernel_rfl) (by kernel_rfl) (by rfl) ?hf6 hHeld ?rf6
              case hf6 => (intro w hSw; (try dsimp only at hSw); go_simp <;> with_reducible rfl)
              simp only [Act.put, List.setIfInBounds_toArray, List.set_cons_zero, List.set_cons_succ]
              refine H_on 7 40 ?vf7 rfl rfl (by kernel_rfl) (by kernel_rfl) (by kernel_rfl) (by rfl) ?hf7 hHeld ?rf7
              case hf7 => (intro w hSw; (try dsimp only at hSw); go_simp <;> with_reducible rfl)
              simp only [Act.put, List.setIfInBounds_toArray, List.set_cons_zero, List.set_cons_succ]
              refine H_on 8 41 ?vf8 rfl rfl (by kernel_rfl) (by kernel_rfl) (by kernel_rfl) (by rfl) ?hf8 hHeld ?rf8
              case hf8 => (intro w hSw; (try dsimp only at hSw); go_simp <;> with_reducible rfl)
              simp only [Act.put, List.setIfInBounds_toArray, List.set_cons_zero, List.set_cons_succ]
              refine H_off 9 42 rfl rfl (by kernel_rfl) (by kernel_rfl) (by kernel_rfl) (by rfl) hHeld ?_
              simp only [Act.put, List.setIfInBounds_toArray, List.set_cons_zero, List.set_cons_succ]
              refine H_off 10 43 rfl rfl (by kernel_rfl) (by kernel_rfl) (by kernel_rfl) (by rfl) hHeld ?_
              simp only [Act.put, List.setIfInBounds_toArray, List.set_cons_zero, List.set_cons_succ]
              refine H_off 11 44 rfl rfl (by kernel_rfl) (by kernel_rfl) (by kernel_rfl) (by rfl) hHeld ?_
              simp only [Act.put, List.setIfInBounds_toArray, List.set_cons_zero, List.set_cons_succ]
              refine H_off 12 45 rfl rfl (by kernel_rfl) (by kernel_rfl) (by kernel_rfl) (by rfl) hHeld ?_
              simp only [Act.put, List.setIfInBounds_toArray, List.set_cons_zero, List.set_cons_succ]
              refine H_off 13 46 rfl rfl (by kernel_rfl) (by kernel_rfl) (by kernel_rfl) (by rfl) hHeld ?_
              simp only [Act.put, List.setIfInBounds_toArray, List.set_cons_zero, List.set_cons_succ]
              refine H_off 14 47 rfl rfl (by kernel_rfl) (by kernel_rfl) (by kernel_rfl) (by rfl) hHeld ?_
              simp only [Act.put, List.setIfInBounds_toArray, List.set_cons_zero, List.set_cons_succ]
              refine H_off 15 48 rfl rfl (by kernel_rfl) (by kernel_rfl) (by kernel_rfl) (by rfl) hHeld ?_
              simp only [Act.put, List.setIfInBounds_toArray, List.set_cons_zero, List.set_cons_succ]
              refine H_off 16 49 rfl rfl (by kernel_rfl) (by kernel_rfl) (by kernel_rfl) (by rfl) hHeld ?_
              simp only [Act.put, List.setIfInBounds_toArray, List.set_cons_zero, List.set_cons_succ]
              refine H_off 17 50 rfl rfl (by kernel_rfl) (by kernel_rfl) (by kernel_rfl) (by rfl) hHeld ?_
              simp only [Act.put, List.setIfInBounds_toArray, List.set_cons_zero, List.set_cons_succ]
              refine H_off 18 51 rfl rfl (by kernel_rfl) (by kernel_rfl) (by kernel_rfl) (by rfl) hHeld ?_
              simp only [Act.put, List.setIfInBounds_toArray, List.set_cons_zero, List.set_cons_succ]
              refine H_off 19 52 rfl rfl (by kernel_rfl) (by kernel_rfl) (by kernel_rfl) (by rfl) hHeld ?_
              simp only [Act.put, List.setIfInBounds_toArray, List.set_cons_zero, List.set_cons_succ]
              refine H_off 20 53 rfl rfl (by kernel_rfl) (by kernel_rfl) (by kernel_rfl) (by rfl) hHeld ?_
              simp only [Act.put, List.setIfInBounds_toArray, List.set_cons_zero, List.set_cons_succ]
              refine H_off 21 54 rfl rfl (by kernel_rfl) (by kernel_rfl) (by kernel_rfl) (by rfl) hHeld ?_
              simp only [Act.put, List.setIfInBounds_toArray, List.set_cons_zero, List.set_cons_succ]
              refine H_off 22 55 rfl rfl (by kernel_rfl) (by kernel_rfl) (by kernel_rfl) (by rfl) hHeld ?_
              simp only [Act.put, List.setIfInBounds_toArray, List.set_cons_zero, List.set_cons_succ]
              refine H_off 23 56 rfl rfl (by kernel_rfl) (by kernel_rfl) (by kernel_rfl) (by rfl) hHeld ?_
              simp only [Act.put, List.setIfInBounds_toArray, List.set_cons_zero, List.set_cons_succ]
              refine H_off 24 57 rfl rfl (by kernel_rfl) (by kernel_rfl) (by kernel_rfl) (by rfl) hHeld ?_
              simp only [Act.put, List.setIfInBounds_toArray, List.set_cons_zero, List.set_cons_succ]
              refine H_on 25 58 ?vf25 rfl rfl (by kernel_rfl) (by kernel_rfl) (by kernel_rfl) (by rfl) ?hf25 hHeld ?rf25
              case hf25 => (intro w hSw; (try dsimp only at hSw); go_simp <;> with_reducible rfl)
              simp only [Act.put, List.setIfInBounds_toArray, List.set_cons_zero, List.set_cons_succ]
              refine wpAnyH_done (by kernel_rfl) ?_ _
              refine NoPanic.normal ?_
              go_wp2_with fail
              go_roundg (m - (k + 1))
              case measure => omega
              case rel =>
                refine ⟨k + 1, by omega, by omega, by go_num, rfl, ⟨by assumption⟩, ⟨fun i hi hfi => ?_⟩⟩
                by_cases e : i = k
                · subst e; rw [HFB.out] at hfi; cases hfi
                · exact HNo.out i (by omega) hfi
            | true =>
              have HFB := Aside0.mk hfb
              have hgd := free_bit HF.out hlt h9
              rw [hfb] at hgd
              clear hfb
              go_wp2_with fail
              go_region_held3 (fun w' => w'.cell? ⟨w.heap.size, 0, none⟩ = some (.int .i64 m) ∧ w'.cell? ⟨w.heap.size, 1, none⟩ = some (.slice A l.length c) ∧ w'.cell? ⟨w.heap.size + 1, 0, none⟩ = some (.int .i64 p) ∧ w'.cell? ⟨w.heap.size + 1, 1, none⟩ = some (.int .i64 d) ∧ w'.cell? ⟨w.heap.size + 1, 2, none⟩ = some (.int .i64 x) ∧ Aside0 (WInv l m b w w' w.heap.size)) (first | exact held_below HSr.out (below_drew (Below.refl _ _)) | exact held_below (by assumption) hb2 | exact held_below (by assumption) (Below.refl _ _) | exact held_keep (by assumption) hk2 hm2) (first | (go_at_call 46; refine (free_calls m p d h9 HP.out HD.out A l.length c _).mono ?_; rw [HF.out]; rintro e w2 ⟨rfl, hb2⟩) | (go_at_call 47; refine (after_any nx x HX.out p d k (pow9 HP.out h9) (pow9 HD.out h9) (by omega) _).mono ?_; rintro e w2 ⟨rfl, hb2⟩) | (go_at_call 64; refine (other_any nx x HX.out _).mono ?_; rintro e w2 ⟨rfl, rfl⟩) | (go_at_call 40; refine (win_call HI.out HX.out HN.out HP.out HD.out hlt HFB.out HR.out (by assumption : _ ∧ _ ∧ _ ∧ _ ∧ _ ∧ Aside0 (WInv _ _ _ _ _ _)).2.2.2.2.2.out).mono ?_; rintro e w2 ⟨rfl, hm2, hk2⟩))
              all_goals
                have HH := Aside0.mk (show _ ∧ _ ∧ _ ∧ _ ∧ _ ∧ Aside0 (WInv l m b w w2 w.heap.size) by assumption)
                have e1 := HH.out.1
                have e2 := HH.out.2.1
                have e3 := HH.out.2.2.1
                have e4 := HH.out.2.2.2.1
                have e5 := HH.out.2.2.2.2.1
                by_cases hax : aftZ l m p d nx k = x
                · have hwz : x = winZ l m p d nx := by rw [winZ_hit HW.out hlt HFB.out (hax.trans HX.out.symm)]; exact HX.out.symm
                  obtain ⟨w4, hst, hm4, hk4⟩ := HH.out.2.2.2.2.2.out.memo.store p d nx x hwz
                  rw [HX.out] at hst
                  have HK4 := Aside0.mk (held_keep HH.out hk4 hm4)
                  have HWZ := Aside0.mk hwz
                  have hab : (aftZ l m p d nx k == x) = true := beq_iff_eq.2 hax
                  clear hwz hax hm4 hk4
                  go_wp2_with fail
                  go_ret
                  exact ⟨by rw [← HZ.out, ← HWZ.out]; rfl, HK4.out.2.2.2.2.2.out.memo, HK4.out.2.2.2.2.2.out.keep⟩
                · have hab : (aftZ l m p d nx k == x) = false := beq_eq_false_iff_ne.2 hax
                  have HAX := Aside0.mk hax
                  clear hax
                  go_wp2_with fail
                  go_roundg (m - (k + 1))
                  case measure => omega
                  case rel =>
                    refine ⟨k + 1, by omega, by omega, by go_num, rfl, HH, ⟨fun i hi hfi => ?_⟩⟩
                    by_cases e : i = k
                    · subst e; exact HAX.out
                    · exact HNo.out i (by omega) hfi
          · have hltz : ¬ (k : Int) < (m : Int) := by omega
            have hwz : 3 - x = winZ l m p d nx := by rw [winZ_miss HW.out (by rw [HF.out]; exact HF1.out) (fun i hi hfi => by rw [HX.out]; exact HNo.out i (by omega) hfi), HX.out]
            obtain ⟨w4, hst, hm4, hk4⟩ := c6.out.memo.store p d nx (3 - x) hwz
            rw [HX.out] at hst
            have HK4 := Aside0.mk (held_keep HSr.out hk4 hm4)
            have HWZ := Aside0.mk hwz
            clear hwz hm4 hk4
            go_wp2_with fail
            go_ret
            exact ⟨by rw [← HZ.out, ← HWZ.out]; rfl, HK4.out.2.2.2.2.2.out.memo, HK4.out.2.2.2.2.2.out.keep⟩
      · have t2 : (v != 0) = true := by rw [bne_iff_ne]; exact hv0
        have HV0 := Aside0.mk hv0
        clear hv0
        go_wp2_with fail
        go_ret
        exact ⟨by rw [← HZ.out, ← HV.out.resolve_left HV0.out]; rfl, HS2.out.2.2.2.2.2.out.memo, HS2.out.2.2.2.2.2.out.keep⟩

theorem winner_calls (l : List Int) (m : Nat) (h9 : m ≤ 9) (hl : okL m l) (A : Option Addr) (c b n : Nat) : WinSaid l m A c b n := by
  induction n with
  | zero => intro p d nx w hn; omega
  | succ n ih => exact winner_step l m h9 hl A c b n ih
end Go.Proofs.Ytbjpjjokamaliaa.A

/- Winner, as it is called. -/
namespace Go.Proofs.Ytbjpjjokamaliaa.A
open Go.RowKit Go.Proofs.YtbjpjjokamaliaaW.PrintWords Go.Proofs.YtbjpjjokamaliaaW.PrintMore

theorem Memo.new {l : List Int} {m b : Nat} (w : World) (h : w.heap.size = b) : Memo l m (w.alloc (.map #[] 0)) b := by
  subst h
  exact ⟨[], ⟨#[], 0, heap_alloc_new w _, rfl⟩, fun q hq => by cases hq⟩

theorem okP_parts {m : Int} {l : List Int} {s : ByteArray} (h : okP m l s = 0) : okF m l = 0 ∧ (s.size : Int) = m := by
  unfold okP at h
  by_cases h1 : okF m l ≠ 0
  · rw [if_pos h1] at h; exact absurd h h1
  · rw [if_neg h1] at h
    by_cases h2 : (s.size : Int) ≠ m
    · rw [if_pos h2] at h; cases h
    · exact ⟨by simpa using h1, by simpa using h2⟩

/-- Who wins in a position that is written. -/
def winS (l : List Int) (s : ByteArray) (nx : Bool) : Bool := wins l s.size (msk 119 s s.size).testBit (msk 100 s s.size).testBit nx
def letS (b : Bool) : ByteArray := if b then sW else sD

set_option maxRecDepth 100000 in
set_option maxHeartbeats 800000 in
theorem Winner_err (m : Int) (A : Option Addr) (c : Nat) (l : List Int) (s nx : ByteArray) (w : World) (hr : Kd.C (Kd.int .i64) w A l.length l) (he : okA m l s nx ≠ 0) :
    Calls Try.prog 14 #[.int .i64 m, .slice A l.length c, .string s, .string nx] w fun e w' => e = .returned (.tuple #[.string ⟨#[]⟩, .int .i64 (okA m l s nx)]) ∧ Below w.heap.size w w' := by
  have HR := Aside0.mk hr
  have HE := Aside0.mk he
  obtain ⟨E, hE⟩ : ∃ E, okA m l s nx = E := ⟨_, rfl⟩
  rw [hE] at he ⊢
  have HV := Aside0.mk hE
  have hg : (E != 0) = true := by rw [bne_iff_ne]; exact he
  clear hr hE he
  go_enter Try.func14, Try.ntmps14
  go_wp2_with (go_at_call 38; refine (asked_err m A c l s nx _ HR.out HE.out).mono ?_; rw [HV.out]; rintro e w' ⟨⟨x, A2, n2, c2, rfl⟩, hb'⟩; have HB := Aside0.mk hb'; clear hb')
  go_ret2
  exact ⟨rfl, below_alloc (below_alloc HB.out _) _⟩

/-- Who is next. -/
def nxW (nx : ByteArray) : Option Bool := if (nx.toList == sW.toList) = true then some true else if (nx.toList == sD.toList) = true then some false else none
theorem okA_parts {m : Int} {l : List Int} {s nx : ByteArray} (h : okA m l s nx = 0) : okP m l s = 0 ∧ ∃ b, nxW nx = some b := by
  unfold okA at h
  by_cases h1 : okP m l s ≠ 0
  · rw [if_pos h1] at h; exact absurd h h1
  · rw [if_neg h1] at h
    refine ⟨by simpa using h1, ?_⟩
    unfold nxW
    by_cases q1 : (nx.toList == sW.toList) = true
    · exact ⟨true, by rw [if_pos q1]⟩
    · rw [if_neg q1] at h ⊢
      by_cases q2 : (nx.toList == sD.toList) = true
      · exact ⟨false, by rw [if_pos q2]⟩
      · rw [if_neg q2] at h; cases h
theorem asked_good (m : Int) (A : Option Addr) (c : Nat) (l : List Int) (s nx : ByteArray) (b : Bool) (w : World) (hr : Kd.C (Kd.int .i64) w A l.length l) (hP0 : okP m l s = 0) (hb : nxW nx = some b) :
    Calls Try.prog 38 #[.int .i64 m, .slice A l.length c, .string s, .string nx] w fun e w' => e = .returned (.tuple #[.agg #[.int .i64 m, .slice A l.length c], .agg #[.int .i64 (msk 119 s s.size), .int .i64 (msk 100 s s.size), .int .i64 (who b)], .int .i64 0]) ∧ Below w.heap.size w w' := by
  unfold nxW at hb
  by_cases q1 : (nx.toList == sW.toList) = true
  · rw [if_pos q1] at hb
    cases hb
    exact asked_w m A c l s nx w hr hP0 q1
  · rw [if_neg q1] at hb
    by_cases q2 : (nx.toList == sD.toList) = true
    · rw [if_pos q2] at hb
      cases hb
      exact asked_d m A c l s nx w hr hP0 (by simpa using q1) q2
    · rw [if_neg q2] at hb; cases hb

theorem letter_any (x : Int) (b : Bool) (hx : who b = x) (w : World) : Calls Try.prog 39 #[.int .i64 x] w fun e w' => e = .returned (.string (letS b)) ∧ w = w' := by
  subst hx
  cases b
  · exact letter_d w
  · exact letter_w w

theorem keep_off {b : Nat} {l : List Int} {A : Option Addr} {w0 w W : World} (h : Below w0.heap.size w0 w) (hb : w0.heap.size ≤ b) (hr : Kd.C (Kd.int .i64) w0 A l.length l) (hk : Keep b w W) : Kd.C (Kd.int .i64) W A l.length l :=
  Kd.C_below hr (h.trans (hk.below hb h.size))

theorem winner_at {l : List Int} {m : Nat} (h9 : m ≤ 9) (hl : okL m l) {A : Option Addr} {c b p d : Nat} {nx : Bool} {x : Int} (hx : who nx = x) {w0 w : World} (hB : Below w0.heap.size w0 w) (hb : w0.heap.size ≤ b) (hr : Kd.C (Kd.int .i64) w0 A l.length l) (hm : Memo l m w b) (hp : p < 2 ^ m) (hd : d < 2 ^ m) :
    Calls Try.prog 40 #[.agg #[.int .i64 m, .slice A l.length c], .agg #[.int .i64 p, .int .i64 d, .int .i64 x], .map (some b)] w fun e w' => e = .returned (.int .i64 (winZ l m p d nx)) ∧ Memo l m w' b ∧ Keep b w w' := by
  subst hx
  exact winner_calls l m h9 hl A c b (m + 1) p d nx w (by have := cnt_le m p.testBit d.testBit; omega) hp hd (fun W hW => keep_off hB hb hr hW) hm

set_option maxRecDepth 100000 in
set_option maxHeartbeats 800000 in
theorem Winner_good (m : Int) (A : Option Addr) (c : Nat) (l : List Int) (s nx : ByteArray) (b : Bool) (w : World) (hr : Kd.C (Kd.int .i64) w A l.length l) (hP : okP m l s = 0) (hb : nxW nx = some b) :
    Calls Try.prog 14 #[.int .i64 m, .slice A l.length c, .string s, .string nx] w fun e w' => e = .returned (.tuple #[.string (letS (winS l s b)), .int .i64 0]) ∧ Below w.heap.size w w' := by
  have HR := Aside0.mk hr
  have HE := Aside0.mk hP
  have HN := Aside0.mk hb
  obtain ⟨hF, hs⟩ := okP_parts hP
  subst hs
  have HF := Aside0.mk hF
  have H9 := Aside0.mk (okF_m hF)
  obtain ⟨x, hx⟩ : ∃ x, who b = x := ⟨_, rfl⟩
  have HX := Aside0.mk hx
  clear hr hP hb hx hF
  have hmm := @run_makeMap Try.prog
  go_enter Try.func14, Try.ntmps14
  go_wp2_with (first
    | (go_at_call 38; refine (asked_good s.size A c l s nx b _ HR.out HE.out HN.out).mono ?_; rw [HX.out]; rintro e w' ⟨rfl, hb'⟩; have HB := Aside0.mk hb'; clear hb')
    | (go_at_call 40; refine (winner_at (m := s.size) (by have := H9.out; omega) (okF_L HF.out) HX.out (below_alloc (below_alloc (below_alloc HB.out _) _) _) (by have := HB.out.size; omega) HR.out (Memo.new _ (by simp)) (msk_lt _ _ _) (msk_lt _ _ _)).mono ?_; rintro e w2 ⟨rfl, hm2, hk2⟩)
    | (go_at_call 39; refine (letter_any _ (wins l s.size (msk 119 s s.size).testBit (msk 100 s s.size).testBit b) rfl _).mono ?_; rintro e w3 ⟨rfl, rfl⟩))
  go_ret2
  refine ⟨rfl, ?_⟩
  exact (below_alloc (below_alloc (below_alloc HB.out _) _) _).trans (hk2.below (by have := HB.out.size; omega) (by have := HB.out.size; simp; omega))

def ambush_Winner.f (a0 : Int) (l1 : List Int) (a2 a3 : ByteArray) : Option (ByteArray × Int) :=
  some (if okA a0 l1 a2 a3 = 0 then (letS (winS l1 a2 ((nxW a3).getD false)), 0) else (⟨#[]⟩, okA a0 l1 a2 a3))
theorem ambush_Winner.calls (a0 : Int) (A1 : Option Addr) (c1 : Nat) (l1 : List Int) (a2 : ByteArray) (a3 : ByteArray) (r1 : ByteArray) (r2 : Int) (w : World) (hr1 : Kd.C (Kd.int .i64) w A1 l1.length l1) (_hc1 : l1.length ≤ c1) (h : ambush_Winner.f a0 l1 a2 a3 = some (r1, r2)) :
    Calls Try.prog 14 #[.int .i64 a0, .slice A1 l1.length c1, .string a2, .string a3] w fun e w' => e = .returned (.tuple #[.string r1, .int .i64 r2]) ∧ Below w.heap.size w w' := by
  unfold ambush_Winner.f at h
  by_cases h0 : okA a0 l1 a2 a3 = 0
  · rw [if_pos h0] at h
    obtain ⟨hP, b, hb⟩ := okA_parts h0
    rw [hb] at h
    cases h
    exact Winner_good a0 A1 c1 l1 a2 a3 b w hr1 hP hb
  · rw [if_neg h0] at h
    cases h
    exact Winner_err a0 A1 c1 l1 a2 a3 w hr1 h0
end Go.Proofs.Ytbjpjjokamaliaa.A

/- How many spots a set has: math/bits.OnesCount (as print.sh writes it), on sets of nine spots at most. -/
namespace Go.Proofs.Ytbjpjjokamaliaa.A
open Go.RowKit Go.Proofs.YtbjpjjokamaliaaW.PrintWords Go.Proofs.YtbjpjjokamaliaaW.PrintLast Go.Proofs.YtbjpjjokamaliaaW.PrintMore
set_option linter.unusedVariables false
set_option linter.unusedSimpArgs false
/-! ### bits_OnesCount64: function 67 -/
def bits_OnesCount64.f (a0 : Int) : Option (Int) := some (Go.bits .and .i64 (wrap64 (IntKind.u64.wrap ((IntKind.u64.wrap ((IntKind.u64.wrap ((Go.bits .and .u64 (IntKind.u64.wrap (((IntKind.u64.wrap ((Go.bits .and .u64 ((IntKind.u64.wrap ((Go.bits .and .u64 (a0 / 2) 6148914691236517205) + (Go.bits .and .u64 a0 6148914691236517205))) / 4) 3689348814741910323) + (Go.bits .and .u64 (IntKind.u64.wrap ((Go.bits .and .u64 (a0 / 2) 6148914691236517205) + (Go.bits .and .u64 a0 6148914691236517205))) 3689348814741910323))) / 16) + (IntKind.u64.wrap ((Go.bits .and .u64 ((IntKind.u64.wrap ((Go.bits .and .u64 (a0 / 2) 6148914691236517205) + (Go.bits .and .u64 a0 6148914691236517205))) / 4) 3689348814741910323) + (Go.bits .and .u64 (IntKind.u64.wrap ((Go.bits .and .u64 (a0 / 2) 6148914691236517205) + (Go.bits .and .u64 a0 6148914691236517205))) 3689348814741910323))))) 1085102592571150095) + ((Go.bits .and .u64 (IntKind.u64.wrap (((IntKind.u64.wrap ((Go.bits .and .u64 ((IntKind.u64.wrap ((Go.bits .and .u64 (a0 / 2) 6148914691236517205) + (Go.bits .and .u64 a0 6148914691236517205))) / 4) 3689348814741910323) + (Go.bits .and .u64 (IntKind.u64.wrap ((Go.bits .and .u64 (a0 / 2) 6148914691236517205) + (Go.bits .and .u64 a0 6148914691236517205))) 3689348814741910323))) / 16) + (IntKind.u64.wrap ((Go.bits .and .u64 ((IntKind.u64.wrap ((Go.bits .and .u64 (a0 / 2) 6148914691236517205) + (Go.bits .and .u64 a0 6148914691236517205))) / 4) 3689348814741910323) + (Go.bits .and .u64 (IntKind.u64.wrap ((Go.bits .and .u64 (a0 / 2) 6148914691236517205) + (Go.bits .and .u64 a0 6148914691236517205))) 3689348814741910323))))) 1085102592571150095) / 256))) + ((IntKind.u64.wrap ((Go.bits .and .u64 (IntKind.u64.wrap (((IntKind.u64.wrap ((Go.bits .and .u64 ((IntKind.u64.wrap ((Go.bits .and .u64 (a0 / 2) 6148914691236517205) + (Go.bits .and .u64 a0 6148914691236517205))) / 4) 3689348814741910323) + (Go.bits .and .u64 (IntKind.u64.wrap ((Go.bits .and .u64 (a0 / 2) 6148914691236517205) + (Go.bits .and .u64 a0 6148914691236517205))) 3689348814741910323))) / 16) + (IntKind.u64.wrap ((Go.bits .and .u64 ((IntKind.u64.wrap ((Go.bits .and .u64 (a0 / 2) 6148914691236517205) + (Go.bits .and .u64 a0 6148914691236517205))) / 4) 3689348814741910323) + (Go.bits .and .u64 (IntKind.u64.wrap ((Go.bits .and .u64 (a0 / 2) 6148914691236517205) + (Go.bits .and .u64 a0 6148914691236517205))) 3689348814741910323))))) 1085102592571150095) + ((Go.bits .and .u64 (IntKind.u64.wrap (((IntKind.u64.wrap ((Go.bits .and .u64 ((IntKind.u64.wrap ((Go.bits .and .u64 (a0 / 2) 6148914691236517205) + (Go.bits .and .u64 a0 6148914691236517205))) / 4) 3689348814741910323) + (Go.bits .and .u64 (IntKind.u64.wrap ((Go.bits .and .u64 (a0 / 2) 6148914691236517205) + (Go.bits .and .u64 a0 6148914691236517205))) 3689348814741910323))) / 16) + (IntKind.u64.wrap ((Go.bits .and .u64 ((IntKind.u64.wrap ((Go.bits .and .u64 (a0 / 2) 6148914691236517205) + (Go.bits .and .u64 a0 6148914691236517205))) / 4) 3689348814741910323) + (Go.bits .and .u64 (IntKind.u64.wrap ((Go.bits .and .u64 (a0 / 2) 6148914691236517205) + (Go.bits .and .u64 a0 6148914691236517205))) 3689348814741910323))))) 1085102592571150095) / 256))) / 65536))) + ((IntKind.u64.wrap ((IntKind.u64.wrap ((Go.bits .and .u64 (IntKind.u64.wrap (((IntKind.u64.wrap ((Go.bits .and .u64 ((IntKind.u64.wrap ((Go.bits .and .u64 (a0 / 2) 6148914691236517205) + (Go.bits .and .u64 a0 6148914691236517205))) / 4) 3689348814741910323) + (Go.bits .and .u64 (IntKind.u64.wrap ((Go.bits .and .u64 (a0 / 2) 6148914691236517205) + (Go.bits .and .u64 a0 6148914691236517205))) 3689348814741910323))) / 16) + (IntKind.u64.wrap ((Go.bits .and .u64 ((IntKind.u64.wrap ((Go.bits .and .u64 (a0 / 2) 6148914691236517205) + (Go.bits .and .u64 a0 6148914691236517205))) / 4) 3689348814741910323) + (Go.bits .and .u64 (IntKind.u64.wrap ((Go.bits .and .u64 (a0 / 2) 6148914691236517205) + (Go.bits .and .u64 a0 6148914691236517205))) 3689348814741910323))))) 1085102592571150095) + ((Go.bits .and .u64 (IntKind.u64.wrap (((IntKind.u64.wrap ((Go.bits .and .u64 ((IntKind.u64.wrap ((Go.bits .and .u64 (a0 / 2) 6148914691236517205) + (Go.bits .and .u64 a0 6148914691236517205))) / 4) 3689348814741910323) + (Go.bits .and .u64 (IntKind.u64.wrap ((Go.bits .and .u64 (a0 / 2) 6148914691236517205) + (Go.bits .and .u64 a0 6148914691236517205))) 3689348814741910323))) / 16) + (IntKind.u64.wrap ((Go.bits .and .u64 ((IntKind.u64.wrap ((Go.bits .and .u64 (a0 / 2) 6148914691236517205) + (Go.bits .and .u64 a0 6148914691236517205))) / 4) 3689348814741910323) + (Go.bits .and .u64 (IntKind.u64.wrap ((Go.bits .and .u64 (a0 / 2) 6148914691236517205) + (Go.bits .and .u64 a0 6148914691236517205))) 3689348814741910323))))) 1085102592571150095) / 256))) + ((IntKind.u64.wrap ((Go.bits .and .u64 (IntKind.u64.wrap (((IntKind.u64.wrap ((Go.bits .and .u64 ((IntKind.u64.wrap ((Go.bits .and .u64 (a0 / 2) 6148914691236517205) + (Go.bits .and .u64 a0 6148914691236517205))) / 4) 3689348814741910323) + (Go.bits .and .u64 (IntKind.u64.wrap ((Go.bits .and .u64 (a0 / 2) 6148914691236517205) + (Go.bits .and .u64 a0 6148914691236517205))) 3689348814741910323))) / 16) + (IntKind.u64.wrap ((Go.bits .and .u64 ((IntKind.u64.wrap ((Go.bits .and .u64 (a0 / 2) 6148914691236517205) + (Go.bits .and .u64 a0 6148914691236517205))) / 4) 3689348814741910323) + (Go.bits .and .u64 (IntKind.u64.wrap ((Go.bits .and .u64 (a0 / 2) 6148914691236517205) + (Go.bits .and .u64 a0 6148914691236517205))) 3689348814741910323))))) 1085102592571150095) + ((Go.bits .and .u64 (IntKind.u64.wrap (((IntKind.u64.wrap ((Go.bits .and .u64 ((IntKind.u64.wrap ((Go.bits .and .u64 (a0 / 2) 6148914691236517205) + (Go.bits .and .u64 a0 6148914691236517205))) / 4) 3689348814741910323) + (Go.bits .and .u64 (IntKind.u64.wrap ((Go.bits .and .u64 (a0 / 2) 6148914691236517205) + (Go.bits .and .u64 a0 6148914691236517205))) 3689348814741910323))) / 16) + (IntKind.u64.wrap ((Go.bits .and .u64 ((IntKind.u64.wrap ((Go.bits .and .u64 (a0 / 2) 6148914691236517205) + (Go.bits .and .u64 a0 6148914691236517205))) / 4) 3689348814741910323) + (Go.bits .and .u64 (IntKind.u64.wrap ((Go.bits .and .u64 (a0 / 2) 6148914691236517205) + (Go.bits .and .u64 a0 6148914691236517205))) 3689348814741910323))))) 1085102592571150095) / 256))) / 65536))) / 4294967296)))) 127)
set_option maxHeartbeats 8000000 in
set_option maxRecDepth 100000 in
theorem bits_OnesCount64.calls (a0 : Int) (r : Int) (w : World) (h : bits_OnesCount64.f a0 = some r) :
    Calls Try.prog 67 #[.int .u64 a0] w fun e w' => e = .returned (.int .i64 r) ∧ Drawn0 w w' := by
  have H : (some (Go.bits .and .i64 (wrap64 (IntKind.u64.wrap ((IntKind.u64.wrap ((IntKind.u64.wrap ((Go.bits .and .u64 (IntKind.u64.wrap (((IntKind.u64.wrap ((Go.bits .and .u64 ((IntKind.u64.wrap ((Go.bits .and .u64 (a0 / 2) 6148914691236517205) + (Go.bits .and .u64 a0 6148914691236517205))) / 4) 3689348814741910323) + (Go.bits .and .u64 (IntKind.u64.wrap ((Go.bits .and .u64 (a0 / 2) 6148914691236517205) + (Go.bits .and .u64 a0 6148914691236517205))) 3689348814741910323))) / 16) + (IntKind.u64.wrap ((Go.bits .and .u64 ((IntKind.u64.wrap ((Go.bits .and .u64 (a0 / 2) 6148914691236517205) + (Go.bits .and .u64 a0 6148914691236517205))) / 4) 3689348814741910323) + (Go.bits .and .u64 (IntKind.u64.wrap ((Go.bits .and .u64 (a0 / 2) 6148914691236517205) + (Go.bits .and .u64 a0 6148914691236517205))) 3689348814741910323))))) 1085102592571150095) + ((Go.bits .and .u64 (IntKind.u64.wrap (((IntKind.u64.wrap ((Go.bits .and .u64 ((IntKind.u64.wrap ((Go.bits .and .u64 (a0 / 2) 6148914691236517205) + (Go.bits .and .u64 a0 6148914691236517205))) / 4) 3689348814741910323) + (Go.bits .and .u64 (IntKind.u64.wrap ((Go.bits .and .u64 (a0 / 2) 6148914691236517205) + (Go.bits .and .u64 a0 6148914691236517205))) 3689348814741910323))) / 16) + (IntKind.u64.wrap ((Go.bits .and .u64 ((IntKind.u64.wrap ((Go.bits .and .u64 (a0 / 2) 6148914691236517205) + (Go.bits .and .u64 a0 6148914691236517205))) / 4) 3689348814741910323) + (Go.bits .and .u64 (IntKind.u64.wrap ((Go.bits .and .u64 (a0 / 2) 6148914691236517205) + (Go.bits .and .u64 a0 6148914691236517205))) 3689348814741910323))))) 1085102592571150095) / 256))) + ((IntKind.u64.wrap ((Go.bits .and .u64 (IntKind.u64.wrap (((IntKind.u64.wrap ((Go.bits .and .u64 ((IntKind.u64.wrap ((Go.bits .and .u64 (a0 / 2) 6148914691236517205) + (Go.bits .and .u64 a0 6148914691236517205))) / 4) 3689348814741910323) + (Go.bits .and .u64 (IntKind.u64.wrap ((Go.bits .and .u64 (a0 / 2) 6148914691236517205) + (Go.bits .and .u64 a0 6148914691236517205))) 3689348814741910323))) / 16) + (IntKind.u64.wrap ((Go.bits .and .u64 ((IntKind.u64.wrap ((Go.bits .and .u64 (a0 / 2) 6148914691236517205) + (Go.bits .and .u64 a0 6148914691236517205))) / 4) 3689348814741910323) + (Go.bits .and .u64 (IntKind.u64.wrap ((Go.bits .and .u64 (a0 / 2) 6148914691236517205) + (Go.bits .and .u64 a0 6148914691236517205))) 3689348814741910323))))) 1085102592571150095) + ((Go.bits .and .u64 (IntKind.u64.wrap (((IntKind.u64.wrap ((Go.bits .and .u64 ((IntKind.u64.wrap ((Go.bits .and .u64 (a0 / 2) 6148914691236517205) + (Go.bits .and .u64 a0 6148914691236517205))) / 4) 3689348814741910323) + (Go.bits .and .u64 (IntKind.u64.wrap ((Go.bits .and .u64 (a0 / 2) 6148914691236517205) + (Go.bits .and .u64 a0 6148914691236517205))) 3689348814741910323))) / 16) + (IntKind.u64.wrap ((Go.bits .and .u64 ((IntKind.u64.wrap ((Go.bits .and .u64 (a0 / 2) 6148914691236517205) + (Go.bits .and .u64 a0 6148914691236517205))) / 4) 3689348814741910323) + (Go.bits .and .u64 (IntKind.u64.wrap ((Go.bits .and .u64 (a0 / 2) 6148914691236517205) + (Go.bits .and .u64 a0 6148914691236517205))) 3689348814741910323))))) 1085102592571150095) / 256))) / 65536))) + ((IntKind.u64.wrap ((IntKind.u64.wrap ((Go.bits .and .u64 (IntKind.u64.wrap (((IntKind.u64.wrap ((Go.bits .and .u64 ((IntKind.u64.wrap ((Go.bits .and .u64 (a0 / 2) 6148914691236517205) + (Go.bits .and .u64 a0 6148914691236517205))) / 4) 3689348814741910323) + (Go.bits .and .u64 (IntKind.u64.wrap ((Go.bits .and .u64 (a0 / 2) 6148914691236517205) + (Go.bits .and .u64 a0 6148914691236517205))) 3689348814741910323))) / 16) + (IntKind.u64.wrap ((Go.bits .and .u64 ((IntKind.u64.wrap ((Go.bits .and .u64 (a0 / 2) 6148914691236517205) + (Go.bits .and .u64 a0 6148914691236517205))) / 4) 3689348814741910323) + (Go.bits .and .u64 (IntKind.u64.wrap ((Go.bits .and .u64 (a0 / 2) 6148914691236517205) + (Go.bits .and .u64 a0 6148914691236517205))) 3689348814741910323))))) 1085102592571150095) + ((Go.bits .and .u64 (IntKind.u64.wrap (((IntKind.u64.wrap ((Go.bits .and .u64 ((IntKind.u64.wrap ((Go.bits .and .u64 (a0 / 2) 6148914691236517205) + (Go.bits .and .u64 a0 6148914691236517205))) / 4) 3689348814741910323) + (Go.bits .and .u64 (IntKind.u64.wrap ((Go.bits .and .u64 (a0 / 2) 6148914691236517205) + (Go.bits .and .u64 a0 6148914691236517205))) 3689348814741910323))) / 16) + (IntKind.u64.wrap ((Go.bits .and .u64 ((IntKind.u64.wrap ((Go.bits .and .u64 (a0 / 2) 6148914691236517205) + (Go.bits .and .u64 a0 6148914691236517205))) / 4) 3689348814741910323) + (Go.bits .and .u64 (IntKind.u64.wrap ((Go.bits .and .u64 (a0 / 2) 6148914691236517205) + (Go.bits .and .u64 a0 6148914691236517205))) 3689348814741910323))))) 1085102592571150095) / 256))) + ((IntKind.u64.wrap ((Go.bits .and .u64 (IntKind.u64.wrap (((IntKind.u64.wrap ((Go.bits .and .u64 ((IntKind.u64.wrap ((Go.bits .and .u64 (a0 / 2) 6148914691236517205) + (Go.bits .and .u64 a0 6148914691236517205))) / 4) 3689348814741910323) + (Go.bits .and .u64 (IntKind.u64.wrap ((Go.bits .and .u64 (a0 / 2) 6148914691236517205) + (Go.bits .and .u64 a0 6148914691236517205))) 3689348814741910323))) / 16) + (IntKind.u64.wrap ((Go.bits .and .u64 ((IntKind.u64.wrap ((Go.bits .and .u64 (a0 / 2) 6148914691236517205) + (Go.bits .and .u64 a0 6148914691236517205))) / 4) 3689348814741910323) + (Go.bits .and .u64 (IntKind.u64.wrap ((Go.bits .and .u64 (a0 / 2) 6148914691236517205) + (Go.bits .and .u64 a0 6148914691236517205))) 3689348814741910323))))) 1085102592571150095) + ((Go.bits .and .u64 (IntKind.u64.wrap (((IntKind.u64.wrap ((Go.bits .and .u64 ((IntKind.u64.wrap ((Go.bits .and .u64 (a0 / 2) 6148914691236517205) + (Go.bits .and .u64 a0 6148914691236517205))) / 4) 3689348814741910323) + (Go.bits .and .u64 (IntKind.u64.wrap ((Go.bits .and .u64 (a0 / 2) 6148914691236517205) + (Go.bits .and .u64 a0 6148914691236517205))) 3689348814741910323))) / 16) + (IntKind.u64.wrap ((Go.bits .and .u64 ((IntKind.u64.wrap ((Go.bits .and .u64 (a0 / 2) 6148914691236517205) + (Go.bits .and .u64 a0 6148914691236517205))) / 4) 3689348814741910323) + (Go.bits .and .u64 (IntKind.u64.wrap ((Go.bits .and .u64 (a0 / 2) 6148914691236517205) + (Go.bits .and .u64 a0 6148914691236517205))) 3689348814741910323))))) 1085102592571150095) / 256))) / 65536))) / 4294967296)))) 127)) = some r := h
  clear h
  obtain rfl := Option.some.inj H
  go_enter Try.func67, Try.ntmps67
  go_wp2
  go_ret
  exact ⟨by first | rfl | (simp; done) | (simp [*]; done), by repeat (first | exact Drawn0.refl _ | apply Drawn0.step)⟩

/-! ### bits_OnesCount: function 42 -/
def bits_OnesCount.f (a0 : Int) : Option (Int) := (bits_OnesCount64.f a0).bind fun t109 => (some t109)
set_option maxHeartbeats 8000000 in
set_option maxRecDepth 100000 in
theorem bits_OnesCount.calls (a0 : Int) (r : Int) (w : World) (h : bits_OnesCount.f a0 = some r) :
    Calls Try.prog 42 #[.int .u64 a0] w fun e w' => e = .returned (.int .i64 r) ∧ Drawn0 w w' := by
  have H : ((bits_OnesCount64.f a0).bind fun t109 => (some t109)) = some r := h
  clear h
  replace H := Option.bind_eq_some_iff.mp H
  obtain ⟨t109, A20, H⟩ := H
  replace H : (some t109) = some r := H
  have A2 := Aside0.mk A20
  clear A20
  obtain rfl := Option.some.inj H
  go_enter Try.func42, Try.ntmps42
  go_wp2_with (first | ((with_reducible refine gate_callee (f := 67) rfl ?_); refine goesL_ (some 7) rfl rfl Try.func67 (by kernel_rfl) rfl #[.int .u64 a0] rfl (by (try simp only [List.map_toArray, List.map_cons, List.map_nil]); first | done | rfl | (simp only [List.length_drop, List.length_take]; rfl)) ?_; (with_reducible refine (bits_OnesCount64.calls a0 t109 _ A2.out).mono ?_); rintro e w' ⟨rfl, ⟨nd, rfl⟩⟩; refine ⟨_, rfl, ?_⟩))
  go_ret
  exact ⟨by first | rfl | (simp; done) | (simp [*]; done), by repeat (first | exact Drawn0.refl _ | apply Drawn0.step)⟩


/-- How many spots. -/
def pop : Nat → Nat → Nat
  | 0, _ => 0
  | n + 1, x => x % 2 + pop n (x / 2)
theorem ones_table : (List.range 512).all (fun x => bits_OnesCount64.f (x : Int) == some (pop 9 x : Int)) = true := by decide +kernel
theorem ones_calls (x : Nat) (hx : x < 512) (w : World) : Calls Try.prog 42 #[.int .u64 x] w fun e w' => e = .returned (.int .i64 (pop 9 x)) ∧ Drawn0 w w' := by
  have h := List.all_eq_true.1 ones_table x (List.mem_range.2 hx)
  have h := eq_of_beq h
  exact bits_OnesCount.calls x (pop 9 x) w (by unfold bits_OnesCount.f; rw [h]; rfl)
end Go.Proofs.Ytbjpjjokamaliaa.A

/- The danger of a position. -/
namespace Go.Proofs.Ytbjpjjokamaliaa.A
open Go.RowKit Go.Proofs.YtbjpjjokamaliaaW.PrintWords Go.Proofs.YtbjpjjokamaliaaW.PrintMore

/-- What a line adds to the danger. -/
def dang1 (m p d : Nat) (x : Int) : Int := if x.toNat &&& d = 0 then 2 ^ (m - pop 9 (less x.toNat p)) else 0
def dangL (m p d : Nat) : List Int → Int
  | [] => 0
  | x :: l => dang1 m p d x + dangL m p d l
theorem pow_bd {k : Nat} (h : k ≤ 9) : (0 : Int) ≤ 2 ^ k ∧ (2 : Int) ^ k ≤ 512 := by
  have h : (2 : Nat) ^ k ≤ 512 := Nat.pow_le_pow_right (n := 2) (show 0 < 2 by decide) h
  have h2 : (((2 : Nat) ^ k : Nat) : Int) ≤ ((512 : Nat) : Int) := Int.ofNat_le.2 h
  have h3 : (0 : Int) ≤ (((2 : Nat) ^ k : Nat) : Int) := Int.natCast_nonneg _
  rw [Int.natCast_pow] at h2 h3
  exact ⟨h3, h2⟩
theorem dang1_bd {m p d : Nat} (h9 : m ≤ 9) (x : Int) : 0 ≤ dang1 m p d x ∧ dang1 m p d x ≤ 512 := by
  unfold dang1
  split
  · exact pow_bd (by omega)
  · omega
theorem dangL_bd {m p d : Nat} (h9 : m ≤ 9) : ∀ l : List Int, 0 ≤ dangL m p d l ∧ dangL m p d l ≤ 512 * l.length
  | [] => by simp [dangL]
  | x :: l => by
    have h1 := dang1_bd (p := p) (d := d) h9 x
    have h2 := dangL_bd (p := p) (d := d) h9 l
    simp only [dangL, List.length_cons]
    omega
theorem dangL_snoc (m p d : Nat) (x : Int) : ∀ l : List Int, dangL m p d (l ++ [x]) = dangL m p d l + dang1 m p d x
  | [] => by simp [dangL]
  | y :: l => by simp [dangL, dangL_snoc m p d x l]; omega
theorem take_snoc' {l : List Int} {k : Nat} (h : k < l.length) : l.take (k + 1) = l.take k ++ [l.getD k 0] := by
  rw [List.take_succ_eq_append_getElem h, List.getD_eq_getElem?_getD, List.getElem?_eq_getElem h]; rfl
theorem pop_le_table : (List.range 10).all (fun m => (List.range 512).all fun x => decide (2 ^ m ≤ x) || decide (pop 9 x ≤ m)) = true := by decide +kernel
theorem pop_le {m x : Nat} (hm : m ≤ 9) (hx : x < 2 ^ m) : pop 9 x ≤ m := by
  have h1 := List.all_eq_true.1 pop_le_table m (List.mem_range.2 (by omega))
  have h2 : x < 512 := Nat.lt_of_lt_of_le hx (Nat.pow_le_pow_right (show 0 < 2 by decide) hm)
  have h3 := List.all_eq_true.1 h1 x (List.mem_range.2 h2)
  simp at h3
  omega

theorem ones_quiet (x : Nat) (hx : x < 512) (w : World) : Calls Try.prog 42 #[.int .u64 x] w fun e w' => e = .returned (.int .i64 (pop 9 x)) ∧ ∃ n, w' = w.drewN n :=
  (ones_calls x hx w).mono fun _ _ ⟨h1, h2⟩ => ⟨h1, h2.out⟩

set_option maxRecDepth 100000 in
set_option maxHeartbeats 1600000 in
theorem danger_calls (m p d : Nat) (h9 : m ≤ 9) (hp : p < 2 ^ m) (hd : d < 2 ^ m) (l : List Int) (hl : okL m l) (h12 : l.length ≤ 12) (A : Option Addr) (c : Nat) (w : World) (hr : Kd.C (Kd.int .i64) w A l.length l) :
    Calls Try.prog 44 #[.agg #[.int .i64 m, .slice A l.length c], .agg #[.int .i64 p, .int .i64 d]] w fun e w' => e = .returned (.int .i64 (dangL m p d l)) ∧ Below w.heap.size w w' := by
  have HR := Aside0.mk hr
  have HL := Aside0.mk hl
  have HP := Aside0.mk hp
  have HD := Aside0.mk hd
  clear hr hl hp hd
  have hmax : l.length ≤ 9223372036854775807 := by omega
  go_enter Try.func44, Try.ntmps44
  go_wp2
  have HW : Aside0 (Below w.heap.size w ((w.alloc (.cells #[.int .i64 m, .slice A l.length c] 61)).alloc (.cells #[.int .i64 p, .int .i64 d] 63))) := ⟨below_alloc (below_alloc (Below.refl _ _) _) _⟩
  have HC := Aside0.mk (blks2 (Below.refl _ ((w.alloc (.cells #[.int .i64 m, .slice A l.length c] 61)).alloc (.cells #[.int .i64 p, .int .i64 d] 63))))
  go_loopg [5, 7, 11] l.length (fun gg v5 _ v11 wr => ∃ k : Nat, k ≤ l.length ∧ l.length - k ≤ gg ∧ v11 = .int .i64 k ∧ v5 = .int .i64 (dangL m p d (l.take k)) ∧ Aside0 (Below w.heap.size w wr ∧ wr.heap[w.heap.size]? = some (.cells #[.int .i64 m, .slice A l.length c] 61 (0, 0)) ∧ wr.heap[w.heap.size + 1]? = some (.cells #[.int .i64 p, .int .i64 d] 63 (0, 0))))
  case atStart => exact ⟨0, Nat.zero_le _, by omega, rfl, rfl, ⟨HW.out, HC.out.1, HC.out.2⟩⟩
  case round =>
    obtain ⟨k, hk, hgg, rfl, rfl, HB⟩ := hrel
    obtain ⟨hb, hk0, hk1⟩ := HB.out
    obtain ⟨c1, c2, _, _⟩ := cells2 hk0
    obtain ⟨c3, c4, _, _⟩ := cells2 hk1
    clear hk0 hk1 HW HC
    by_cases hlt : k < l.length
    · have hltz : (k : Int) < (l.length : Int) := by omega
      obtain ⟨ad, rfl, hcell⟩ := Kd.at_int (Kd.C_below HR.out hb) (k : Int) (by omega) (by omega)
      rw [Int.toNat_natCast] at hcell
      have hrd : rd l (k : Int) = l.getD k 0 := by simp [rd]
      rw [hrd] at hcell
      obtain ⟨x1, x2⟩ := HL.out _ (getD_mem 0 hlt)
      have HT := Aside0.mk (take_snoc' hlt)
      clear hrd hb
      generalize hy : l.getD k 0 = y at hcell x1 x2 HT
      obtain ⟨q, rfl⟩ := Int.eq_ofNat_of_zero_le (show 0 ≤ y by omega)
      have hq : q < 2 ^ m := by exact_mod_cast x2
      have HQ := Aside0.mk hq
      clear hy x1 x2
      have a1 := and64 q d (lt62 hq (by omega)) (lt62 HD.out (by omega))
      have a2 := andNot64 q p (lt62 hq (by omega)) (lt62 HP.out (by omega))
      clear hq
      by_cases hz : q &&& d = 0
      · have t1 : (((q &&& d : Nat) : Int) == 0) = true := by rw [hz]; rfl
        have HZ := Aside0.mk hz
        clear hz
        have hz2 : less q p < 512 := Nat.lt_of_lt_of_le (less_lt HQ.out) (Nat.pow_le_pow_right (show 0 < 2 by decide) h9)
        have hpl := pop_le h9 (less_lt (b := p) HQ.out)
        obtain ⟨z, hz⟩ : ∃ z, less q p = z := ⟨_, rfl⟩
        rw [hz] at a2 hz2 hpl
        have HLZ := Aside0.mk hz
        clear hz
        obtain ⟨o, ho⟩ : ∃ o, pop 9 z = o := ⟨_, rfl⟩
        rw [ho] at hpl
        have HPO := Aside0.mk ho
        clear ho
        have HO := fun W => ones_quiet z hz2 W
        rw [HPO.out] at HO
        have HO' := Aside0.mk HO
        clear HO
        have u1 : IntKind.u64.wrap (z : Int) = (z : Int) := by rw [IntKind.wrap_u64]; omega
        have u2 : IntKind.i64.wrap ((m : Int) - (o : Int)) = (m : Int) - (o : Int) := by rw [IntKind.wrap_i64]; omega
        have u3 : (0 : Int) ≤ (m : Int) - (o : Int) := by omega
        go_wp2
        go_quiet (((go_at_call 42; exact Calls.quiet_of (HO'.out _))))
        go_wp2
        go_roundg (l.length - (k + 1))
        case measure => omega
        case rel =>
          refine ⟨k + 1, by omega, by omega, by go_num, ?_, ⟨pw_below_drewN HB.out.1 _, HB.out.2.1, HB.out.2.2⟩⟩
          rw [HT.out, dangL_snoc, dang1, Int.toNat_natCast, if_pos HZ.out, HLZ.out, HPO.out]
          have b1 := dangL_bd (p := p) (d := d) h9 (l.take k)
          have b2 := pow_bd (show m - o ≤ 9 by omega)
          have b3 : (l.take k).length ≤ k := List.length_take_le _ _
          rw [wrap64_two (by omega), wrap64_id (by omega) (by omega)]
      · have t1 : (((q &&& d : Nat) : Int) == 0) = false := by rw [beq_eq_false_iff_ne]; omega
        have HZ := Aside0.mk hz
        clear hz
        go_wp2
        go_roundg (l.length - (k + 1))
        case measure => omega
        case rel =>
          refine ⟨k + 1, by omega, by omega, by go_num, ?_, HB⟩
          rw [HT.out, dangL_snoc, dang1, Int.toNat_natCast, if_neg HZ.out, Int.add_zero]
    · have : k = l.length := by omega
      subst this
      go_wp2
      go_ret
      refine ⟨?_, HB.out.1⟩
      rw [List.take_length]; rfl
end Go.Proofs.Ytbjpjjokamaliaa.A

/- Danger and Needs, as they are called. -/
namespace Go.Proofs.Ytbjpjjokamaliaa.A
open Go.RowKit Go.Proofs.YtbjpjjokamaliaaW.PrintWords Go.Proofs.YtbjpjjokamaliaaW.PrintMore

theorem okF_len {m : Int} {l : List Int} (h : okF m l = 0) : l.length ≤ 12 := by
  unfold okF at h
  split at h
  · cases h
  split at h
  · cases h
  · omega
/-- The danger of a position that is written. -/
def dangS (l : List Int) (s : ByteArray) : Int := dangL s.size (msk 119 s s.size) (msk 100 s s.size) l

set_option maxRecDepth 100000 in
set_option maxHeartbeats 800000 in
theorem Danger_err (m : Int) (A : Option Addr) (c : Nat) (l : List Int) (s : ByteArray) (w : World) (hr : Kd.C (Kd.int .i64) w A l.length l) (he : okP m l s ≠ 0) :
    Calls Try.prog 21 #[.int .i64 m, .slice A l.length c, .string s] w fun e w' => e = .returned (.tuple #[.int .i64 0, .int .i64 (okP m l s)]) ∧ Below w.heap.size w w' := by
  have HR := Aside0.mk hr
  have HE := Aside0.mk he
  obtain ⟨E, hE⟩ : ∃ E, okP m l s = E := ⟨_, rfl⟩
  rw [hE] at he ⊢
  have HV := Aside0.mk hE
  have hg : (E != 0) = true := by rw [bne_iff_ne]; exact he
  clear hr hE he
  go_enter Try.func21, Try.ntmps21
  go_wp2_with (go_at_call 43; refine (placed_err m A c l s _ HR.out HE.out).mono ?_; rw [HV.out]; rintro e w' ⟨⟨x, A2, n2, c2, rfl⟩, hb'⟩; have HB := Aside0.mk hb'; clear hb')
  go_ret2
  exact ⟨rfl, below_alloc (below_alloc HB.out _) _⟩

set_option maxRecDepth 100000 in
set_option maxHeartbeats 800000 in
theorem Danger_good (m : Int) (A : Option Addr) (c : Nat) (l : List Int) (s : ByteArray) (w : World) (hr : Kd.C (Kd.int .i64) w A l.length l) (hP : okP m l s = 0) :
    Calls Try.prog 21 #[.int .i64 m, .slice A l.length c, .string s] w fun e w' => e = .returned (.tuple #[.int .i64 (dangS l s), .int .i64 0]) ∧ Below w.heap.size w w' := by
  have HR := Aside0.mk hr
  have HE := Aside0.mk hP
  obtain ⟨hF, hs⟩ := okP_parts hP
  subst hs
  have HF := Aside0.mk hF
  have H9 := Aside0.mk (okF_m hF)
  clear hr hP hF
  go_enter Try.func21, Try.ntmps21
  go_wp2_with (first
    | (go_at_call 43; refine (placed_good s.size A c l s _ HR.out HE.out).mono ?_; rintro e w' ⟨rfl, hb'⟩; have HB := Aside0.mk hb'; clear hb')
    | (go_at_call 44; refine (danger_calls s.size _ _ (by have := H9.out; omega) (msk_lt _ _ _) (msk_lt _ _ _) l (okF_L HF.out) (okF_len HF.out) A c _ (Kd.C_below HR.out (below_alloc (below_alloc HB.out _) _))).mono ?_; rintro e w2 ⟨rfl, hb2⟩; have HB2 := Aside0.mk hb2; clear hb2))
  go_ret2
  exact ⟨rfl, below_then (below_alloc (below_alloc HB.out _) _) (below_alloc (below_alloc HB.out _) _).size HB2.out⟩

def ambush_Danger.f (a0 : Int) (l1 : List Int) (a2 : ByteArray) : Option (Int × Int) :=
  some (if okP a0 l1 a2 = 0 then (dangS l1 a2, 0) else (0, okP a0 l1 a2))
theorem ambush_Danger.calls (a0 : Int) (A1 : Option Addr) (c1 : Nat) (l1 : List Int) (a2 : ByteArray) (r1 : Int) (r2 : Int) (w : World) (hr1 : Kd.C (Kd.int .i64) w A1 l1.length l1) (_hc1 : l1.length ≤ c1) (h : ambush_Danger.f a0 l1 a2 = some (r1, r2)) :
    Calls Try.prog 21 #[.int .i64 a0, .slice A1 l1.length c1, .string a2] w fun e w' => e = .returned (.tuple #[.int .i64 r1, .int .i64 r2]) ∧ Below w.heap.size w w' := by
  unfold ambush_Danger.f at h
  by_cases h0 : okP a0 l1 a2 = 0
  · rw [if_pos h0] at h
    cases h
    exact Danger_good a0 A1 c1 l1 a2 w hr1 h0
  · rw [if_neg h0] at h
    cases h
    exact Danger_err a0 A1 c1 l1 a2 w hr1 h0

/-! ### Needs -/
/-- The least number of spots, after the first k sets. -/
def needL (l : List Int) (m : Nat) : Nat → Nat
  | 0 => m
  | k + 1 => if pop 9 k < needL l m k ∧ winZ l m k 0 false = 1 then pop 9 k else needL l m k
theorem needL_le (l : List Int) (m : Nat) : ∀ k, needL l m k ≤ m
  | 0 => Nat.le_refl _
  | k + 1 => by
    have := needL_le l m k
    rw [needL]; split <;> omega

set_option maxRecDepth 100000 in
set_option maxHeartbeats 800000 in
theorem Needs_err (m : Int) (A : Option Addr) (c : Nat) (l : List Int) (w : World) (hr : Kd.C (Kd.int .i64) w A l.length l) (he : okF m l ≠ 0) :
    Calls Try.prog 20 #[.int .i64 m, .slice A l.length c] w fun e w' => e = .returned (.tuple #[.int .i64 0, .int .i64 (okF m l)]) ∧ Below w.heap.size w w' := by
  have HR := Aside0.mk hr
  have HE := Aside0.mk he
  obtain ⟨E, hE⟩ : ∃ E, okF m l = E := ⟨_, rfl⟩
  rw [hE] at he ⊢
  have HV := Aside0.mk hE
  have hg : (E != 0) = true := by rw [bne_iff_ne]; exact he
  clear hr hE
  go_enter Try.func20, Try.ntmps20
  go_wp2_with (go_at_call 41; refine (read_bad m A c l E _ HR.out HV.out he).mono ?_; rintro e w' ⟨rfl, hb'⟩; have HB := Aside0.mk hb'; clear hb')
  go_ret2
  exact ⟨rfl, below_alloc HB.out _⟩

set_option maxRecDepth 100000 in
set_option maxHeartbeats 800000 in
theorem Needs_none (m : Int) (A : Option Addr) (c : Nat) (w : World) (hr : Kd.C (Kd.int .i64) w A ([] : List Int).length []) (he : okF m [] = 0) :
    Calls Try.prog 20 #[.int .i64 m, .slice A ([] : List Int).length c] w fun e w' => e = .returned (.tuple #[.int .i64 0, .int .i64 10]) ∧ Below w.heap.size w w' := by
  have HR := Aside0.mk hr
  have HE := Aside0.mk he
  clear hr he
  go_enter Try.func20, Try.ntmps20
  go_wp2_with (go_at_call 41; refine (read_ok m A c [] _ HR.out HE.out).mono ?_; rintro e w' ⟨rfl, hb'⟩; have HB := Aside0.mk hb'; clear hb')
  go_ret2
  exact ⟨rfl, below_alloc HB.out _⟩

theorem winner_at0 {l : List Int} {m : Nat} (h9 : m ≤ 9) (hl : okL m l) {A : Option Addr} {c b p : Nat} {w0 w : World} (hB : Below w0.heap.size w0 w) (hb : w0.heap.size ≤ b) (hr : Kd.C (Kd.int .i64) w0 A l.length l) (hm : Memo l m w b) (hp : p < 2 ^ m) :
    Calls Try.prog 40 #[.agg #[.int .i64 m, .slice A l.length c], .agg #[.int .i64 p, .int .i64 0, .int .i64 2], .map (some b)] w fun e w' => e = .returned (.int .i64 (winZ l m p 0 false)) ∧ Memo l m w' b ∧ Keep b w w' :=
  winner_at h9 hl (nx := false) rfl hB hb hr hm hp (d := 0) (Nat.two_pow_pos m)

/-- What is held while all sets are gone through. -/
structure NeedI (l : List Int) (m : Nat) (A : Option Addr) (c : Nat) (w : World) (g : Nat) (W : World) : Prop where
  below : Below w.heap.size w W
  memo : Memo l m W (g + 1)
  c0 : W.cell? ⟨g, 0, none⟩ = some (.int .i64 m)
  c1 : W.cell? ⟨g, 1, none⟩ = some (.slice A l.length c)
  big : w.heap.size ≤ g
theorem NeedI.next {l : List Int} {m : Nat} {A : Option Addr} {c : Nat} {w : World} {g : Nat} {W W' : World} (h : NeedI l m A c w g W) (hb : Below W.heap.size W W') : NeedI l m A c w g W' :=
  ⟨below_then h.below h.below.size hb, h.memo.keep hb, pw_cell_below hb h.c0, pw_cell_below hb h.c1, h.big⟩
theorem NeedI.nextK {l : List Int} {m : Nat} {A : Option Addr} {c : Nat} {w : World} {g : Nat} {W W' : World} (h : NeedI l m A c w g W) (hk : Keep (g + 1) W W') (hm : Memo l m W' (g + 1)) : NeedI l m A c w g W' :=
  ⟨h.below.trans (hk.below (by have := h.big; omega) h.below.size), hm, keep_cell hk (by show g ≠ g + 1; omega) h.c0, keep_cell hk (by show g ≠ g + 1; omega) h.c1, h.big⟩

set_option maxRecDepth 100000 in
set_option maxHeartbeats 1600000 in
theorem Needs_good (m : Nat) (A : Option Addr) (c : Nat) (l : List Int) (w : World) (hr : Kd.C (Kd.int .i64) w A l.length l) (he : okF m l = 0) (hne : l ≠ []) :
    Calls Try.prog 20 #[.int .i64 m, .slice A l.length c] w fun e w' => e = .returned (.tuple #[.int .i64 (needL l m (2 ^ m)), .int .i64 0]) ∧ Below w.heap.size w w' := by
  have HR := Aside0.mk hr
  have HE := Aside0.mk he
  have H9 := Aside0.mk (okF_m he)
  have hl0 : ((l.length : Int) == 0) = false := by
    rw [beq_eq_false_iff_ne]
    have := List.length_pos_iff.2 hne
    omega
  obtain ⟨N, hN⟩ : ∃ N, 2 ^ m = N := ⟨_, rfl⟩
  have HN := Aside0.mk hN
  have h512 : N ≤ 512 := by
    have h9 : m ≤ 9 := by have := okF_m he; omega
    rw [← hN]; exact Nat.pow_le_pow_right (show 0 < 2 by decide) h9
  have e1 : wrap64 (2 ^ min m 64) = (N : Int) := by rw [Nat.min_eq_left (by have := okF_m he; omega), wrap64_two (by have := okF_m he; omega), ← hN, Int.natCast_pow]; rfl
  rw [hN]
  clear hr he hne hN
  have hmm := @run_makeMap Try.prog
  go_enter Try.func20, Try.ntmps20
  go_wp2_with (go_at_call 41; refine (read_ok m A c l _ HR.out HE.out).mono ?_; rintro e w' ⟨rfl, hb'⟩; have HB := Aside0.mk hb'; clear hb')
  have HI : Aside0 (NeedI l m A c w w'.heap.size ((w'.alloc (.cells #[.int .i64 m, .slice A l.length c] 61)).alloc (.map #[] 0))) := by
    have h0 : ((w'.alloc (.cells #[.int .i64 m, .slice A l.length c] 61)).alloc (.map #[] 0)).heap[w'.heap.size]? = some (.cells #[.int .i64 m, .slice A l.length c] 61 (0, 0)) := (blks2 (Below.refl _ _)).1
    exact ⟨⟨below_alloc (below_alloc HB.out _) _, Memo.new _ (by simp), (cells2 h0).1, (cells2 h0).2.1, HB.out.size⟩⟩
  generalize hg : w'.heap.size = g at HI
  rw [e1]
  clear e1
  go_loopg [9, 10, 11, 30] N (fun gg v9 _ _ v30 wr => ∃ k : Nat, k ≤ N ∧ N - k ≤ gg ∧ v30 = .int .i64 k ∧ v9 = .int .i64 (needL l m k) ∧ Aside0 (NeedI l m A c w g wr))
  case atStart => exact ⟨0, Nat.zero_le _, by omega, rfl, rfl, HI⟩
  case round =>
    clear HI HB
    clear hg
    obtain ⟨k, hk, hgg, rfl, rfl, HI⟩ := hrel
    have c0 := HI.out.c0
    have c1 := HI.out.c1
    by_cases hlt : k < N
    · have hltz : (k : Int) < (N : Int) := by omega
      have HK : Aside0 (k < 2 ^ m) := ⟨by rw [HN.out]; exact hlt⟩
      have hk5 : k < 512 := by omega
      obtain ⟨o, ho⟩ : ∃ o, pop 9 k = o := ⟨_, rfl⟩
      have HO := Aside0.mk ho
      obtain ⟨q, hq⟩ : ∃ q, needL l m k = q := ⟨_, rfl⟩
      have HQ := Aside0.mk hq
      rw [hq]
      clear ho hq
      by_cases hoq : o < q
      · have hoz : (o : Int) < (q : Int) := by omega
        go_wp2_with (first
          | (go_at_call 42; refine (ones_calls k hk5 _).mono ?_; rw [HO.out]; rintro e w2 ⟨rfl, hb2⟩; have HI2 := Aside0.mk (HI.out.next hb2.below); clear hb2 c0 c1; have c0 := HI2.out.c0; have c1 := HI2.out.c1)
          | (go_at_call 40; refine (winner_at0 (by have := H9.out; omega) (okF_L HE.out) HI2.out.below (by have := HI2.out.big; omega) HR.out HI2.out.memo HK.out).mono ?_; rintro e w3 ⟨rfl, hm3, hk3⟩; have HI3 := Aside0.mk (HI2.out.nextK hk3 hm3); clear hm3 hk3))
        · go_roundg (N - (k + 1))
          case measure => omega
          case rel =>
            have hw : winZ l m k 0 false = 1 := eq_of_beq (by assumption)
            refine ⟨k + 1, by omega, by omega, by go_num, ?_, HI3⟩
            rw [needL, HO.out, HQ.out, if_pos ⟨hoq, hw⟩]
        · go_roundg (N - (k + 1))
          case measure => omega
          case rel =>
            have hw : (winZ l m k 0 false == 1) = false := by assumption
            refine ⟨k + 1, by omega, by omega, by go_num, ?_, HI3⟩
            rw [needL, HO.out, HQ.out, if_neg (fun h => by rw [h.2] at hw; cases hw)]
      · have hoz : ¬ (o : Int) < (q : Int) := by omega
        go_wp2_with (first
          | (go_at_call 42; refine (ones_calls k hk5 _).mono ?_; rw [HO.out]; rintro e w2 ⟨rfl, hb2⟩; have HI2 := Aside0.mk (HI.out.next hb2.below); clear hb2 c0 c1))
        go_roundg (N - (k + 1))
        case measure => omega
        case rel =>
          refine ⟨k + 1, by omega, by omega, by go_num, ?_, HI2⟩
          rw [needL, HO.out, HQ.out, if_neg (fun h => hoq h.1)]
    · have hltz : ¬ (k : Int) < (N : Int) := by omega
      have : k = N := by omega
      have HK := Aside0.mk this
      clear this hlt
      go_wp2
      go_ret2
      exact ⟨by rw [← HK.out]; rfl, HI.out.below⟩

def ambush_Needs.f (a0 : Int) (l1 : List Int) : Option (Int × Int) :=
  some (if okF a0 l1 = 0 then if l1 = [] then (0, 10) else (needL l1 a0.toNat (2 ^ a0.toNat), 0) else (0, okF a0 l1))
theorem ambush_Needs.calls (a0 : Int) (A1 : Option Addr) (c1 : Nat) (l1 : List Int) (r1 : Int) (r2 : Int) (w : World) (hr1 : Kd.C (Kd.int .i64) w A1 l1.length l1) (_hc1 : l1.length ≤ c1) (h : ambush_Needs.f a0 l1 = some (r1, r2)) :
    Calls Try.prog 20 #[.int .i64 a0, .slice A1 l1.length c1] w fun e w' => e = .returned (.tuple #[.int .i64 r1, .int .i64 r2]) ∧ Below w.heap.size w w' := by
  unfold ambush_Needs.f at h
  by_cases h0 : okF a0 l1 = 0
  · rw [if_pos h0] at h
    obtain ⟨m, rfl⟩ := Int.eq_ofNat_of_zero_le (show 0 ≤ a0 by have := okF_m h0; omega)
    by_cases hl : l1 = []
    · rw [if_pos hl] at h
      subst hl
      cases h
      exact Needs_none _ A1 c1 w hr1 h0
    · rw [if_neg hl, Int.toNat_natCast] at h
      cases h
      exact Needs_good m A1 c1 l1 w hr1 h0 hl
  · rw [if_neg h0] at h
    cases h
    exact Needs_err a0 A1 c1 l1 w hr1 h0
end Go.Proofs.Ytbjpjjokamaliaa.A

/- Has every line both spots of some pair? -/
namespace Go.Proofs.Ytbjpjjokamaliaa.A
open Go.RowKit Go.Proofs.YtbjpjjokamaliaaW.PrintWords Go.Proofs.YtbjpjjokamaliaaW.PrintMore

/-- A pair of spots of a field of m spots. -/
def okPr (m : Nat) (q : S59) : Prop := 0 ≤ q.f0 ∧ q.f0 < m ∧ 0 ≤ q.f1 ∧ q.f1 < m
/-- The spots of a pair. -/
def setN (q : S59) : Nat := 2 ^ q.f0.toNat ||| 2 ^ q.f1.toNat
theorem setN_lt {m : Nat} {q : S59} (h : okPr m q) : setN q < 2 ^ m := by
  obtain ⟨h0, h1, h2, h3⟩ := h
  exact or_lt (Nat.pow_lt_pow_right (by decide) (by omega)) (Nat.pow_lt_pow_right (by decide) (by omega))
/-- Has a line both spots of a pair? -/
def inP (x : Int) (q : S59) : Bool := decide (less (setN q) x.toNat = 0)
/-- Has every line both spots of some pair? -/
def metB (l : List Int) (ps : List S59) : Bool := l.all fun x => ps.any (inP x)

set_option maxHeartbeats 400000 in
theorem set_calls (m : Nat) (h9 : m ≤ 9) (q : S59) (hq : okPr m q) (w : World) :
    Calls Try.prog 50 #[.agg #[.int .i64 q.f0, .int .i64 q.f1]] w fun e w' => e = .returned (.int .i64 (setN q : Nat)) ∧ Below w.heap.size w w' := by
  obtain ⟨a, b⟩ := q
  obtain ⟨h0, h1, h2, h3⟩ := hq
  simp only at h0 h1 h2 h3 ⊢
  obtain ⟨i, rfl⟩ := Int.eq_ofNat_of_zero_le h0
  obtain ⟨j, rfl⟩ := Int.eq_ofNat_of_zero_le h2
  have e : bits .or .i64 (wrap64 (2 ^ i)) (wrap64 (2 ^ j)) = ((setN ⟨i, j⟩ : Nat) : Int) := by
    rw [wrap64_two (by omega), wrap64_two (by omega)]
    have e1 : ((2 : Int) ^ i) = ((2 ^ i : Nat) : Int) := by simp
    have e2 : ((2 : Int) ^ j) = ((2 ^ j : Nat) : Int) := by simp
    rw [e1, e2, or64 _ _ (two_lt (by omega)) (two_lt (by omega))]
    rfl
  have E := Aside0.mk e
  clear e
  go_enter Try.func50, Try.ntmps50
  go_wp2
  go_quiet (fail)
  go_wp2
  go_ret
  exact ⟨by rw [← E.out]; rfl, pw_below_drewN (below_alloc (Below.refl _ _) _) _⟩

theorem enters68 : ∀ args w, (callFunc 68 args).run Try.prog w = .ok (.enter 68 args) w := enters_of Try.func68 (by kernel_rfl) rfl
theorem enters70 : ∀ args w, (callFunc 70 args).run Try.prog w = .ok (.enter 70 args) w := enters_of Try.func70 (by kernel_rfl) rfl

set_option maxHeartbeats 800000 in
theorem met11_pred (m : Nat) (h9 : m ≤ 9) (x : Nat) (hx : x < 2 ^ m) (ps : List S59) (hps : ∀ q ∈ ps, okPr m q) (g : Nat) (w : World) (hc : w.cell? ⟨g, 0, none⟩ = some (.int .i64 x)) :
    PredB 70 #[.pointer (some ⟨g, 0, none⟩)] (fun q : S59 => .agg #[.int .i64 q.f0, .int .i64 q.f1]) (fun q => inP x q) ps w := by
  intro W q hq hb
  have hcW := pw_cell_below hb hc
  have HB := Aside0.mk hb
  have HQ := Aside0.mk (hps q hq)
  have e : (bits .andNot .i64 ((setN q : Nat) : Int) (x : Int) == 0) = inP (x : Int) q := by
    rw [andNot64 _ _ (lt62 (setN_lt HQ.out) (by omega)) (lt62 hx (by omega))]
    unfold inP
    rw [Bool.eq_iff_iff, Int.toNat_natCast]; simp
  have EV := Aside0.mk e
  clear hb hc e hq hps hx
  show Calls Try.prog 70 #[.agg #[.int .i64 q.f0, .int .i64 q.f1], .pointer (some ⟨g, 0, none⟩)] W fun e w' => e = .returned (.bool (inP (x : Int) q)) ∧ Below w.heap.size w w'
  rw [← EV.out]
  go_enter Try.func70, Try.ntmps70
  go_wp2
  have HW := Aside0.mk (below_alloc (Below.refl W.heap.size W) (.cells #[.int .i64 q.f0, .int .i64 q.f1] 59))
  have hk : (W.alloc (.cells #[.int .i64 q.f0, .int .i64 q.f1] 59)).heap[W.heap.size]? = some (.cells #[.int .i64 q.f0, .int .i64 q.f1] 59 (0, 0)) := heap_alloc_new W _
  have hs0 : (fun w' : World => w'.cell? ⟨W.heap.size, 0, none⟩ = some (.int .i64 q.f0) ∧ w'.cell? ⟨W.heap.size, 1, none⟩ = some (.int .i64 q.f1) ∧ w'.cell? ⟨g, 0, none⟩ = some (.int .i64 x) ∧ Aside0 (Below W.heap.size W w')) ((W.alloc (.cells #[.int .i64 q.f0, .int .i64 q.f1] 59)).drew) :=
    ⟨(cells2 hk).1, (cells2 hk).2.1, pw_cell_below (below_alloc (Below.refl _ _) _) hcW, ⟨(below_alloc (Below.refl _ _) _).drew⟩⟩
  have HS0 := Aside0.mk hs0
  clear hs0 hk HW
  go_region_held3 (fun w' : World => w'.cell? ⟨W.heap.size, 0, none⟩ = some (.int .i64 q.f0) ∧ w'.cell? ⟨W.heap.size, 1, none⟩ = some (.int .i64 q.f1) ∧ w'.cell? ⟨g, 0, none⟩ = some (.int .i64 x) ∧ Aside0 (Below W.heap.size W w'))
    (first | exact HS0.out | (have hh := (by assumption : _ ∧ _ ∧ _ ∧ Aside0 (Below _ _ _)); exact ⟨pw_cell_below hb2 hh.1, pw_cell_below hb2 hh.2.1, pw_cell_below hb2 hh.2.2.1, ⟨below_then hh.2.2.2.out hh.2.2.2.out.size hb2⟩⟩))
    (first | (go_at_call 50; refine (set_calls m h9 q HQ.out _).mono ?_; rintro e w2 ⟨rfl, hb2⟩))
  go_wp2
  go_ret
  exact ⟨rfl, below_then HB.out HB.out.size (below_then HS0.out.2.2.2.out HS0.out.2.2.2.out.size hb2)⟩

set_option maxHeartbeats 800000 in
theorem met1_pred (m : Nat) (h9 : m ≤ 9) (l : List Int) (hl : okL m l) (A : Option Addr) (n c : Nat) (ps : List S59) (hps : ∀ q ∈ ps, okPr m q) (g : Nat) (w : World) (hc : w.cell? ⟨g, 0, none⟩ = some (.slice A n c)) (hr : Kd.C k59 w A n ps) :
    PredB 68 #[.pointer (some ⟨g, 0, none⟩)] (fun x => .int .i64 x) (fun x => !ps.any (inP x)) l w := by
  intro W x hx hb
  have hcW := pw_cell_below hb hc
  have hne : g < W.heap.size := World.block_lt_of_cell? W _ hcW
  have HB := Aside0.mk hb
  have HR := Aside0.mk (Kd.C_below hr hb)
  have HP := Aside0.mk hps
  obtain ⟨h1, h2⟩ := hl x hx
  obtain ⟨k, rfl⟩ := Int.eq_ofNat_of_zero_le (show 0 ≤ x by omega)
  have HK : Aside0 (k < 2 ^ m) := ⟨by exact_mod_cast h2⟩
  clear hb hc hx hl h1 h2 hr hps
  show Calls Try.prog 68 #[.int .i64 (k : Int), .pointer (some ⟨g, 0, none⟩)] W fun e w' => e = .returned (.bool (!ps.any (inP (k : Int)))) ∧ Below w.heap.size w w'
  go_enter Try.func68, Try.ntmps68
  go_wp2_with (go_at_call 69; refine (ContainsFunc_pair 70 #[.pointer (some ⟨W.heap.size, 0, none⟩)] (fun q => inP (k : Int) q) enters70 A n c ps _ (Kd.C_alloc HR.out _) ?s2).mono ?_; (case s2 => refine met11_pred m h9 k HK.out ps HP.out _ _ ?_; simp); rintro e w2 ⟨rfl, hb2⟩; have HB2 := Aside0.mk hb2; clear hb2)
  go_ret
  exact ⟨by first | rfl | simp, below_then HB.out HB.out.size (below_then (below_alloc (Below.refl _ _) _) (below_alloc (Below.refl _ _) _).size HB2.out)⟩

theorem metB_eq (l : List Int) (ps : List S59) : metB l ps = !(l.any fun x => !ps.any (inP x)) := by
  unfold metB
  rw [List.not_any_eq_all_not]
  simp

set_option maxHeartbeats 800000 in
theorem met_calls (m : Nat) (h9 : m ≤ 9) (l : List Int) (hl : okL m l) (A : Option Addr) (n c : Nat) (A2 : Option Addr) (n2 c2 : Nat) (ps : List S59) (hps : ∀ q ∈ ps, okPr m q) (w : World) (hr : Kd.C (Kd.int .i64) w A n l) (hr2 : Kd.C k59 w A2 n2 ps) :
    Calls Try.prog 49 #[.agg #[.int .i64 m, .slice A n c], .slice A2 n2 c2] w fun e w' => e = .returned (.bool (metB l ps)) ∧ Below w.heap.size w w' := by
  have HR := Aside0.mk hr
  have HR2 := Aside0.mk hr2
  have HP := Aside0.mk hps
  have HL := Aside0.mk hl
  clear hr hr2 hps hl
  rw [metB_eq]
  go_enter Try.func49, Try.ntmps49
  go_wp2_with (go_at_call 59; refine (ContainsFunc_int 68 #[.pointer (some ⟨w.heap.size + 1, 0, none⟩)] (fun x => !ps.any (inP x)) enters68 A n c l _ (Kd.C_alloc (Kd.C_alloc HR.out _) _) ?s2).mono ?_; (case s2 => refine met1_pred m h9 l HL.out A2 n2 c2 ps HP.out _ _ ?_ (Kd.C_alloc (Kd.C_alloc HR2.out _) _); simp); rintro e w2 ⟨rfl, hb2⟩; have HB2 := Aside0.mk hb2; clear hb2)
  go_ret
  exact ⟨by first | rfl | simp, btrans2 HB2.out⟩
end Go.Proofs.Ytbjpjjokamaliaa.A

/- The search for a pairing, and what is held while it goes on. -/
namespace Go.Proofs.Ytbjpjjokamaliaa.A
open Go.RowKit Go.Proofs.YtbjpjjokamaliaaW.PrintWords Go.Proofs.YtbjpjjokamaliaaW.PrintMore

/-- The first of n numbers that gives something. -/
def firstN {α : Type} (f : Nat → Option α) : Nat → Option α
  | 0 => none
  | k + 1 => match firstN f k with
    | some r => some r
    | none => f k
theorem firstN_succ_none {α : Type} {f : Nat → Option α} {k : Nat} (h : firstN f k = none) : firstN f (k + 1) = f k := by rw [firstN, h]
theorem firstN_hit {α : Type} {f : Nat → Option α} {k : Nat} {r : α} (h : firstN f k = some r) : ∀ j, firstN f (k + j) = some r
  | 0 => h
  | j + 1 => by
    show firstN f ((k + j) + 1) = some r
    rw [firstN, firstN_hit h j]
theorem firstN_some {α : Type} {f : Nat → Option α} {k m : Nat} {r : α} (hk : k < m) (h0 : firstN f k = none) (h1 : f k = some r) : firstN f m = some r := by
  have h2 : firstN f (k + 1) = some r := by rw [firstN_succ_none h0, h1]
  have := firstN_hit h2 (m - (k + 1))
  rwa [show k + 1 + (m - (k + 1)) = m by omega] at this
theorem firstN_none {α : Type} {f : Nat → Option α} : ∀ k, (∀ i, i < k → f i = none) → firstN f k = none
  | 0, _ => rfl
  | k + 1, h => by rw [firstN_succ_none (firstN_none k fun i hi => h i (by omega))]; exact h k (by omega)

def pr (a b : Nat) : S59 := ⟨a, b⟩
/-- May a pair whose first spot is a come behind some pairs? -/
def lastOk (ps : List S59) (a : Nat) : Bool := match ps.getLast? with
  | none => true
  | some q => decide (q.f0 ≤ (a : Int))
def okB (used : Nat) (ps : List S59) (a b : Nat) : Bool := decide (used &&& setN (pr a b) = 0) && lastOk ps a
/-- The first way to go on with k pairs more. -/
def srch (l : List Int) (m : Nat) : Nat → Nat → List S59 → Option (List S59)
  | 0, _, ps => if metB l ps then some ps else none
  | k + 1, used, ps => firstN (fun a => firstN (fun b => if a < b ∧ okB used ps a b = true then srch l m k (used ||| setN (pr a b)) (ps ++ [pr a b]) else none) m) m

def ptr (g : Nat) : Value := .pointer (some ⟨g, 0, none⟩)
/-- What is held while pairs are sought. -/
structure PSt (w0 : World) (bm g m : Nat) (A : Option Addr) (n c : Nat) (v : Value) (ps : List S59) (W : World) : Prop where
  below : Below w0.heap.size w0 W
  cm : W.heap[bm]? = some (.cells #[.int .i64 m] 3 (0, 0))
  cf : W.heap[g]? = some (.cells #[.int .i64 m, .slice A n c] 61 (0, 0))
  cl : W.heap[g + 1]? = some (.cells #[v] 46 (0, 0))
  co : W.heap[g + 2]? = some (.cells #[.func (.func 48) #[] #[.pointer (some ⟨g, 0, none⟩), .pointer (some ⟨g + 1, 0, none⟩), .pointer (some ⟨bm, 0, none⟩), .pointer (some ⟨g + 2, 0, none⟩)]] 80 (0, 0))
  row : Kd.R k59 59 W (g + 3) (fun _ => True) v ps
  lt : bm < g
  lo : w0.heap.size ≤ bm

theorem cells1 {w : World} {g : Nat} {a : Value} {t : TypeId} (h : w.heap[g]? = some (.cells #[a] t (0, 0))) : w.cell? ⟨g, 0, none⟩ = some a ∧ w.frozen? ⟨g, 0, none⟩ = false := ⟨blk_cell h 0, blk_frozen h 0⟩

variable {w0 W W' : World} {bm g m n c : Nat} {A : Option Addr} {v v1 : Value} {ps : List S59}
theorem PSt.next (h : PSt w0 bm g m A n c v ps W) (hb : Below W.heap.size W W') : PSt w0 bm g m A n c v ps W' :=
  ⟨below_then h.below h.below.size hb, (hb.block _ (blk_lt h.cm)).trans h.cm, (hb.block _ (blk_lt h.cf)).trans h.cf, (hb.block _ (blk_lt h.cl)).trans h.cl, (hb.block _ (blk_lt h.co)).trans h.co, Kd.R_below h.row hb, h.lt, h.lo⟩
theorem PSt.big (h : PSt w0 bm g m A n c v ps W) : g + 2 < W.heap.size := blk_lt h.co

/-- Behind an append: the new row is stored. -/
theorem PSt.store {q : List S59} (h : PSt w0 bm g m A n c v ps W) {W1 : World} (hg : W.grownBy W1 v.ownBlock) (hr : Kd.R k59 59 W1 (g + 3) (fun _ => True) v1 q) : PSt w0 bm g m A n c v1 q (W1.setCell ⟨g + 1, 0, none⟩ v1) := by
  have hb : ∀ k, k < g + 3 → k < W.heap.size → W1.heap[k]? = W.heap[k]? := fun k hk hlt => hg.block k hlt (fun e => by have := Kd.R_base h.row k e.symm; omega)
  have hbig := h.big
  have hlt := h.lt
  have hlo := h.lo
  have hB1 : Below w0.heap.size w0 W1 := h.below.grown hg h.below.size (fun k hk => by have := Kd.R_base h.row k hk; omega)
  refine ⟨hB1.setCell (by show w0.heap.size ≤ g + 1; omega) _, ?_, ?_, ?_, ?_, ?_, h.lt, h.lo⟩
  · exact blk_far ((hb bm (by omega) (by omega)).trans h.cm) (by show bm ≠ g + 1; omega) _
  · exact blk_far ((hb g (by omega) (by omega)).trans h.cf) (by show g ≠ g + 1; omega) _
  · exact blk_set ((hb (g + 1) (by omega) (by omega)).trans h.cl) 0 _
  · exact blk_far ((hb (g + 2) (by omega) (by omega)).trans h.co) (by show g + 2 ≠ g + 1; omega) _
  · have h1 := Kd.R_bound hr
    exact Kd.R_mono (Kd.R_far h1 (fun k hk => by show k ≠ g + 1; have := hk.2.1; omega) v1) (fun _ _ => trivial)

/-- The row, cut by its last pair. -/
theorem PSt.cut {q : List S59} {p : S59} {A' : Option Addr} {n' c' : Nat} (h : PSt w0 bm g m A n c (.slice A' n' c') (q ++ [p]) W) : PSt w0 bm g m A n c (.slice A' (n' - 1) c') q (W.setCell ⟨g + 1, 0, none⟩ (.slice A' (n' - 1) c')) := by
  have hn : n' = q.length + 1 := by have := (Kd.R_reads' h.row).1; simpa using this
  have hr := Kd.R_take (m := n' - 1) h.row (by simp; omega)
  rw [show (q ++ [p]).take (n' - 1) = q by rw [hn]; simp] at hr
  exact h.store (World.grownBy.refl W _) hr

/-- What is left alone: all but the list's box and its row. -/
structure Fr (g : Nat) (W : World) (v : Value) (W' : World) (v' : Value) : Prop where
  size : W.heap.size ≤ W'.heap.size
  block : ∀ k, k < W.heap.size → k ≠ g + 1 → some k ≠ v.ownBlock → W'.heap[k]? = W.heap[k]?
  own : v'.ownBlock = v.ownBlock ∨ ∃ b, v'.ownBlock = some b ∧ W.heap.size ≤ b
theorem Fr.refl (g : Nat) (W : World) (v : Value) : Fr g W v W v := ⟨Nat.le_refl _, fun _ _ _ _ => rfl, .inl rfl⟩
theorem Fr.trans {g : Nat} {W W1 W2 : World} {v v1 v2 : Value} (h : Fr g W v W1 v1) (k : Fr g W1 v1 W2 v2) : Fr g W v W2 v2 := by
  refine ⟨Nat.le_trans h.size k.size, fun i hi h1 h2 => ?_, ?_⟩
  · refine (k.block i (Nat.lt_of_lt_of_le hi h.size) h1 (fun e => ?_)).trans (h.block i hi h1 h2)
    rcases h.own with ho | ⟨b, hb, hle⟩
    · exact h2 (e.trans ho)
    · rw [hb] at e; cases e; omega
  · rcases k.own with ho | ⟨b, hb, hle⟩
    · rcases h.own with ho1 | ⟨b, hb, hle⟩
      · exact .inl (ho.trans ho1)
      · exact .inr ⟨b, ho.trans hb, hle⟩
    · exact .inr ⟨b, hb, Nat.le_trans h.size hle⟩
theorem Fr.of_below {g : Nat} {W W' : World} {v : Value} (h : Below W.heap.size W W') : Fr g W v W' v := ⟨h.size, fun k hk _ _ => h.block k hk, .inl rfl⟩
theorem Fr.of_grown {g : Nat} {W W' : World} {v v' : Value} (h : W.grownBy W' v.ownBlock) (hat : v'.ownBlock = v.ownBlock ∨ ∃ b, v'.ownBlock = some b ∧ W.heap.size ≤ b) : Fr g W v W' v' := ⟨h.size, fun k hk _ h2 => h.block k hk h2, hat⟩
theorem Fr.set {g : Nat} {W : World} {v : Value} (u : Value) : Fr g W v (W.setCell ⟨g + 1, 0, none⟩ u) v :=
  ⟨by simp [World.setCell], fun k _ h1 _ => Below.heap_setCell _ _ _ _ h1, .inl rfl⟩
theorem Fr.cut {g : Nat} {W : World} {A : Option Addr} {n c n' c' : Nat} : Fr g W (.slice A n c) W (.slice A n' c') := by
  refine ⟨Nat.le_refl _, fun _ _ _ _ => rfl, .inl ?_⟩
  cases A <;> rfl
theorem Fr.cells {g : Nat} {W W' : World} {v v' : Value} (h : Fr g W v W' v') {k : Nat} {cs : Array Value} {t : TypeId} (hk : W.heap[k]? = some (.cells cs t (0, 0))) (h1 : k ≠ g + 1) (h2 : some k ≠ v.ownBlock) : W'.heap[k]? = some (.cells cs t (0, 0)) :=
  (h.block k (blk_lt hk) h1 h2).trans hk

/-- What the search leaves. -/
def OnPost (w0 : World) (bm g m : Nat) (A : Option Addr) (n c : Nat) (W : World) (vi : Value) (ps : List S59) (R : Option (List S59)) (e : Ending) (w' : World) : Prop :=
  ∃ v, e = .returned (.bool R.isSome) ∧ PSt w0 bm g m A n c v (R.getD ps) w' ∧ Fr g W vi w' v
end Go.Proofs.Ytbjpjjokamaliaa.A

/- The search for a pairing: the walk. -/
namespace Go.Proofs.Ytbjpjjokamaliaa.A
open Go.RowKit Go.Proofs.YtbjpjjokamaliaaW.PrintWords Go.Proofs.YtbjpjjokamaliaaW.PrintMore

theorem enters48 : ∀ args w, (callFunc 48 args).run Try.prog w = .ok (.enter 48 args) w := enters_of Try.func48 (by kernel_rfl) rfl

def OnSaid (l : List Int) (w0 : World) (bm g m : Nat) (A : Option Addr) (c k : Nat) : Prop :=
  ∀ (used : Nat) (ps : List S59) (v : Value) (W : World), PSt w0 bm g m A l.length c v ps W → used < 2 ^ m → ps.length + k ≤ 9 → (∀ q ∈ ps, okPr m q) →
    Calls Try.prog 48 #[.int .i64 k, .int .i64 used, .pointer (some ⟨g, 0, none⟩), .pointer (some ⟨g + 1, 0, none⟩), .pointer (some ⟨bm, 0, none⟩), .pointer (some ⟨g + 2, 0, none⟩)] W (OnPost w0 bm g m A l.length c W v ps (srch l m k used ps))

theorem OnPost.mk' {w0 : World} {bm g m : Nat} {A : Option Addr} {n c : Nat} {ps : List S59} {R : Option (List S59)} {b : Bool} {v vi : Value} {q : List S59} {W w' : World} (hb : R.isSome = b) (hq : R.getD ps = q) (h : PSt w0 bm g m A n c v q w') (hf : Fr g W vi w' v) : OnPost w0 bm g m A n c W vi ps R (.returned (.bool b)) w' :=
  ⟨v, by rw [hb], by rw [hq]; exact h, hf⟩

set_option maxRecDepth 100000 in
set_option maxHeartbeats 1600000 in
theorem on_zero (l : List Int) (w0 : World) (bm g m : Nat) (h9 : m ≤ 9) (hl : okL m l) (A : Option Addr) (c : Nat) (hr : Kd.C (Kd.int .i64) w0 A l.length l) : OnSaid l w0 bm g m A c 0 := by
  intro used ps v W hP hu hn hps
  have HR := Aside0.mk (Kd.C_below hr hP.below)
  have HL := Aside0.mk hl
  have HP := Aside0.mk hP
  have HQ := Aside0.mk hps
  obtain ⟨A2, c2, rfl, hc2, hC2⟩ := Kd.R_reads hP.row
  have HC2 := Aside0.mk hC2
  obtain ⟨f0, f1, _, _⟩ := cells2 hP.cf
  obtain ⟨l0, _⟩ := cells1 hP.cl
  clear hr hl hP hps hu hn hC2
  go_enter Try.func48, Try.ntmps48
  go_wp2_with (go_at_call 49; refine (met_calls m h9 l HL.out A l.length c A2 ps.length c2 ps HQ.out _ HR.out HC2.out).mono ?_; rintro e w2 ⟨rfl, hb2⟩; have HB2 := Aside0.mk hb2; clear hb2)
  go_ret
  cases hm : metB l ps with
  | true => exact OnPost.mk' (by rw [srch, hm]; rfl) (by rw [srch, hm]; rfl) (HP.out.next HB2.out) (Fr.of_below HB2.out)
  | false => exact OnPost.mk' (by rw [srch, hm]; rfl) (by rw [srch, hm]; rfl) (HP.out.next HB2.out) (Fr.of_below HB2.out)

theorem info59 : (Try.prog.info? 59).map (fun i => (i.zero, i.size, i.bytes)) = some (some (.agg #[.int .i64 0, .int .i64 0]), 2, 16) := by kernel_rfl

theorem last_cell {W : World} {base : Nat} {ok : Nat → Prop} {v : Value} {q : List S59} {p : S59} (h : Kd.R k59 59 W base ok v (q ++ [p])) :
    ∃ ad c, v = .slice (some ad) (q.length + 1) c ∧ q.length + 1 ≤ c ∧ W.cell? (ad.add (q.length * 2)) = some (.int .i64 p.f0) := by
  obtain ⟨A, c, rfl, hc, hC⟩ := Kd.R_reads h
  have hl : (q ++ [p]).length = q.length + 1 := by simp
  rw [hl] at hC hc ⊢
  obtain ⟨ad, rfl, h0, _⟩ := at_T59 hC (q.length : Int) (by omega) (by omega)
  refine ⟨ad, c, rfl, hc, ?_⟩
  rw [Int.toNat_natCast] at h0
  rw [h0]
  simp [rd_T59]

theorem okB_no {used : Nat} {ps : List S59} {a b : Nat} (h : used &&& setN (pr a b) ≠ 0) : okB used ps a b = false := by simp [okB, h]

set_option maxRecDepth 100000 in
set_option maxHeartbeats 1600000 in
theorem on_step (l : List Int) (w0 : World) (bm g m : Nat) (h9 : m ≤ 9) (A : Option Addr) (c : Nat) (k : Nat) (ih : OnSaid l w0 bm g m A c k) : OnSaid l w0 bm g m A c (k + 1) := by
  intro used ps vi W hP hu hn hps
  have HI := Aside0.mk ih
  have HQ := Aside0.mk hps
  have HU := Aside0.mk hu
  have HN := Aside0.mk hn
  have HP := Aside0.mk hP
  obtain ⟨S, hS⟩ : ∃ S, srch l m (k + 1) used ps = S := ⟨_, rfl⟩
  have HS := Aside0.mk hS
  rw [hS]
  obtain ⟨m0, _⟩ := cells1 hP.cm
  have hk0 : (((k + 1 : Nat) : Int) == 0) = false := by rw [beq_eq_false_iff_ne]; omega
  have hkk : k ≤ 9 := by omega
  clear ih hps hu hn hP hS
  go_enter Try.func48, Try.ntmps48
  go_wp2
  go_loopg [9, 10, 11, 18] m (fun gg _ _ _ v18 wr => ∃ (a : Nat) (v : Value), a ≤ m ∧ m - a ≤ gg ∧ v18 = .int .i64 a ∧ Aside0 (PSt w0 bm g m A l.length c v ps wr ∧ Fr g W vi wr v) ∧ Aside0 (firstN (fun a => firstN (fun b => if a < b ∧ okB used ps a b = true then srch l m k (used ||| setN (pr a b)) (ps ++ [pr a b]) else none) m) a = none))
  case atStart => exact ⟨0, vi, Nat.zero_le _, by omega, rfl, ⟨HP.out, Fr.refl _ _ _⟩, ⟨rfl⟩⟩
  case round =>
    clear HP m0
    obtain ⟨a, v1, ha, hgg, rfl, HP1, HF⟩ := hrel
    obtain ⟨m0, _⟩ := cells1 HP1.out.1.cm
    by_cases hlt : a < m
    · have hltz : (a : Int) < (m : Int) := by omega
      go_wp2
      obtain ⟨wo, rfl⟩ : ∃ wo : World, wo = wr := ⟨_, rfl⟩
      have HG : Aside0 (firstN (fun b => if a < b ∧ okB used ps a b = true then srch l m k (used ||| setN (pr a b)) (ps ++ [pr a b]) else none) (a + 1) = none) := ⟨firstN_none _ fun i hi => by rw [if_neg (by omega)]⟩
      go_loopg [10, 11] m (fun gg2 v10 _ wr => ∃ (b : Nat) (v : Value), a < b ∧ b ≤ m ∧ m - b ≤ gg2 ∧ v10 = .int .i64 b ∧ Aside0 (PSt w0 bm g m A l.length c v ps wr ∧ Fr g W vi wr v) ∧ Aside0 (firstN (fun b => if a < b ∧ okB used ps a b = true then srch l m k (used ||| setN (pr a b)) (ps ++ [pr a b]) else none) b = none))
      case atStart => exact ⟨a + 1, v1, by omega, by omega, by omega, by go_num, HP1, HG⟩
      case round =>
        clear HP1 HG m0
        obtain ⟨b, v2, hab, hb, hgg2, rfl, HP1, HG⟩ := hrel
        obtain ⟨m0, _⟩ := cells1 HP1.out.1.cm
        obtain ⟨l0, lf0⟩ := cells1 HP1.out.1.cl
        by_cases hblt : b < m
        · have hbltz : (b : Int) < (m : Int) := by omega
          have HOK : Aside0 (okPr m (pr a b)) := ⟨⟨by show (0 : Int) ≤ (a : Int); omega, by show (a : Int) < m; omega, by show (0 : Int) ≤ (b : Int); omega, by show (b : Int) < m; omega⟩⟩
          have hlt1 : g + 1 < wr.heap.size := by have := HP1.out.1.big; omega
          by_cases hus : used &&& setN (pr a b) = 0
          · have hand := and64 used (setN (pr a b)) (lt62 HU.out (by omega)) (lt62 (setN_lt HOK.out) (by omega))
            rw [hus] at hand
            have HUS := Aside0.mk hus
            obtain ⟨z, hz⟩ : ∃ z, setN (pr a b) = z := ⟨_, rfl⟩
            have HZ := Aside0.mk hz
            rw [hz] at hand
            clear hz hus
            rcases List.eq_nil_or_concat ps with hnil | ⟨q, p, hcc⟩
            · obtain ⟨A2, c2, hv2, hc2, _⟩ := Kd.R_reads HP1.out.1.row
              have hl0 : ps.length = 0 := by rw [hnil]; rfl
              rw [hl0] at hv2
              subst hv2
              have HNI := Aside0.mk hnil
              clear hnil hl0
              have hrt : ∀ kk, (.slice A2 0 c2 : Value).ownBlock = some kk → kk < wr.heap.size := Kd.R_lt HP1.out.1.row
              have HRT := Aside0.mk hrt
              clear hrt
              go_wp2_with (first | (go_at_call 50; refine (set_calls m h9 (pr a b) HOK.out _).mono ?_; rw [HZ.out]; rintro e w2 ⟨rfl, hb2⟩; have hb3 := below_then (below_alloc (Below.refl wr.heap.size wr) _) (below_alloc (Below.refl _ _) _).size hb2; have HP2 : Aside0 (PSt w0 bm g m A l.length c (.slice A2 0 c2) ps w2 ∧ Fr g W vi w2 (.slice A2 0 c2)) := ⟨HP1.out.1.next hb3, HP1.out.2.trans (Fr.of_below hb3)⟩;  have HT2 := Aside0.mk ((hb2.block _ (by simp)).trans (heap_alloc_new wr (.cells #[.int .i64 a, .int .i64 b] 59))); obtain ⟨l2, lf2⟩ := cells1 HP2.out.1.cl; obtain ⟨t0, t1, tf0, tf1⟩ := cells2 HT2.out; clear hb2 hb3 l0 lf0) | (at_builtin; refine Kd.R_append k59 (w0 := w2) (g + 3) rfl (.tmp 52) (.tmp 54) 46 59 (.agg #[.int .i64 0, .int .i64 0]) 16 rfl Try.underlying46 info59 rfl (by decide) (by omega) (.slice A2 0 c2) ps (pr a b) [.int .i64 (a : Int), .int .i64 (b : Int)] (fun _ => True) (fun _ => False) rfl rfl (k59_mkM _ _ _ (pr a b)) (fun _ hk => hk.elim) (fun _ _ => trivial) HP2.out.1.row (Below.refl _ _) (by have := HP2.out.1.big; omega) (by have := HN.out; omega) ?_; intro v4 w4 ho hbb hg4 hat; obtain ⟨A4, c4, hv4, hc4, _⟩ := Kd.R_reads ho; rw [show (ps ++ [pr a b]).length = ps.length + 1 from by simp] at hv4; subst hv4; have HA := Aside0.mk (And.intro ho (And.intro hg4 hat)); have hk4 := (hg4.block _ (blk_lt HP2.out.1.cl) (fun e => by have := Kd.R_base HP2.out.1.row _ e.symm; omega)).trans HP2.out.1.cl; have hk5 := (hg4.block _ (blk_lt HT2.out) (fun e => by have := HRT.out _ e.symm; omega)).trans HT2.out; have HT4 := Aside0.mk hk5; obtain ⟨l4, lf4⟩ := cells1 hk4; clear ho hbb hg4 hat hk4 hk5 t0 t1 tf0 tf1 l2 lf2))
              have H5 : Aside0 (PSt w0 bm g m A l.length c (.slice A4 (ps.length + 1) c4) (ps ++ [pr a b]) (w4.setCell ⟨g + 1, 0, none⟩ (.slice A4 (ps.length + 1) c4)) ∧ Fr g W vi (w4.setCell ⟨g + 1, 0, none⟩ (.slice A4 (ps.length + 1) c4)) (.slice A4 (ps.length + 1) c4) ∧ (w4.setCell ⟨g + 1, 0, none⟩ (.slice A4 (ps.length + 1) c4)).heap[wr.heap.size]? = some (.cells #[.int .i64 (a : Int), .int .i64 (b : Int)] 59 (0, 0)) ∧ some wr.heap.size ≠ (Value.slice A4 (ps.length + 1) c4).ownBlock ∧ g + 1 < wr.heap.size) := by
                refine ⟨HP2.out.1.store HA.out.2.1 HA.out.1, (HP2.out.2.trans (Fr.of_grown HA.out.2.1 HA.out.2.2)).trans (Fr.set _), blk_far HT4.out (by show wr.heap.size ≠ g + 1; have := HP1.out.1.big; omega) _, ?_, by have := HP1.out.1.big; omega⟩
                intro e
                rcases HA.out.2.2 with ho | ⟨bb, hbb, hle⟩
                · have := HRT.out _ (ho.symm.trans e.symm); omega
                · rw [hbb] at e; cases e
                  have := blk_lt HT2.out; omega
              obtain ⟨W5, hW5⟩ : ∃ W5, W5 = w4.setCell ⟨g + 1, 0, none⟩ (.slice A4 (ps.length + 1) c4) := ⟨_, rfl⟩
              rw [← hW5] at H5 ⊢
              obtain ⟨h, hh⟩ : ∃ h, h = wr.heap.size := ⟨_, rfl⟩
              rw [← hh] at H5 ⊢
              obtain ⟨V4, hV4⟩ : ∃ V4, V4 = Value.slice A4 (ps.length + 1) c4 := ⟨_, rfl⟩
              rw [← hV4] at H5
              clear hW5 hh l4 lf4 HA HT4 HRT HP2 HT2 HP1
              have hs0 : (fun w' : World => w'.cell? ⟨g + 2, 0, none⟩ = some (.func (.func 48) #[] #[.pointer (some ⟨g, 0, none⟩), .pointer (some ⟨g + 1, 0, none⟩), .pointer (some ⟨bm, 0, none⟩), .pointer (some ⟨g + 2, 0, none⟩)]) ∧ w'.cell? ⟨h, 0, none⟩ = some (.int .i64 (a : Int)) ∧ w'.cell? ⟨h, 1, none⟩ = some (.int .i64 (b : Int)) ∧ Aside0 (h < w'.heap.size)) W5.drew := ⟨(cells1 H5.out.1.co).1, (cells2 H5.out.2.2.1).1, (cells2 H5.out.2.2.1).2.1, ⟨blk_lt H5.out.2.2.1⟩⟩
              have HS0 := Aside0.mk hs0
              obtain ⟨R, hRR⟩ : ∃ R, srch l m k (used ||| z) (ps ++ [pr a b]) = R := ⟨_, rfl⟩
              have HRR := Aside0.mk hRR
              clear hRR
              have HREC : Aside0 (∀ W6, PSt w0 bm g m A l.length c V4 (ps ++ [pr a b]) W6 → Calls Try.prog 48 #[.int .i64 k, .int .i64 (used ||| z : Nat), .pointer (some ⟨g, 0, none⟩), .pointer (some ⟨g + 1, 0, none⟩), .pointer (some ⟨bm, 0, none⟩), .pointer (some ⟨g + 2, 0, none⟩)] W6 (OnPost w0 bm g m A l.length c W6 V4 (ps ++ [pr a b]) R)) := ⟨fun W6 h6 => by rw [← HRR.out]; exact HI.out (used ||| z) (ps ++ [pr a b]) V4 W6 h6 (by rw [← HZ.out]; exact or_lt HU.out (setN_lt HOK.out)) (by have := HN.out; simp; omega) (fun q hq => (List.mem_append.1 hq).elim (fun hq => HQ.out q hq) (fun hq => by rw [List.mem_singleton] at hq; rw [hq]; exact HOK.out))⟩
              have hor : bits .or .i64 (used : Int) (z : Int) = ((used ||| z : Nat) : Int) := by rw [← HZ.out]; exact or64 _ _ (lt62 HU.out (by omega)) (lt62 (setN_lt HOK.out) (by omega))
              have hsub : IntKind.i64.wrap ((k : Int) + 1 - 1) = (k : Int) := by rw [IntKind.wrap_i64]; omega
              have hsub2 : (k : Int) + 1 - 1 = (k : Int) := by omega
              have hsub3 : IntKind.i64.wrap (k : Int) = (k : Int) := by rw [IntKind.wrap_i64]; omega
              have eg := enters48
              clear hs0
              go_region_held3 (fun w' : World => w'.cell? ⟨g + 2, 0, none⟩ = some (.func (.func 48) #[] #[.pointer (some ⟨g, 0, none⟩), .pointer (some ⟨g + 1, 0, none⟩), .pointer (some ⟨bm, 0, none⟩), .pointer (some ⟨g + 2, 0, none⟩)]) ∧ w'.cell? ⟨h, 0, none⟩ = some (.int .i64 (a : Int)) ∧ w'.cell? ⟨h, 1, none⟩ = some (.int .i64 (b : Int)) ∧ Aside0 (h < w'.heap.size)) (first | exact HS0.out | (have hq := (by assumption : _ ∧ _ ∧ _ ∧ Aside0 (h < _)); exact ⟨pw_cell_below hb6 hq.1, pw_cell_below hb6 hq.2.1, pw_cell_below hb6 hq.2.2.1, ⟨Nat.lt_of_lt_of_le hq.2.2.2.out hb6.size⟩⟩) | exact HS7.out) (first | (go_at_call 50; refine (set_calls m h9 (pr a b) HOK.out _).mono ?_; rw [HZ.out]; rintro e w6 ⟨rfl, hb6⟩) | (go_at_call 48; have hP6 := H5.out.1.next (below_then (below_drew (Below.refl W5.heap.size W5)) (Nat.le_refl _) hb6); (with_reducible refine (HREC.out _ hP6).mono ?_); rintro e w7 ⟨v7, rfl, hP7, hF7⟩; have hT7 := hF7.cells ((hb6.block h (blk_lt H5.out.2.2.1)).trans H5.out.2.2.1) (by have := H5.out.2.2.2.2; omega) H5.out.2.2.2.1; have HS7 := Aside0.mk (show (fun w' : World => w'.cell? ⟨g + 2, 0, none⟩ = some (.func (.func 48) #[] #[.pointer (some ⟨g, 0, none⟩), .pointer (some ⟨g + 1, 0, none⟩), .pointer (some ⟨bm, 0, none⟩), .pointer (some ⟨g + 2, 0, none⟩)]) ∧ w'.cell? ⟨h, 0, none⟩ = some (.int .i64 (a : Int)) ∧ w'.cell? ⟨h, 1, none⟩ = some (.int .i64 (b : Int)) ∧ Aside0 (h < w'.heap.size)) w7 from ⟨(cells1 hP7.co).1, (cells2 hT7).1, (cells2 hT7).2.1, ⟨blk_lt hT7⟩⟩); have HP7 : Aside0 (PSt w0 bm g m A l.length c v7 (R.getD (ps ++ [pr a b])) w7 ∧ Fr g W vi w7 v7) := ⟨hP7, (H5.out.2.1.trans (Fr.of_below (below_then (below_drew (Below.refl W5.heap.size W5)) (Nat.le_refl _) hb6))).trans hF7⟩; clear hT7 hP7 hF7 hb6))
              clear eg hor hsub hsub2 hsub3 HS0 HREC H5
              cases R with
              | some r =>
                go_wp2
                go_ret
                have hfin : S = some r := by
                  rw [← HS.out, srch]
                  refine firstN_some hlt HF.out (firstN_some hblt HG.out ?_)
                  rw [if_pos ⟨hab, (by rw [okB, HUS.out, HNI.out]; rfl)⟩, HZ.out]
                  exact HRR.out
                subst hfin
                exact OnPost.mk' rfl rfl HP7.out.1 HP7.out.2
              | none =>
                obtain ⟨A7, c7, hv7, hc7, _⟩ := Kd.R_reads HP7.out.1.row
                rw [show ((none : Option (List S59)).getD (ps ++ [pr a b])).length = ps.length + 1 from by simp] at hv7 hc7
                subst hv7
                obtain ⟨l7, lf7⟩ := cells1 HP7.out.1.cl
                have hn9 : ps.length ≤ 9 := by have := HN.out; omega
                go_wp2
                go_roundg (m - (b + 1))
                case measure => omega
                case rel =>
                  have hP8 : PSt w0 bm g m A l.length c (.slice A7 ps.length c7) ps (w7.setCell ⟨g + 1, 0, none⟩ (.slice A7 ps.length c7)) := PSt.cut (n' := ps.length + 1) (p := pr a b) HP7.out.1
                  refine ⟨b + 1, _, by omega, by omega, by omega, by go_num, ⟨hP8, HP7.out.2.trans (Fr.cut.trans (Fr.set _))⟩, ⟨?_⟩⟩
                  rw [firstN_succ_none HG.out, if_pos ⟨hab, (by rw [okB, HUS.out, HNI.out]; rfl)⟩, HZ.out]
                  exact HRR.out
            · rw [List.concat_eq_append] at hcc
              have hrow := HP1.out.1.row
              rw [hcc] at hrow
              obtain ⟨ad, c2, hv2, hc2, hcell⟩ := last_cell hrow
              clear hrow
              have hq9 : q.length ≤ 9 := by have := HN.out; rw [hcc] at this; simp at this; omega
              subst hv2
              have HCC := Aside0.mk hcc
              clear hcc
              have hrt : ∀ kk, (.slice (some ad) (q.length + 1) c2 : Value).ownBlock = some kk → kk < wr.heap.size := Kd.R_lt HP1.out.1.row
              have HRT := Aside0.mk hrt
              clear hrt
              by_cases hap : (a : Int) < p.f0
              · go_wp2_with (go_at_call 50; refine (set_calls m h9 (pr a b) HOK.out _).mono ?_; rw [HZ.out]; rintro e w2 ⟨rfl, hb2⟩; have hb3 := below_then (below_alloc (Below.refl wr.heap.size wr) _) (below_alloc (Below.refl _ _) _).size hb2; have HP2 : Aside0 (PSt w0 bm g m A l.length c (.slice (some ad) (q.length + 1) c2) ps w2 ∧ Fr g W vi w2 (.slice (some ad) (q.length + 1) c2)) := ⟨HP1.out.1.next hb3, HP1.out.2.trans (Fr.of_below hb3)⟩; have hcell2 := pw_cell_below hb3 hcell; have HT2 := Aside0.mk ((hb2.block _ (by simp)).trans (heap_alloc_new wr (.cells #[.int .i64 a, .int .i64 b] 59))); obtain ⟨l2, lf2⟩ := cells1 HP2.out.1.cl; obtain ⟨t0, t1, tf0, tf1⟩ := cells2 HT2.out; clear hb2 hb3 l0 lf0)
                go_roundg (m - (b + 1))
                case measure => omega
                case rel =>
                  refine ⟨b + 1, _, by omega, by omega, by omega, by go_num, HP2, ⟨?_⟩⟩
                  rw [firstN_succ_none HG.out, if_neg (fun h => by have h := h.2; rw [okB, HCC.out] at h; simp [lastOk] at h; omega)]
              · go_wp2_with (first | (go_at_call 50; refine (set_calls m h9 (pr a b) HOK.out _).mono ?_; rw [HZ.out]; rintro e w2 ⟨rfl, hb2⟩; have hb3 := below_then (below_alloc (Below.refl wr.heap.size wr) _) (below_alloc (Below.refl _ _) _).size hb2; have HP2 : Aside0 (PSt w0 bm g m A l.length c (.slice (some ad) (q.length + 1) c2) ps w2 ∧ Fr g W vi w2 (.slice (some ad) (q.length + 1) c2)) := ⟨HP1.out.1.next hb3, HP1.out.2.trans (Fr.of_below hb3)⟩; have hcell2 := pw_cell_below hb3 hcell; have HT2 := Aside0.mk ((hb2.block _ (by simp)).trans (heap_alloc_new wr (.cells #[.int .i64 a, .int .i64 b] 59))); obtain ⟨l2, lf2⟩ := cells1 HP2.out.1.cl; obtain ⟨t0, t1, tf0, tf1⟩ := cells2 HT2.out; clear hb2 hb3 l0 lf0) | (at_builtin; refine Kd.R_append k59 (w0 := w2) (g + 3) rfl (.tmp 52) (.tmp 54) 46 59 (.agg #[.int .i64 0, .int .i64 0]) 16 rfl Try.underlying46 info59 rfl (by decide) (by omega) (.slice (some ad) (q.length + 1) c2) ps (pr a b) [.int .i64 (a : Int), .int .i64 (b : Int)] (fun _ => True) (fun _ => False) rfl rfl (k59_mkM _ _ _ (pr a b)) (fun _ hk => hk.elim) (fun _ _ => trivial) HP2.out.1.row (Below.refl _ _) (by have := HP2.out.1.big; omega) (by have := HN.out; omega) ?_; intro v4 w4 ho hbb hg4 hat; obtain ⟨A4, c4, hv4, hc4, _⟩ := Kd.R_reads ho; rw [show (ps ++ [pr a b]).length = ps.length + 1 from by simp] at hv4; subst hv4; have HA := Aside0.mk (And.intro ho (And.intro hg4 hat)); have hk4 := (hg4.block _ (blk_lt HP2.out.1.cl) (fun e => by have := Kd.R_base HP2.out.1.row _ e.symm; omega)).trans HP2.out.1.cl; have hk5 := (hg4.block _ (blk_lt HT2.out) (fun e => by have := HRT.out _ e.symm; omega)).trans HT2.out; have HT4 := Aside0.mk hk5; obtain ⟨l4, lf4⟩ := cells1 hk4; clear ho hbb hg4 hat hk4 hk5 t0 t1 tf0 tf1 l2 lf2))
                have H5 : Aside0 (PSt w0 bm g m A l.length c (.slice A4 (ps.length + 1) c4) (ps ++ [pr a b]) (w4.setCell ⟨g + 1, 0, none⟩ (.slice A4 (ps.length + 1) c4)) ∧ Fr g W vi (w4.setCell ⟨g + 1, 0, none⟩ (.slice A4 (ps.length + 1) c4)) (.slice A4 (ps.length + 1) c4) ∧ (w4.setCell ⟨g + 1, 0, none⟩ (.slice A4 (ps.length + 1) c4)).heap[wr.heap.size]? = some (.cells #[.int .i64 (a : Int), .int .i64 (b : Int)] 59 (0, 0)) ∧ some wr.heap.size ≠ (Value.slice A4 (ps.length + 1) c4).ownBlock ∧ g + 1 < wr.heap.size) := by
                  refine ⟨HP2.out.1.store HA.out.2.1 HA.out.1, (HP2.out.2.trans (Fr.of_grown HA.out.2.1 HA.out.2.2)).trans (Fr.set _), blk_far HT4.out (by show wr.heap.size ≠ g + 1; have := HP1.out.1.big; omega) _, ?_, by have := HP1.out.1.big; omega⟩
                  intro e
                  rcases HA.out.2.2 with ho | ⟨bb, hbb, hle⟩
                  · have := HRT.out _ (ho.symm.trans e.symm); omega
                  · rw [hbb] at e; cases e
                    have := blk_lt HT2.out; omega
                obtain ⟨W5, hW5⟩ : ∃ W5, W5 = w4.setCell ⟨g + 1, 0, none⟩ (.slice A4 (ps.length + 1) c4) := ⟨_, rfl⟩
                rw [← hW5] at H5 ⊢
                obtain ⟨h, hh⟩ : ∃ h, h = wr.heap.size := ⟨_, rfl⟩
                rw [← hh] at H5 ⊢
                obtain ⟨V4, hV4⟩ : ∃ V4, V4 = Value.slice A4 (ps.length + 1) c4 := ⟨_, rfl⟩
                rw [← hV4] at H5
                clear hW5 hh l4 lf4 HA HT4 HRT HP2 HT2 HP1
                have hs0 : (fun w' : World => w'.cell? ⟨g + 2, 0, none⟩ = some (.func (.func 48) #[] #[.pointer (some ⟨g, 0, none⟩), .pointer (some ⟨g + 1, 0, none⟩), .pointer (some ⟨bm, 0, none⟩), .pointer (some ⟨g + 2, 0, none⟩)]) ∧ w'.cell? ⟨h, 0, none⟩ = some (.int .i64 (a : Int)) ∧ w'.cell? ⟨h, 1, none⟩ = some (.int .i64 (b : Int)) ∧ Aside0 (h < w'.heap.size)) W5.drew := ⟨(cells1 H5.out.1.co).1, (cells2 H5.out.2.2.1).1, (cells2 H5.out.2.2.1).2.1, ⟨blk_lt H5.out.2.2.1⟩⟩
                have HS0 := Aside0.mk hs0
                obtain ⟨R, hRR⟩ : ∃ R, srch l m k (used ||| z) (ps ++ [pr a b]) = R := ⟨_, rfl⟩
                have HRR := Aside0.mk hRR
                clear hRR
                have HREC : Aside0 (∀ W6, PSt w0 bm g m A l.length c V4 (ps ++ [pr a b]) W6 → Calls Try.prog 48 #[.int .i64 k, .int .i64 (used ||| z : Nat), .pointer (some ⟨g, 0, none⟩), .pointer (some ⟨g + 1, 0, none⟩), .pointer (some ⟨bm, 0, none⟩), .pointer (some ⟨g + 2, 0, none⟩)] W6 (OnPost w0 bm g m A l.length c W6 V4 (ps ++ [pr a b]) R)) := ⟨fun W6 h6 => by rw [← HRR.out]; exact HI.out (used ||| z) (ps ++ [pr a b]) V4 W6 h6 (by rw [← HZ.out]; exact or_lt HU.out (setN_lt HOK.out)) (by have := HN.out; simp; omega) (fun q hq => (List.mem_append.1 hq).elim (fun hq => HQ.out q hq) (fun hq => by rw [List.mem_singleton] at hq; rw [hq]; exact HOK.out))⟩
                have hor : bits .or .i64 (used : Int) (z : Int) = ((used ||| z : Nat) : Int) := by rw [← HZ.out]; exact or64 _ _ (lt62 HU.out (by omega)) (lt62 (setN_lt HOK.out) (by omega))
                have hsub : IntKind.i64.wrap ((k : Int) + 1 - 1) = (k : Int) := by rw [IntKind.wrap_i64]; omega
                have hsub2 : (k : Int) + 1 - 1 = (k : Int) := by omega
                have hsub3 : IntKind.i64.wrap (k : Int) = (k : Int) := by rw [IntKind.wrap_i64]; omega
                have eg := enters48
                clear hs0
                go_region_held3 (fun w' : World => w'.cell? ⟨g + 2, 0, none⟩ = some (.func (.func 48) #[] #[.pointer (some ⟨g, 0, none⟩), .pointer (some ⟨g + 1, 0, none⟩), .pointer (some ⟨bm, 0, none⟩), .pointer (some ⟨g + 2, 0, none⟩)]) ∧ w'.cell? ⟨h, 0, none⟩ = some (.int .i64 (a : Int)) ∧ w'.cell? ⟨h, 1, none⟩ = some (.int .i64 (b : Int)) ∧ Aside0 (h < w'.heap.size)) (first | exact HS0.out | (have hq := (by assumption : _ ∧ _ ∧ _ ∧ Aside0 (h < _)); exact ⟨pw_cell_below hb6 hq.1, pw_cell_below hb6 hq.2.1, pw_cell_below hb6 hq.2.2.1, ⟨Nat.lt_of_lt_of_le hq.2.2.2.out hb6.size⟩⟩) | exact HS7.out) (first | (go_at_call 50; refine (set_calls m h9 (pr a b) HOK.out _).mono ?_; rw [HZ.out]; rintro e w6 ⟨rfl, hb6⟩) | (go_at_call 48; have hP6 := H5.out.1.next (below_then (below_drew (Below.refl W5.heap.size W5)) (Nat.le_refl _) hb6); (with_reducible refine (HREC.out _ hP6).mono ?_); rintro e w7 ⟨v7, rfl, hP7, hF7⟩; have hT7 := hF7.cells ((hb6.block h (blk_lt H5.out.2.2.1)).trans H5.out.2.2.1) (by have := H5.out.2.2.2.2; omega) H5.out.2.2.2.1; have HS7 := Aside0.mk (show (fun w' : World => w'.cell? ⟨g + 2, 0, none⟩ = some (.func (.func 48) #[] #[.pointer (some ⟨g, 0, none⟩), .pointer (some ⟨g + 1, 0, none⟩), .pointer (some ⟨bm, 0, none⟩), .pointer (some ⟨g + 2, 0, none⟩)]) ∧ w'.cell? ⟨h, 0, none⟩ = some (.int .i64 (a : Int)) ∧ w'.cell? ⟨h, 1, none⟩ = some (.int .i64 (b : Int)) ∧ Aside0 (h < w'.heap.size)) w7 from ⟨(cells1 hP7.co).1, (cells2 hT7).1, (cells2 hT7).2.1, ⟨blk_lt hT7⟩⟩); have HP7 : Aside0 (PSt w0 bm g m A l.length c v7 (R.getD (ps ++ [pr a b])) w7 ∧ Fr g W vi w7 v7) := ⟨hP7, (H5.out.2.1.trans (Fr.of_below (below_then (below_drew (Below.refl W5.heap.size W5)) (Nat.le_refl _) hb6))).trans hF7⟩; clear hT7 hP7 hF7 hb6))
                clear eg hor hsub hsub2 hsub3 HS0 HREC H5
                cases R with
                | some r =>
                  go_wp2
                  go_ret
                  have hfin : S = some r := by
                    rw [← HS.out, srch]
                    refine firstN_some hlt HF.out (firstN_some hblt HG.out ?_)
                    rw [if_pos ⟨hab, (by rw [okB, HUS.out, HCC.out]; simp [lastOk]; omega)⟩, HZ.out]
                    exact HRR.out
                  subst hfin
                  exact OnPost.mk' rfl rfl HP7.out.1 HP7.out.2
                | none =>
                  obtain ⟨A7, c7, hv7, hc7, _⟩ := Kd.R_reads HP7.out.1.row
                  rw [show ((none : Option (List S59)).getD (ps ++ [pr a b])).length = ps.length + 1 from by simp] at hv7 hc7
                  subst hv7
                  obtain ⟨l7, lf7⟩ := cells1 HP7.out.1.cl
                  have hn9 : ps.length ≤ 9 := by have := HN.out; omega
                  go_wp2
                  go_roundg (m - (b + 1))
                  case measure => omega
                  case rel =>
                    have hP8 : PSt w0 bm g m A l.length c (.slice A7 ps.length c7) ps (w7.setCell ⟨g + 1, 0, none⟩ (.slice A7 ps.length c7)) := PSt.cut (n' := ps.length + 1) (p := pr a b) HP7.out.1
                    refine ⟨b + 1, _, by omega, by omega, by omega, by go_num, ⟨hP8, HP7.out.2.trans (Fr.cut.trans (Fr.set _))⟩, ⟨?_⟩⟩
                    rw [firstN_succ_none HG.out, if_pos ⟨hab, (by rw [okB, HUS.out, HCC.out]; simp [lastOk]; omega)⟩, HZ.out]
                    exact HRR.out
          · have hand := and64 used (setN (pr a b)) (lt62 HU.out (by omega)) (lt62 (setN_lt HOK.out) (by omega))
            obtain ⟨z, hz⟩ : ∃ z, setN (pr a b) = z := ⟨_, rfl⟩
            have HZ := Aside0.mk hz
            rw [hz] at hand hus
            have hne : (((used &&& z : Nat) : Int) != 0) = true := by rw [bne_iff_ne]; omega
            have HUS := Aside0.mk hus
            clear hz hus
            go_wp2_with (go_at_call 50; refine (set_calls m h9 (pr a b) HOK.out _).mono ?_; rw [HZ.out]; rintro e w2 ⟨rfl, hb2⟩; have hb3 := below_then (below_alloc (Below.refl wr.heap.size wr) _) (below_alloc (Below.refl _ _) _).size hb2; have HP2 : Aside0 (PSt w0 bm g m A l.length c v2 ps w2 ∧ Fr g W vi w2 v2) := ⟨HP1.out.1.next hb3, HP1.out.2.trans (Fr.of_below hb3)⟩; clear hb2 hb3)
            go_roundg (m - (b + 1))
            case measure => omega
            case rel =>
              refine ⟨b + 1, v2, by omega, by omega, by omega, by go_num, HP2, ⟨?_⟩⟩
              rw [firstN_succ_none HG.out, if_neg (fun h => by rw [okB_no (by rw [HZ.out]; exact HUS.out)] at h; cases h.2)]
        · have hbltz : ¬ (b : Int) < (m : Int) := by omega
          have hbe : b = m := by omega
          subst hbe
          go_wp2
          go_roundg (b - (a + 1))
          case measure => omega
          case rel =>
            refine ⟨a + 1, v2, by omega, by omega, by go_num, HP1, ⟨?_⟩⟩
            rw [firstN_succ_none HF.out]
            exact HG.out
    · have hltz : ¬ (a : Int) < (m : Int) := by omega
      have hae : a = m := by omega
      subst hae
      go_wp2
      go_ret
      have hN : S = none := by rw [← HS.out, srch]; exact HF.out
      subst hN
      exact OnPost.mk' rfl rfl HP1.out.1 HP1.out.2
end Go.Proofs.Ytbjpjjokamaliaa.A

/- Pairing, as it is called. -/
namespace Go.Proofs.Ytbjpjjokamaliaa.A
open Go.RowKit Go.Proofs.YtbjpjjokamaliaaW.PrintWords Go.Proofs.YtbjpjjokamaliaaW.PrintMore

/-- The first pairing with the fewest pairs. -/
def pairF (l : List Int) (m : Nat) : Option (List S59) := firstN (fun k => srch l m k 0 []) (m / 2 + 1)

/-- The error of a search. -/
def errS (S : Option (List S59)) : Int := if S.isSome then 0 else 10

theorem on_all (l : List Int) (w0 : World) (bm g m : Nat) (h9 : m ≤ 9) (hl : okL m l) (A : Option Addr) (c : Nat) (hr : Kd.C (Kd.int .i64) w0 A l.length l) : ∀ k, OnSaid l w0 bm g m A c k
  | 0 => on_zero l w0 bm g m h9 hl A c hr
  | k + 1 => on_step l w0 bm g m h9 A c k (on_all l w0 bm g m h9 hl A c hr k)

theorem on_all0 {l : List Int} {w0 : World} {bm g m : Nat} (h9 : m ≤ 9) (hl : okL m l) {A : Option Addr} {c : Nat} (hr : Kd.C (Kd.int .i64) w0 A l.length l) {k : Nat} (hk : k ≤ 9) {v : Value} {W : World} (hP : PSt w0 bm g m A l.length c v [] W) :
    Calls Try.prog 48 #[.int .i64 k, .int .i64 0, .pointer (some ⟨g, 0, none⟩), .pointer (some ⟨g + 1, 0, none⟩), .pointer (some ⟨bm, 0, none⟩), .pointer (some ⟨g + 2, 0, none⟩)] W (OnPost w0 bm g m A l.length c W v [] (srch l m k 0 [])) :=
  on_all l w0 bm g m h9 hl A c hr k 0 [] v W hP (Nat.two_pow_pos m) (by simpa using hk) (fun q hq => by cases hq)

set_option maxRecDepth 100000 in
set_option maxHeartbeats 800000 in
theorem Pairing_err (m : Int) (A : Option Addr) (c : Nat) (l : List Int) (w : World) (hr : Kd.C (Kd.int .i64) w A l.length l) (he : okF m l ≠ 0) :
    Calls Try.prog 26 #[.int .i64 m, .slice A l.length c] w fun e w' => e = .returned (.tuple #[.slice none 0 0, .int .i64 (okF m l)]) ∧ Below w.heap.size w w' := by
  have HR := Aside0.mk hr
  obtain ⟨E, hE⟩ : ∃ E, okF m l = E := ⟨_, rfl⟩
  rw [hE] at he ⊢
  have HV := Aside0.mk hE
  have hg : (E != 0) = true := by rw [bne_iff_ne]; exact he
  clear hr hE
  go_enter Try.func26, Try.ntmps26
  go_wp2_with (go_at_call 41; refine (read_bad m A c l E _ (Kd.C_alloc HR.out _) HV.out he).mono ?_; rintro e w' ⟨rfl, hb'⟩; have HB := Aside0.mk (below_then (below_alloc (Below.refl _ _) _) (below_alloc (Below.refl _ _) _).size hb'); clear hb')
  go_ret2
  exact ⟨rfl, below_alloc HB.out _⟩

set_option maxRecDepth 100000 in
set_option maxHeartbeats 1600000 in
theorem Pairing_good (m : Nat) (A : Option Addr) (c : Nat) (l : List Int) (w : World) (hr : Kd.C (Kd.int .i64) w A l.length l) (he : okF m l = 0) :
    Calls Try.prog 26 #[.int .i64 m, .slice A l.length c] w fun e w' => (∃ v : Value, e = .returned (.tuple #[v, .int .i64 (errS (pairF l m))]) ∧ Kd.R k59 59 w' w.heap.size (fun _ => True) v ((pairF l m).getD [])) ∧ Below w.heap.size w w' := by
  have HR := Aside0.mk hr
  have HE := Aside0.mk he
  have H9 := Aside0.mk (okF_m he)
  obtain ⟨S, hS⟩ : ∃ S, pairF l m = S := ⟨_, rfl⟩
  have HS := Aside0.mk hS
  rw [hS]
  have e2 : Int.tdiv (m : Int) 2 = ((m / 2 : Nat) : Int) := by rw [Int.tdiv_eq_ediv_of_nonneg (by omega)]; simp
  have h9 : m ≤ 9 := by have := okF_m he; omega
  have eg := enters48
  clear hr he hS
  go_enter Try.func26, Try.ntmps26
  go_wp2_with (go_at_call 41; refine (read_ok m A c l _ (Kd.C_alloc HR.out _) HE.out).mono ?_; rintro e w' ⟨rfl, hb'⟩; have hk := (hb'.block _ (by simp)).trans (heap_alloc_new w (.cells #[.int .i64 m] 3)); have HK := Aside0.mk hk; obtain ⟨m0, _⟩ := cells1 hk; have hsz : w.heap.size < w'.heap.size := blk_lt hk; have hsz1 : w.heap.size < w'.heap.size + 1 := Nat.lt_succ_of_lt hsz; have hsz2 : w.heap.size < w'.heap.size + 1 + 1 := Nat.lt_succ_of_lt hsz1; have HB := Aside0.mk (below_then (below_alloc (Below.refl w.heap.size w) _) (below_alloc (Below.refl _ _) _).size hb'); clear hb' hk)
  have hP : Aside0 (PSt w w.heap.size w'.heap.size m A l.length c (.slice none 0 0) [] (((w'.alloc (.cells #[.int .i64 m, .slice A l.length c] 61)).alloc (.cells #[.slice none 0 0] 46)).alloc (.cells #[.func (.func 48) #[] #[.pointer (some ⟨w'.heap.size, 0, none⟩), .pointer (some ⟨w'.heap.size + 1, 0, none⟩), .pointer (some ⟨w.heap.size, 0, none⟩), .pointer (some ⟨w'.heap.size + 1 + 1, 0, none⟩)]] 80))) := by
    refine ⟨⟨below_alloc (below_alloc (below_alloc HB.out _) _) _, ?_, ?_, ?_, ?_, Kd.R_nil _ _ _ _ _, hsz, Nat.le_refl _⟩⟩
    · exact blk_alloc (blk_alloc (blk_alloc HK.out _) _) _
    · exact blk_alloc (blk_alloc (heap_alloc_new w' _) _) _
    · refine blk_alloc ?_ _
      have := heap_alloc_new (w'.alloc (.cells #[.int .i64 m, .slice A l.length c] 61)) (.cells #[.slice none 0 0] 46)
      simpa using this
    · have := heap_alloc_new ((w'.alloc (.cells #[.int .i64 m, .slice A l.length c] 61)).alloc (.cells #[.slice none 0 0] 46)) (.cells #[.func (.func 48) #[] #[.pointer (some ⟨w'.heap.size, 0, none⟩), .pointer (some ⟨w'.heap.size + 1, 0, none⟩), .pointer (some ⟨w.heap.size, 0, none⟩), .pointer (some ⟨w'.heap.size + 1 + 1, 0, none⟩)]] 80)
      simpa using this
  clear hsz hsz1 hsz2 m0 HB HK
  go_loopg [10, 24] (m / 2 + 1) (fun gg _ v24 wr => ∃ (k : Nat) (v : Value), k ≤ m / 2 + 1 ∧ m / 2 + 1 - k ≤ gg ∧ v24 = .int .i64 k ∧ Aside0 (PSt w w.heap.size w'.heap.size m A l.length c v [] wr) ∧ Aside0 (firstN (fun k => srch l m k 0 []) k = none))
  case atStart => exact ⟨0, _, Nat.zero_le _, by omega, rfl, hP, ⟨rfl⟩⟩
  case round =>
    clear hP
    obtain ⟨k, v, hk, hgg, rfl, HP, HF⟩ := hrel
    generalize w'.heap.size = g at *
    by_cases hlt : k < m / 2 + 1
    · have hltz : (k : Int) < (m : Int) / 2 + 1 := by omega
      have co : wr.cell? ⟨g + 1 + 1, 0, none⟩ = some (.func (.func 48) #[] #[.pointer (some ⟨g, 0, none⟩), .pointer (some ⟨g + 1, 0, none⟩), .pointer (some ⟨w.heap.size, 0, none⟩), .pointer (some ⟨g + 2, 0, none⟩)]) := (cells1 HP.out.co).1
      obtain ⟨R, hR⟩ : ∃ R, srch l m k 0 [] = R := ⟨_, rfl⟩
      have HRR := Aside0.mk hR
      have HC : Aside0 (Calls Try.prog 48 #[.int .i64 k, .int .i64 0, .pointer (some ⟨g, 0, none⟩), .pointer (some ⟨g + 1, 0, none⟩), .pointer (some ⟨w.heap.size, 0, none⟩), .pointer (some ⟨g + 2, 0, none⟩)] wr (OnPost w w.heap.size g m A l.length c wr v [] R)) := ⟨by rw [← hR]; exact on_all0 h9 (okF_L HE.out) HR.out (by omega) HP.out⟩
      clear hR
      cases R with
      | none =>
        go_wp2_with (go_at_call 48; refine HC.out.mono ?_; rintro e w7 ⟨v7, rfl, hP7, hF7⟩; have HP7 := Aside0.mk hP7; clear hP7 hF7)
        go_roundg (m / 2 + 1 - (k + 1))
        case measure => omega
        case rel =>
          refine ⟨k + 1, v7, by omega, by omega, by go_num, HP7, ⟨?_⟩⟩
          rw [firstN_succ_none HF.out]
          exact HRR.out
      | some r =>
        go_wp2_with (go_at_call 48; refine HC.out.mono ?_; rintro e w7 ⟨v7, rfl, hP7, hF7⟩; have HP7 := Aside0.mk hP7; obtain ⟨A7, c7, hv7, hc7, _⟩ := Kd.R_reads hP7.row; subst hv7; obtain ⟨l7, lf7⟩ := cells1 HP7.out.cl; clear hP7 hF7)
        go_ret2
        have hfin : S = some r := by
          rw [← HS.out]
          exact firstN_some hlt HF.out HRR.out
        subst hfin
        exact ⟨⟨_, rfl, Kd.R_lower (Kd.R_mono HP7.out.row (fun _ _ => trivial)) (by have := HP7.out.lt; omega)⟩, HP7.out.below⟩
    · have hltz : ¬ (k : Int) < (m : Int) / 2 + 1 := by omega
      have hke : k = m / 2 + 1 := by omega
      have hfin : S = none := by
        rw [← HS.out, pairF, ← hke]
        exact HF.out
      subst hfin
      clear hke
      go_wp2
      go_ret2
      exact ⟨⟨_, rfl, Kd.R_nil _ _ _ _ _⟩, HP.out.below⟩

def ambush_Pairing.f (a0 : Int) (l1 : List Int) : Option (List S59 × Int) :=
  some (if okF a0 l1 = 0 then ((pairF l1 a0.toNat).getD [], errS (pairF l1 a0.toNat)) else ([], okF a0 l1))
theorem ambush_Pairing.calls (a0 : Int) (A1 : Option Addr) (c1 : Nat) (l1 : List Int) (r1 : List S59) (r2 : Int) (w : World) (hr1 : Kd.C (Kd.int .i64) w A1 l1.length l1) (_hc1 : l1.length ≤ c1) (h : ambush_Pairing.f a0 l1 = some (r1, r2)) :
    Calls Try.prog 26 #[.int .i64 a0, .slice A1 l1.length c1] w fun e w' => ∃ v0_ : Value, e = .returned (.tuple #[v0_, .int .i64 r2]) ∧ Kd.R k59 59 w' w.heap.size (fun _ => True) v0_ r1 ∧ Below w.heap.size w w' := by
  unfold ambush_Pairing.f at h
  by_cases h0 : okF a0 l1 = 0
  · rw [if_pos h0] at h
    obtain ⟨m, rfl⟩ := Int.eq_ofNat_of_zero_le (show 0 ≤ a0 by have := okF_m h0; omega)
    rw [Int.toNat_natCast] at h
    cases h
    exact (Pairing_good m A1 c1 l1 w hr1 h0).mono fun e w' ⟨⟨v, h1, h2⟩, h3⟩ => ⟨v, h1, h2, h3⟩
  · rw [if_neg h0] at h
    cases h
    exact (Pairing_err a0 A1 c1 l1 w hr1 h0).mono fun e w' ⟨h1, h2⟩ => ⟨_, h1, Kd.R_nil _ _ _ _ _, h2⟩
end Go.Proofs.Ytbjpjjokamaliaa.A

/- placed: a position with a spot taken by somebody (a copy of the text's bytes is written). -/
namespace Go.Proofs.Ytbjpjjokamaliaa.A
open Go.RowKit Go.Proofs.YtbjpjjokamaliaaW.PrintWords Go.Proofs.YtbjpjjokamaliaaW.PrintMore

/-- A text with a byte changed, if there is such a byte. -/
def placedS (s : ByteArray) (i c : Int) : ByteArray := if 0 ≤ i ∧ i < s.size then strOfNums ((bytesOf s).set i.toNat c) else strOfNums (bytesOf s)
def drovewaylaw04_placed.f (a0 : ByteArray) (a1 : Int) (a2 : Int) : Option ByteArray := some (placedS a0 a1 a2)

theorem bytesWorld_frozen (w : World) (e : TypeId) (s : ByteArray) (k : Nat) (hk : k < s.size) : (Lib.bytesWorld w e s).frozen? ⟨w.heap.size, k, none⟩ = false := by
  have : s.size ≤ (Lib.bytesCells w e s).size := by
    simp [Lib.bytesCells]
  simp [World.frozen?, Lib.bytesWorld_at_new]
  omega
theorem bytesWorld_cells (w : World) (e : TypeId) (s : ByteArray) (k : Nat) (hk : k < s.size) : (Lib.bytesWorld w e s).cell? ⟨w.heap.size, k, none⟩ = some (.int .u8 ((bytesOf s).getD k 0)) := by
  rw [Lib.bytesWorld_cell w e s k hk]
  have h' : k < s.data.toList.length := by rw [data_length]; exact hk
  simp [bytesOf, List.getD_eq_getElem?_getD, List.getElem?_eq_getElem h']

set_option maxRecDepth 100000 in
set_option maxHeartbeats 800000 in
theorem drovewaylaw04_placed.calls (a0 : ByteArray) (a1 : Int) (a2 : Int) (r : ByteArray) (w : World) (h : drovewaylaw04_placed.f a0 a1 a2 = some r) :
    Calls Try.prog 15 #[.string a0, .int .i64 a1, .int .u8 a2] w fun e w' => e = .returned (.string r) ∧ Below w.heap.size w w' := by
  unfold drovewaylaw04_placed.f at h
  cases h
  have hbel : Below w.heap.size w (Lib.bytesWorld w 5 a0) := bytes_below (Below.refl _ _) (Nat.le_refl _) _ _
  have hlen := bytesOf_length a0
  have hcv : (convert 9 43 (.string a0)).run Try.prog w = .ok (.slice (some ⟨w.heap.size, 0, none⟩) a0.size (grownCap w a0.size 0 5)) (Lib.bytesWorld w 5 a0) := print_bytes (P := Try.prog) 9 43 5 Try.underlying9 Try.underlying43 Try.underlying5 a0 w
  have hback0 := run_convert_bytes_arg (P := Try.prog) (Lib.bytesWorld w 5 a0) 43 5 Try.underlying43 Try.underlying5 w.heap.size 0 a0.size (grownCap w a0.size 0 5) (bytesOf a0) hlen (fun i hi => by rw [Nat.zero_add]; exact bytesWorld_cells w 5 a0 i hi) 9 Try.underlying9
  by_cases h0 : 0 ≤ a1
  · by_cases h1 : a1 < (a0.size : Int)
    · obtain ⟨k, rfl⟩ := Int.eq_ofNat_of_zero_le h0
      have hk : k < a0.size := by omega
      have hf := bytesWorld_frozen w 5 a0 k hk
      have hc := bytesWorld_cells w 5 a0 k hk
      have hback := run_convert_bytes_arg (P := Try.prog) ((Lib.bytesWorld w 5 a0).setCell ⟨w.heap.size, k, none⟩ (.int .u8 a2)) 43 5 Try.underlying43 Try.underlying5 w.heap.size 0 a0.size (grownCap w a0.size 0 5) ((bytesOf a0).set k a2) (by simpa using hlen) (fun i hi => by
        rw [Nat.zero_add]
        by_cases e : k = i
        · subst e
          rw [World.cell?_setCell_same' _ _ _ (by rw [hc]; rfl)]
          simp [List.getD_eq_getElem?_getD, hlen, hk]
        · rw [World.cell?_setCell_other _ _ _ _ (by intro h; injection h with h1 h2; exact e h2), bytesWorld_cells w 5 a0 i hi]
          simp [List.getD_eq_getElem?_getD, List.getElem?_set_ne e]) 9 Try.underlying9
      have hbel2 : Below w.heap.size w ((Lib.bytesWorld w 5 a0).setCell ⟨w.heap.size, k, none⟩ (.int .u8 a2)) := hbel.setCell (Nat.le_refl _) _
      have hp : placedS a0 (k : Int) a2 = strOfNums ((bytesOf a0).set k a2) := by
        unfold placedS
        rw [if_pos ⟨h0, h1⟩]
        rfl
      rw [hp]
      generalize strOfNums ((bytesOf a0).set k a2) = res at hback ⊢
      clear hback0 hp hbel
      generalize Lib.bytesWorld w 5 a0 = W1 at *
      go_enter Try.func15, Try.ntmps15
      go_wp2
      exact bodyPost_ret (v := .string res) (by simp [results, Try.results15, go_sem]) rfl ⟨rfl, hbel2⟩
    · have hp : placedS a0 a1 a2 = strOfNums (bytesOf a0) := by
        unfold placedS
        rw [if_neg (by omega)]
      rw [hp]
      go_enter Try.func15, Try.ntmps15
      go_wp2
      exact bodyPost_ret (v := .string (strOfNums (bytesOf a0))) (by simp [results, Try.results15, go_sem]) rfl ⟨rfl, hbel⟩
  · have hp : placedS a0 a1 a2 = strOfNums (bytesOf a0) := by
      unfold placedS
      rw [if_neg (by omega)]
    rw [hp]
    go_enter Try.func15, Try.ntmps15
    go_wp2
    exact bodyPost_ret (v := .string (strOfNums (bytesOf a0))) (by simp [results, Try.results15, go_sem]) rfl ⟨rfl, hbel⟩
end Go.Proofs.Ytbjpjjokamaliaa.A

/- The law package's own 'alive' (what every right program knows) and 'pairs', as they are called. -/
namespace Go.Proofs.Ytbjpjjokamaliaa.B
open Go.Proofs.Ytbjpjjokamaliaa.A
open Go.RowKit Go.Proofs.YtbjpjjokamaliaaW.PrintWords Go.Proofs.YtbjpjjokamaliaaW.PrintLast Go.Proofs.YtbjpjjokamaliaaW.PrintMore
section
attribute [local go_sem] max2_int min2_int max_two min_two max_three min_three max_four min_four   -- for this text's walks alone
set_option linter.unusedVariables false
set_option linter.unusedSimpArgs false
def errW : Option Int → Value
  | none => .nilIface
  | some c => .iface 0 (.int .i64 c)
theorem errW_none : errW none = .nilIface := rfl
theorem errW_some (c : Int) : errW (some c) = .iface 0 (.int .i64 c) := rfl
theorem eqA59 (d : Nat) (w : World) (x0 y0 : Int) (x1 y1 : Int) :
    (Op.equalIn (d + 2) 59 (.agg #[.int .i64 x0, .int .i64 x1]) (.agg #[.int .i64 y0, .int .i64 y1])).run Try.prog w = .ok (x0 == y0 && (x1 == y1)) w := by
  refine eqA_of Try.underlying59 (by kernel_rfl) ?_
  refine eqf_cons (by rfl) (by go_simp; rfl) (by go_simp; rfl) (by go_simp) ?_
  exact eqf_last (by rfl) (by go_simp; rfl) (by go_simp; rfl) (by go_simp)
attribute [local go_sem high] eqA59
/-! ### drovewaylaw04_pairs: function 28 -/
def drovewaylaw04_pairs.l0 : Nat → List (S59) → List (S59) → Int → Option (Bool)
  | 0, _, _, _ => none
  | k + 1, x0, x1, x5 => if x5 < (x0.length : Int) then (if 0 ≤ x5 then (if x5 < (x1.length : Int) then (if (!(((rd_T59 x0 x5).f0) == ((rd_T59 x1 x5).f0)) || (!(((rd_T59 x0 x5).f1) == ((rd_T59 x1 x5).f1)))) = true then (some false) else (drovewaylaw04_pairs.l0 k x0 x1 (wrap64 (x5 + 1)))) else (none)) else (none)) else (some true)
def drovewaylaw04_pairs.f (k : Nat) (l0 : List (S59)) (l1 : List (S59)) : Option (Bool) := if (l0.length : Int) = (l1.length : Int) then (drovewaylaw04_pairs.l0 k l0 l1 0) else (some false)
theorem drovewaylaw04_pairs.mono_l : ∀ k, (∀ y0 y1 y2, LeO (drovewaylaw04_pairs.l0 k y0 y1 y2) (drovewaylaw04_pairs.l0 (k + 1) y0 y1 y2))
  | 0 => fun _ _ _ r h => by simp [drovewaylaw04_pairs.l0] at h
  | k + 1 => by
    have ih0 := drovewaylaw04_pairs.mono_l k
    · intro y0 y1 y2
      unfold drovewaylaw04_pairs.l0
      repeat' first
      | (with_reducible exact ih0 _ _ _)
      | (with_reducible exact LeO.refl _)
      | (with_reducible exact LeO.none _)
      | (with_reducible refine LeO.ite ?_ ?_)
      | (with_reducible refine LeO.bind ?_ (fun _ => ?_))
      | exact ih0 _ _ _
      | exact LeO.none _
      | refine LeO.ite ?_ ?_
      | refine LeO.bind ?_ (fun _ => ?_)
theorem drovewaylaw04_pairs.mono : ∀ a0 a1 k, LeO (drovewaylaw04_pairs.f k a0 a1) (drovewaylaw04_pairs.f (k + 1) a0 a1) := by
  intro a0 a1 k
  have ih0 := drovewaylaw04_pairs.mono_l k
  unfold drovewaylaw04_pairs.f
  repeat' first
      | (with_reducible exact ih0 _ _ _)
      | (with_reducible exact LeO.refl _)
      | (with_reducible exact LeO.none _)
      | (with_reducible refine LeO.ite ?_ ?_)
      | (with_reducible refine LeO.bind ?_ (fun _ => ?_))
      | exact ih0 _ _ _
      | exact LeO.none _
      | refine LeO.ite ?_ ?_
      | refine LeO.bind ?_ (fun _ => ?_)
set_option maxHeartbeats 8000000 in
set_option maxRecDepth 100000 in
theorem drovewaylaw04_pairs.calls (k : Nat) (A0 : Option Addr) (c0 : Nat) (l0 : List (S59)) (A1 : Option Addr) (c1 : Nat) (l1 : List (S59)) (r : Bool) (w : World) (hr0 : Kd.C k59 w A0 l0.length l0) (hc0 : l0.length ≤ c0) (hr1 : Kd.C k59 w A1 l1.length l1) (hc1 : l1.length ≤ c1) (h : drovewaylaw04_pairs.f k l0 l1 = some r) :
    Calls Try.prog 28 #[.slice A0 l0.length c0, .slice A1 l1.length c1] w fun e w' => e = .returned (.bool r) ∧ Drawn0 w w' := by
  have hu59 := Try.underlying59
  have HR0 := Aside0.mk hr0
  have HC0 := Aside0.mk hc0
  clear hr0 hc0
  have HR1 := Aside0.mk hr1
  have HC1 := Aside0.mk hc1
  clear hr1 hc1
  have H : (if (l0.length : Int) = (l1.length : Int) then (drovewaylaw04_pairs.l0 k l0 l1 0) else (some false)) = some r := h
  clear h
  by_cases c3 : (l0.length : Int) = (l1.length : Int)
  · rw [if_pos c3] at H
    have c3b0 : ((l0.length : Int) == (l1.length : Int)) = true := beq_iff_eq.mpr c3
    have c3b1 : ((l0.length : Int) != (l1.length : Int)) = false := bne_eq_false_iff_eq.mpr c3
    have c3b2 : (l0.length == l1.length) = true := by first | simpa using c3 | (simp at c3 ⊢; omega)
    clear c3
    have H' := Aside0.mk H
    clear H
    go_enter Try.func28, Try.ntmps28
    go_wp2
    repeat (go_quiet (fail); try go_wp2)
    go_loopg [5] k (fun kq v5 w' => ∃ (x5_1 : Int), v5 = .int .i64 x5_1 ∧ Aside0 (drovewaylaw04_pairs.l0 kq l0 l1 x5_1 = some r) ∧ Aside0 (kq ≤ k) ∧ Drawn0 w w')
    case atStart => exact ⟨(0), (by first | rfl | (simp; done) | (simp [*]; done)), H', ⟨Nat.le_refl _⟩, by repeat (first | exact Drawn0.refl _ | apply Drawn0.step)⟩
    case round =>
      clear H'
      try clear c1
      try clear c2
      try clear p2
      try clear c3
      try clear c3b0
      try clear c3b1
      try clear c3b2
      obtain ⟨x5_1, rfl, HA, HK1, ⟨m1, rfl⟩⟩ := hrel
      cases gk with
      | zero => exact absurd HA.out (by simp [drovewaylaw04_pairs.l0])
      | succ k1 =>
        have H := HA.out
        clear HA
        simp only [drovewaylaw04_pairs.l0] at H
        by_cases c4 : x5_1 < (l0.length : Int)
        · rw [if_pos c4] at H
          have c4b0 : decide (x5_1 < (l0.length : Int)) = true := decide_eq_true c4
          clear c4
          by_cases c5 : 0 ≤ x5_1
          · rw [if_pos c5] at H
            have c5b0 : decide (0 ≤ x5_1) = true := decide_eq_true c5
            clear c5
            by_cases c6 : x5_1 < (l1.length : Int)
            · rw [if_pos c6] at H
              have c6b0 : decide (x5_1 < (l1.length : Int)) = true := decide_eq_true c6
              clear c6
              by_cases c7 : (!(((rd_T59 l0 x5_1).f0) == ((rd_T59 l1 x5_1).f0)) || (!(((rd_T59 l0 x5_1).f1) == ((rd_T59 l1 x5_1).f1)))) = true
              · rw [if_pos c7] at H
                have c7b0 : (!(((rd_T59 l0 x5_1).f0) == ((rd_T59 l1 x5_1).f0)) || (!(((rd_T59 l0 x5_1).f1) == ((rd_T59 l1 x5_1).f1)))) = true := c7
                clear c7
                obtain rfl := Option.some.inj H
                have p101 : 0 ≤ (x5_1 : Int) := of_decide_eq_true (by first | (with_reducible assumption) | assumption)
                have q101 : x5_1 < (l0.length : Int) := of_decide_eq_true (by first | (with_reducible assumption) | assumption)
                obtain ⟨ad101, e101, hx101_0, hx101_1⟩ := at_T59 HR0.out x5_1 p101 q101
                cases e101
                replace p101 := eq_true p101
                replace q101 := eq_true q101
                have p102 : 0 ≤ (x5_1 : Int) := of_decide_eq_true (by first | (with_reducible assumption) | assumption)
                have q102 : x5_1 < (l1.length : Int) := of_decide_eq_true (by first | (with_reducible assumption) | assumption)
                obtain ⟨ad102, e102, hx102_0, hx102_1⟩ := at_T59 HR1.out x5_1 p102 q102
                cases e102
                replace p102 := eq_true p102
                replace q102 := eq_true q102
                go_wp2
                repeat (go_quiet (fail); try go_wp2)
                go_ret
                exact ⟨by first | rfl | (simp; done) | (simp [*]; done), by repeat (first | exact Drawn0.refl _ | apply Drawn0.step)⟩
              · rw [if_neg c7] at H
                have c7b0 : (!(((rd_T59 l0 x5_1).f0) == ((rd_T59 l1 x5_1).f0)) || (!(((rd_T59 l0 x5_1).f1) == ((rd_T59 l1 x5_1).f1)))) = false := by simpa using c7
                clear c7
                have H' := Aside0.mk H
                clear H
                have p101 : 0 ≤ (x5_1 : Int) := of_decide_eq_true (by first | (with_reducible assumption) | assumption)
                have q101 : x5_1 < (l0.length : Int) := of_decide_eq_true (by first | (with_reducible assumption) | assumption)
                obtain ⟨ad101, e101, hx101_0, hx101_1⟩ := at_T59 HR0.out x5_1 p101 q101
                cases e101
                replace p101 := eq_true p101
                replace q101 := eq_true q101
                have p102 : 0 ≤ (x5_1 : Int) := of_decide_eq_true (by first | (with_reducible assumption) | assumption)
                have q102 : x5_1 < (l1.length : Int) := of_decide_eq_true (by first | (with_reducible assumption) | assumption)
                obtain ⟨ad102, e102, hx102_0, hx102_1⟩ := at_T59 HR1.out x5_1 p102 q102
                cases e102
                replace p102 := eq_true p102
                replace q102 := eq_true q102
                go_wp2
                repeat (go_quiet (fail); try go_wp2)
                go_roundg k1
                case measure => have := HK1.out; omega
                case rel => exact ⟨(wrap64 (x5_1 + 1)), (by first | rfl | (simp; done) | (simp [*]; done)), H', ⟨by have := HK1.out; omega⟩, by repeat (first | exact Drawn0.refl _ | apply Drawn0.step)⟩
            · rw [if_neg c6] at H
              exact absurd H (by simp)
          · rw [if_neg c5] at H
            exact absurd H (by simp)
        · rw [if_neg c4] at H
          have c4b0 : decide (x5_1 < (l0.length : Int)) = false := decide_eq_false c4
          clear c4
          obtain rfl := Option.some.inj H
          go_wp2
          repeat (go_quiet (fail); try go_wp2)
          go_ret
          exact ⟨by first | rfl | (simp; done) | (simp [*]; done), by repeat (first | exact Drawn0.refl _ | apply Drawn0.step)⟩
  · rw [if_neg c3] at H
    have c3b0 : ((l0.length : Int) == (l1.length : Int)) = false := beq_eq_false_iff_ne.mpr c3
    have c3b1 : ((l0.length : Int) != (l1.length : Int)) = true := bne_iff_ne.mpr c3
    have c3b2 : (l0.length == l1.length) = false := by first | simpa using c3 | (simp at c3 ⊢; omega)
    obtain rfl := Option.some.inj H
    go_enter Try.func28, Try.ntmps28
    go_wp2
    repeat (go_quiet (fail); try go_wp2)
    go_ret
    exact ⟨by first | rfl | (simp; done) | (simp [*]; done), by repeat (first | exact Drawn0.refl _ | apply Drawn0.step)⟩

def drovewaylaw04_alive.f : Option Bool := some true
set_option maxHeartbeats 8000000 in
set_option maxRecDepth 100000 in
theorem drovewaylaw04_alive.calls (r : Bool) (w : World) (h : drovewaylaw04_alive.f = some r) :
    Calls Try.prog 12 #[] w fun e w' => e = .returned (.bool r) ∧ Below w.heap.size w w' := by
  have hu59 := Try.underlying59
  have HB := Aside0.mk (Below.refl w.heap.size w)
  have hr : r = true := by cases h; rfl
  clear h
  obtain ⟨y103, hy⟩ : ∃ y_ : List Int, y_ = ([3, 5, 6] : List Int) := ⟨_, rfl⟩
  obtain ⟨t106, t107, A0, c7, c6⟩ : ∃ (t106 : ByteArray) (t107 : Int), ambush_Winner.f 3 y103 (⟨#[46, 46, 46]⟩ : ByteArray) (⟨#[119]⟩ : ByteArray) = some (t106, t107) ∧ t106.toList = ([119] : List UInt8) ∧ t107 = 0 := by subst hy; exact ⟨⟨#[119]⟩, 0, by kernel_rfl, by decide +kernel, rfl⟩
  have Ny103 := Aside0.mk hy
  clear hy
  have A1 := Aside0.mk A0
  clear A0
  obtain ⟨y108, hy⟩ : ∃ y_ : List Int, y_ = ([3, 5, 6] : List Int) := ⟨_, rfl⟩
  obtain ⟨t111, t112, A0, c9, c8⟩ : ∃ (t111 : ByteArray) (t112 : Int), ambush_Winner.f 3 y108 (⟨#[46, 46, 46]⟩ : ByteArray) (⟨#[100]⟩ : ByteArray) = some (t111, t112) ∧ t111.toList = ([100] : List UInt8) ∧ t112 = 0 := by subst hy; exact ⟨⟨#[100]⟩, 0, by kernel_rfl, by decide +kernel, rfl⟩
  have Ny108 := Aside0.mk hy
  clear hy
  have A2 := Aside0.mk A0
  clear A0
  obtain ⟨y113, hy⟩ : ∃ y_ : List Int, y_ = ([3] : List Int) := ⟨_, rfl⟩
  obtain ⟨t116, t117, A0, c11, c10⟩ : ∃ (t116 : Int) (t117 : Int), ambush_Danger.f 2 y113 (⟨#[119, 46]⟩ : ByteArray) = some (t116, t117) ∧ t116 = 2 ∧ t117 = 0 := by subst hy; exact ⟨2, 0, by kernel_rfl, rfl, rfl⟩
  have Ny113 := Aside0.mk hy
  clear hy
  have A3 := Aside0.mk A0
  clear A0
  obtain ⟨y118, hy⟩ : ∃ y_ : List Int, y_ = ([3] : List Int) := ⟨_, rfl⟩
  obtain ⟨t121, t122, A0, c13, c12⟩ : ∃ (t121 : List S59) (t122 : Int), ambush_Pairing.f 2 y118 = some (t121, t122) ∧ t121 = [⟨0, 1⟩] ∧ t122 = 0 := by subst hy; exact ⟨[⟨0, 1⟩], 0, by kernel_rfl, rfl, rfl⟩
  have Ny118 := Aside0.mk hy
  clear hy
  have A4 := Aside0.mk A0
  clear A0
  obtain ⟨y125, hy⟩ : ∃ y_ : List Int, y_ = ([3, 5, 6] : List Int) := ⟨_, rfl⟩
  obtain ⟨t128, t129, A0, c16, c15⟩ : ∃ (t128 : Int) (t129 : Int), ambush_Needs.f 3 y125 = some (t128, t129) ∧ t128 = 1 ∧ t129 = 0 := by subst hy; exact ⟨1, 0, by kernel_rfl, rfl, rfl⟩
  have Ny125 := Aside0.mk hy
  clear hy
  have A5 := Aside0.mk A0
  clear A0
  obtain ⟨y130, hy130⟩ : ∃ y_ : List (S59), y_ = (([(⟨0, 1⟩ : S59)] : List (S59))) := ⟨_, rfl⟩
  obtain ⟨k, t133, A130, c14⟩ : ∃ (k : Nat) (t133 : Bool), drovewaylaw04_pairs.f k t121 y130 = some t133 ∧ t133 = true := by subst hy130; subst c13; exact ⟨3, true, by kernel_rfl, rfl⟩
  have Ny130 := Aside0.mk hy130
  clear hy130 c13
  have A13 := Aside0.mk A130
  clear A130
  subst c14
  have c6b0 : (t107 == 0) = true := beq_iff_eq.mpr c6
  have c6b1 : (t107 != 0) = false := bne_eq_false_iff_eq.mpr c6
  clear c6
  have c7b0 : (t106.toList == ([119] : List UInt8)) = true := beq_iff_eq.mpr c7
  have c7b1 : (t106.toList != ([119] : List UInt8)) = false := bne_eq_false_iff_eq.mpr c7
  clear c7
  have c8b0 : (t112 == 0) = true := beq_iff_eq.mpr c8
  have c8b1 : (t112 != 0) = false := bne_eq_false_iff_eq.mpr c8
  clear c8
  have c9b0 : (t111.toList == ([100] : List UInt8)) = true := beq_iff_eq.mpr c9
  have c9b1 : (t111.toList != ([100] : List UInt8)) = false := bne_eq_false_iff_eq.mpr c9
  clear c9
  have c10b0 : (t117 == 0) = true := beq_iff_eq.mpr c10
  have c10b1 : (t117 != 0) = false := bne_eq_false_iff_eq.mpr c10
  clear c10
  have c11b0 : (t116 == 2) = true := beq_iff_eq.mpr c11
  have c11b1 : (t116 != 2) = false := bne_eq_false_iff_eq.mpr c11
  clear c11
  have c12b0 : (t122 == 0) = true := beq_iff_eq.mpr c12
  have c12b1 : (t122 != 0) = false := bne_eq_false_iff_eq.mpr c12
  clear c12
  have c15b0 : (t129 == 0) = true := beq_iff_eq.mpr c15
  have c15b1 : (t129 != 0) = false := bne_eq_false_iff_eq.mpr c15
  clear c15
  have H : (some (t128 == 1)) = some r := by rw [c16, hr]; rfl
  clear c16 hr
  obtain rfl := Option.some.inj H
  go_enter Try.func12, Try.ntmps12
  go_wp2_with (first | ((with_reducible refine gate_dst (N := 12) rfl ?_); (try (refine gate_guard (by rfl) ?_; dsimp only)); refine Kd.R_lit (Kd.int .i64) _ 3 ?hg (N := 12) ?hd (xs := ([3, 5, 6] : List Int)) (inner := [.int .i64 3, .int .i64 5, .int .i64 6]) (ok := fun _ => True) (okp := fun _ => True) ?hr ?hp (fun _ hk => hk) trivial (Below.refl _ _) (Nat.le_refl _) (by simp) ?_; (case hd => rfl); (case hg => rfl); (case hr => first | (go_simp; done) | (go_simp; rfl)); (case hp => exact (Reps.one (show Kd.M (Kd.int .i64) _ _ _ 3 [.int .i64 3] from rfl) (Reps.one (show Kd.M (Kd.int .i64) _ _ _ 5 [.int .i64 5] from rfl) (Reps.one (show Kd.M (Kd.int .i64) _ _ _ 6 [.int .i64 6] from rfl) (Reps.none _ _))))); intro v104 w16 ho17 hb hg_ hnew_; clear hg_ hnew_; (first | rw [← Ny103.out] at ho17 | (simp only [Int.reduceToNat] at ho17; rw [← Ny103.out] at ho17)); have n0_ := Aside0.mk (Kd.R_lower ho17 (below_size (by repeat (first | (with_reducible first | exact HB.out | apply below_alloc | apply pw_below_drewN | apply below_drew1) | exact HB.out)))); have n1_ := Aside0.mk (below_step (by repeat (first | (with_reducible first | exact HB.out | apply below_alloc | apply pw_below_drewN | apply below_drew1) | exact HB.out)) hb); clear HB; have HO105 := n0_; have HB := n1_; clear n0_ n1_; clear hb ho17; obtain ⟨Ao18, co18, eo18⟩ := Kd.R_slice HO105.out; subst eo18) | ((with_reducible refine gate_callee (f := 14) rfl ?_); refine goesL_ (some 13) rfl rfl Try.func14 (by kernel_rfl) rfl #[.int .i64 3, .slice Ao18 y103.length co18, .string (⟨#[46, 46, 46]⟩ : ByteArray), .string (⟨#[119]⟩ : ByteArray)] rfl (by (try simp only [List.map_toArray, List.map_cons, List.map_nil]); first | done | rfl | (simp only [List.length_drop, List.length_take]; rfl)) ?_; (with_reducible refine (ambush_Winner.calls 3 _ _ y103 (⟨#[46, 46, 46]⟩ : ByteArray) (⟨#[119]⟩ : ByteArray) t106 t107 _ ?side1 ?side2 A1.out).mono ?_); (case side1 => repeat (first | exact (Kd.R_reads' HO105.out).2.2 | (with_reducible refine Kd.C_alloc ?_ _) | (with_reducible refine Kd.C_drewN ?_ _) | (with_reducible refine Kd.C_drew ?_))); (case side2 => exact (Kd.R_reads' HO105.out).2.1); rintro e w19 ⟨rfl, hb⟩; refine ⟨_, rfl, ?_⟩; have n0_ := Aside0.mk (Kd.R_below (by (with_reducible repeat (first | apply Kd.R_alloc | apply Kd.R_drewN | apply Kd.R_drew)); exact HO105.out) hb); have n1_ := Aside0.mk (below_step (by repeat (first | (with_reducible first | exact HB.out | apply below_alloc | apply pw_below_drewN | apply below_drew1) | exact HB.out)) hb); clear HO105; clear HB; have HO105 := n0_; have HB := n1_; clear n0_ n1_; (try clear hb); (try clear hb2); (try clear hk); (try clear hi)) | ((with_reducible refine gate_dst (N := 17) rfl ?_); (try (refine gate_guard (by rfl) ?_; dsimp only)); refine Kd.R_lit (Kd.int .i64) _ 3 ?hg (N := 17) ?hd (xs := ([3, 5, 6] : List Int)) (inner := [.int .i64 3, .int .i64 5, .int .i64 6]) (ok := fun _ => True) (okp := fun _ => True) ?hr ?hp (fun _ hk => hk) trivial (Below.refl _ _) (Nat.le_refl _) (by simp) ?_; (case hd => rfl); (case hg => rfl); (case hr => first | (go_simp; done) | (go_simp; rfl)); (case hp => exact (Reps.one (show Kd.M (Kd.int .i64) _ _ _ 3 [.int .i64 3] from rfl) (Reps.one (show Kd.M (Kd.int .i64) _ _ _ 5 [.int .i64 5] from rfl) (Reps.one (show Kd.M (Kd.int .i64) _ _ _ 6 [.int .i64 6] from rfl) (Reps.none _ _))))); intro v109 w20 ho21 hb hg_ hnew_; clear hg_ hnew_; (first | rw [← Ny108.out] at ho21 | (simp only [Int.reduceToNat] at ho21; rw [← Ny108.out] at ho21)); have n0_ := Aside0.mk (Kd.R_elder' (by (with_reducible repeat (first | apply Kd.R_alloc | apply Kd.R_drewN | apply Kd.R_drew)); exact HO105.out) (Kd.R_base ho21) hb); have n1_ := Aside0.mk (Kd.R_lower (Kd.R_new' ho21 (Kd.R_lt (by (with_reducible repeat (first | apply Kd.R_alloc | apply Kd.R_drewN | apply Kd.R_drew)); exact HO105.out))) (below_size (by repeat (first | (with_reducible first | exact HB.out | apply below_alloc | apply pw_below_drewN | apply below_drew1) | exact HB.out)))); have n2_ := Aside0.mk (below_step (by repeat (first | (with_reducible first | exact HB.out | apply below_alloc | apply pw_below_drewN | apply below_drew1) | exact HB.out)) hb); clear HO105; clear HB; have HO105 := n0_; have HO110 := n1_; have HB := n2_; clear n0_ n1_ n2_; clear hb ho21; obtain ⟨Ao22, co22, eo22⟩ := Kd.R_slice HO110.out; subst eo22) | ((with_reducible refine gate_callee (f := 14) rfl ?_); refine goesL_ (some 18) rfl rfl Try.func14 (by kernel_rfl) rfl #[.int .i64 3, .slice Ao22 y108.length co22, .string (⟨#[46, 46, 46]⟩ : ByteArray), .string (⟨#[100]⟩ : ByteArray)] rfl (by (try simp only [List.map_toArray, List.map_cons, List.map_nil]); first | done | rfl | (simp only [List.length_drop, List.length_take]; rfl)) ?_; (with_reducible refine (ambush_Winner.calls 3 _ _ y108 (⟨#[46, 46, 46]⟩ : ByteArray) (⟨#[100]⟩ : ByteArray) t111 t112 _ ?side1 ?side2 A2.out).mono ?_); (case side1 => repeat (first | exact (Kd.R_reads' HO110.out).2.2 | (with_reducible refine Kd.C_alloc ?_ _) | (with_reducible refine Kd.C_drewN ?_ _) | (with_reducible refine Kd.C_drew ?_))); (case side2 => exact (Kd.R_reads' HO110.out).2.1); rintro e w23 ⟨rfl, hb⟩; refine ⟨_, rfl, ?_⟩; have n0_ := Aside0.mk (Kd.R_below (by (with_reducible repeat (first | apply Kd.R_alloc | apply Kd.R_drewN | apply Kd.R_drew)); exact HO105.out) hb); have n1_ := Aside0.mk (Kd.R_below (by (with_reducible repeat (first | apply Kd.R_alloc | apply Kd.R_drewN | apply Kd.R_drew)); exact HO110.out) hb); have n2_ := Aside0.mk (below_step (by repeat (first | (with_reducible first | exact HB.out | apply below_alloc | apply pw_below_drewN | apply below_drew1) | exact HB.out)) hb); clear HO105; clear HO110; clear HB; have HO105 := n0_; have HO110 := n1_; have HB := n2_; clear n0_ n1_ n2_; (try clear hb); (try clear hb2); (try clear hk); (try clear hi)) | ((with_reducible refine gate_dst (N := 22) rfl ?_); (try (refine gate_guard (by rfl) ?_; dsimp only)); refine Kd.R_lit (Kd.int .i64) _ 3 ?hg (N := 22) ?hd (xs := ([3] : List Int)) (inner := [.int .i64 3]) (ok := fun _ => True) (okp := fun _ => True) ?hr ?hp (fun _ hk => hk) trivial (Below.refl _ _) (Nat.le_refl _) (by simp) ?_; (case hd => rfl); (case hg => rfl); (case hr => first | (go_simp; done) | (go_simp; rfl)); (case hp => exact (Reps.one (show Kd.M (Kd.int .i64) _ _ _ 3 [.int .i64 3] from rfl) (Reps.none _ _))); intro v114 w24 ho25 hb hg_ hnew_; clear hg_ hnew_; (first | rw [← Ny113.out] at ho25 | (simp only [Int.reduceToNat] at ho25; rw [← Ny113.out] at ho25)); have n0_ := Aside0.mk (Kd.R_elder' (by (with_reducible repeat (first | apply Kd.R_alloc | apply Kd.R_drewN | apply Kd.R_drew)); exact HO105.out) (Kd.R_base ho25) hb); have n1_ := Aside0.mk (Kd.R_elder' (by (with_reducible repeat (first | apply Kd.R_alloc | apply Kd.R_drewN | apply Kd.R_drew)); exact HO110.out) (Kd.R_base ho25) hb); have n2_ := Aside0.mk (Kd.R_lower (Kd.R_new' (Kd.R_new' ho25 (Kd.R_lt (by (with_reducible repeat (first | apply Kd.R_alloc | apply Kd.R_drewN | apply Kd.R_drew)); exact HO105.out))) (Kd.R_lt (by (with_reducible repeat (first | apply Kd.R_alloc | apply Kd.R_drewN | apply Kd.R_drew)); exact HO110.out))) (below_size (by repeat (first | (with_reducible first | exact HB.out | apply below_alloc | apply pw_below_drewN | apply below_drew1) | exact HB.out)))); have n3_ := Aside0.mk (below_step (by repeat (first | (with_reducible first | exact HB.out | apply below_alloc | apply pw_below_drewN | apply below_drew1) | exact HB.out)) hb); clear HO105; clear HO110; clear HB; have HO105 := n0_; have HO110 := n1_; have HO115 := n2_; have HB := n3_; clear n0_ n1_ n2_ n3_; clear hb ho25; obtain ⟨Ao26, co26, eo26⟩ := Kd.R_slice HO115.out; subst eo26) | ((with_reducible refine gate_callee (f := 21) rfl ?_); refine goesL_ (some 23) rfl rfl Try.func21 (by kernel_rfl) rfl #[.int .i64 2, .slice Ao26 y113.length co26, .string (⟨#[119, 46]⟩ : ByteArray)] rfl (by (try simp only [List.map_toArray, List.map_cons, List.map_nil]); first | done | rfl | (simp only [List.length_drop, List.length_take]; rfl)) ?_; (with_reducible refine (ambush_Danger.calls 2 _ _ y113 (⟨#[119, 46]⟩ : ByteArray) t116 t117 _ ?side1 ?side2 A3.out).mono ?_); (case side1 => repeat (first | exact (Kd.R_reads' HO115.out).2.2 | (with_reducible refine Kd.C_alloc ?_ _) | (with_reducible refine Kd.C_drewN ?_ _) | (with_reducible refine Kd.C_drew ?_))); (case side2 => exact (Kd.R_reads' HO115.out).2.1); rintro e w27 ⟨rfl, hb⟩; refine ⟨_, rfl, ?_⟩; have n0_ := Aside0.mk (Kd.R_below (by (with_reducible repeat (first | apply Kd.R_alloc | apply Kd.R_drewN | apply Kd.R_drew)); exact HO105.out) hb); have n1_ := Aside0.mk (Kd.R_below (by (with_reducible repeat (first | apply Kd.R_alloc | apply Kd.R_drewN | apply Kd.R_drew)); exact HO110.out) hb); have n2_ := Aside0.mk (Kd.R_below (by (with_reducible repeat (first | apply Kd.R_alloc | apply Kd.R_drewN | apply Kd.R_drew)); exact HO115.out) hb); have n3_ := Aside0.mk (below_step (by repeat (first | (with_reducible first | exact HB.out | apply below_alloc | apply pw_below_drewN | apply below_drew1) | exact HB.out)) hb); clear HO105; clear HO110; clear HO115; clear HB; have HO105 := n0_; have HO110 := n1_; have HO115 := n2_; have HB := n3_; clear n0_ n1_ n2_ n3_; (try clear hb); (try clear hb2); (try clear hk); (try clear hi)) | ((with_reducible refine gate_dst (N := 27) rfl ?_); (try (refine gate_guard (by rfl) ?_; dsimp only)); refine Kd.R_lit (Kd.int .i64) _ 3 ?hg (N := 27) ?hd (xs := ([3] : List Int)) (inner := [.int .i64 3]) (ok := fun _ => True) (okp := fun _ => True) ?hr ?hp (fun _ hk => hk) trivial (Below.refl _ _) (Nat.le_refl _) (by simp) ?_; (case hd => rfl); (case hg => rfl); (case hr => first | (go_simp; done) | (go_simp; rfl)); (case hp => exact (Reps.one (show Kd.M (Kd.int .i64) _ _ _ 3 [.int .i64 3] from rfl) (Reps.none _ _))); intro v119 w28 ho29 hb hg_ hnew_; clear hg_ hnew_; (first | rw [← Ny118.out] at ho29 | (simp only [Int.reduceToNat] at ho29; rw [← Ny118.out] at ho29)); have n0_ := Aside0.mk (Kd.R_elder' (by (with_reducible repeat (first | apply Kd.R_alloc | apply Kd.R_drewN | apply Kd.R_drew)); exact HO105.out) (Kd.R_base ho29) hb); have n1_ := Aside0.mk (Kd.R_elder' (by (with_reducible repeat (first | apply Kd.R_alloc | apply Kd.R_drewN | apply Kd.R_drew)); exact HO110.out) (Kd.R_base ho29) hb); have n2_ := Aside0.mk (Kd.R_elder' (by (with_reducible repeat (first | apply Kd.R_alloc | apply Kd.R_drewN | apply Kd.R_drew)); exact HO115.out) (Kd.R_base ho29) hb); have n3_ := Aside0.mk (Kd.R_lower (Kd.R_new' (Kd.R_new' (Kd.R_new' ho29 (Kd.R_lt (by (with_reducible repeat (first | apply Kd.R_alloc | apply Kd.R_drewN | apply Kd.R_drew)); exact HO105.out))) (Kd.R_lt (by (with_reducible repeat (first | apply Kd.R_alloc | apply Kd.R_drewN | apply Kd.R_drew)); exact HO110.out))) (Kd.R_lt (by (with_reducible repeat (first | apply Kd.R_alloc | apply Kd.R_drewN | apply Kd.R_drew)); exact HO115.out))) (below_size (by repeat (first | (with_reducible first | exact HB.out | apply below_alloc | apply pw_below_drewN | apply below_drew1) | exact HB.out)))); have n4_ := Aside0.mk (below_step (by repeat (first | (with_reducible first | exact HB.out | apply below_alloc | apply pw_below_drewN | apply below_drew1) | exact HB.out)) hb); clear HO105; clear HO110; clear HO115; clear HB; have HO105 := n0_; have HO110 := n1_; have HO115 := n2_; have HO120 := n3_; have HB := n4_; clear n0_ n1_ n2_ n3_ n4_; clear hb ho29; obtain ⟨Ao30, co30, eo30⟩ := Kd.R_slice HO120.out; subst eo30) | ((with_reducible refine gate_callee (f := 26) rfl ?_); refine goesL_ (some 28) rfl rfl Try.func26 (by kernel_rfl) rfl #[.int .i64 2, .slice Ao30 y118.length co30] rfl (by (try simp only [List.map_toArray, List.map_cons, List.map_nil]); first | done | rfl | (simp only [List.length_drop, List.length_take]; rfl)) ?_; (with_reducible refine (ambush_Pairing.calls 2 _ _ y118 t121 t122 _ ?side1 ?side2 A4.out).mono ?_); (case side1 => repeat (first | exact (Kd.R_reads' HO120.out).2.2 | (with_reducible refine Kd.C_alloc ?_ _) | (with_reducible refine Kd.C_drewN ?_ _) | (with_reducible refine Kd.C_drew ?_))); (case side2 => exact (Kd.R_reads' HO120.out).2.1); rintro e w31 ⟨v123, rfl, ho0, hb⟩; refine ⟨_, rfl, ?_⟩; have n0_ := Aside0.mk (Kd.R_below (by (with_reducible repeat (first | apply Kd.R_alloc | apply Kd.R_drewN | apply Kd.R_drew)); exact HO105.out) hb); have n1_ := Aside0.mk (Kd.R_below (by (with_reducible repeat (first | apply Kd.R_alloc | apply Kd.R_drewN | apply Kd.R_drew)); exact HO110.out) hb); have n2_ := Aside0.mk (Kd.R_below (by (with_reducible repeat (first | apply Kd.R_alloc | apply Kd.R_drewN | apply Kd.R_drew)); exact HO115.out) hb); have n3_ := Aside0.mk (Kd.R_below (by (with_reducible repeat (first | apply Kd.R_alloc | apply Kd.R_drewN | apply Kd.R_drew)); exact HO120.out) hb); have n4_ := Aside0.mk (Kd.R_lower ho0 (below_size (by repeat (first | (with_reducible first | exact HB.out | apply below_alloc | apply pw_below_drewN | apply below_drew1) | exact HB.out)))); have n5_ := Aside0.mk (below_step (by repeat (first | (with_reducible first | exact HB.out | apply below_alloc | apply pw_below_drewN | apply below_drew1) | exact HB.out)) hb); clear HO105; clear HO110; clear HO115; clear HO120; clear HB; have HO105 := n0_; have HO110 := n1_; have HO115 := n2_; have HO120 := n3_; have HO124 := n4_; have HB := n5_; clear n0_ n1_ n2_ n3_ n4_ n5_; (try clear hb); (try clear hb2); (try clear hk); (try clear hi); (try clear ho0)) | ((with_reducible refine gate_dst (N := 32) rfl ?_); (try (refine gate_guard (by rfl) ?_; dsimp only)); refine Kd.R_lit (Kd.int .i64) _ 3 ?hg (N := 32) ?hd (xs := ([3, 5, 6] : List Int)) (inner := [.int .i64 3, .int .i64 5, .int .i64 6]) (ok := fun _ => True) (okp := fun _ => True) ?hr ?hp (fun _ hk => hk) trivial (Below.refl _ _) (Nat.le_refl _) (by simp) ?_; (case hd => rfl); (case hg => rfl); (case hr => first | (go_simp; done) | (go_simp; rfl)); (case hp => exact (Reps.one (show Kd.M (Kd.int .i64) _ _ _ 3 [.int .i64 3] from rfl) (Reps.one (show Kd.M (Kd.int .i64) _ _ _ 5 [.int .i64 5] from rfl) (Reps.one (show Kd.M (Kd.int .i64) _ _ _ 6 [.int .i64 6] from rfl) (Reps.none _ _))))); intro v126 w32 ho33 hb hg_ hnew_; clear hg_ hnew_; (first | rw [← Ny125.out] at ho33 | (simp only [Int.reduceToNat] at ho33; rw [← Ny125.out] at ho33)); have n0_ := Aside0.mk (Kd.R_elder' (by (with_reducible repeat (first | apply Kd.R_alloc | apply Kd.R_drewN | apply Kd.R_drew)); exact HO105.out) (Kd.R_base ho33) hb); have n1_ := Aside0.mk (Kd.R_elder' (by (with_reducible repeat (first | apply Kd.R_alloc | apply Kd.R_drewN | apply Kd.R_drew)); exact HO110.out) (Kd.R_base ho33) hb); have n2_ := Aside0.mk (Kd.R_elder' (by (with_reducible repeat (first | apply Kd.R_alloc | apply Kd.R_drewN | apply Kd.R_drew)); exact HO115.out) (Kd.R_base ho33) hb); have n3_ := Aside0.mk (Kd.R_elder' (by (with_reducible repeat (first | apply Kd.R_alloc | apply Kd.R_drewN | apply Kd.R_drew)); exact HO120.out) (Kd.R_base ho33) hb); have n4_ := Aside0.mk (Kd.R_below (by (with_reducible repeat (first | apply Kd.R_alloc | apply Kd.R_drewN | apply Kd.R_drew)); exact HO124.out) hb); have n5_ := Aside0.mk (Kd.R_lower (Kd.R_new' (Kd.R_new' (Kd.R_new' (Kd.R_new' ho33 (Kd.R_lt (by (with_reducible repeat (first | apply Kd.R_alloc | apply Kd.R_drewN | apply Kd.R_drew)); exact HO105.out))) (Kd.R_lt (by (with_reducible repeat (first | apply Kd.R_alloc | apply Kd.R_drewN | apply Kd.R_drew)); exact HO110.out))) (Kd.R_lt (by (with_reducible repeat (first | apply Kd.R_alloc | apply Kd.R_drewN | apply Kd.R_drew)); exact HO115.out))) (Kd.R_lt (by (with_reducible repeat (first | apply Kd.R_alloc | apply Kd.R_drewN | apply Kd.R_drew)); exact HO120.out))) (below_size (by repeat (first | (with_reducible first | exact HB.out | apply below_alloc | apply pw_below_drewN | apply below_drew1) | exact HB.out)))); have n6_ := Aside0.mk (below_step (by repeat (first | (with_reducible first | exact HB.out | apply below_alloc | apply pw_below_drewN | apply below_drew1) | exact HB.out)) hb); clear HO105; clear HO110; clear HO115; clear HO120; clear HO124; clear HB; have HO105 := n0_; have HO110 := n1_; have HO115 := n2_; have HO120 := n3_; have HO124 := n4_; have HO127 := n5_; have HB := n6_; clear n0_ n1_ n2_ n3_ n4_ n5_ n6_; clear hb ho33; obtain ⟨Ao34, co34, eo34⟩ := Kd.R_slice HO127.out; subst eo34) | ((with_reducible refine gate_callee (f := 20) rfl ?_); refine goesL_ (some 33) rfl rfl Try.func20 (by kernel_rfl) rfl #[.int .i64 3, .slice Ao34 y125.length co34] rfl (by (try simp only [List.map_toArray, List.map_cons, List.map_nil]); first | done | rfl | (simp only [List.length_drop, List.length_take]; rfl)) ?_; (with_reducible refine (ambush_Needs.calls 3 _ _ y125 t128 t129 _ ?side1 ?side2 A5.out).mono ?_); (case side1 => repeat (first | exact (Kd.R_reads' HO127.out).2.2 | (with_reducible refine Kd.C_alloc ?_ _) | (with_reducible refine Kd.C_drewN ?_ _) | (with_reducible refine Kd.C_drew ?_))); (case side2 => exact (Kd.R_reads' HO127.out).2.1); rintro e w35 ⟨rfl, hb⟩; refine ⟨_, rfl, ?_⟩; have n0_ := Aside0.mk (Kd.R_below (by (with_reducible repeat (first | apply Kd.R_alloc | apply Kd.R_drewN | apply Kd.R_drew)); exact HO105.out) hb); have n1_ := Aside0.mk (Kd.R_below (by (with_reducible repeat (first | apply Kd.R_alloc | apply Kd.R_drewN | apply Kd.R_drew)); exact HO110.out) hb); have n2_ := Aside0.mk (Kd.R_below (by (with_reducible repeat (first | apply Kd.R_alloc | apply Kd.R_drewN | apply Kd.R_drew)); exact HO115.out) hb); have n3_ := Aside0.mk (Kd.R_below (by (with_reducible repeat (first | apply Kd.R_alloc | apply Kd.R_drewN | apply Kd.R_drew)); exact HO120.out) hb); have n4_ := Aside0.mk (Kd.R_below (by (with_reducible repeat (first | apply Kd.R_alloc | apply Kd.R_drewN | apply Kd.R_drew)); exact HO124.out) hb); have n5_ := Aside0.mk (Kd.R_below (by (with_reducible repeat (first | apply Kd.R_alloc | apply Kd.R_drewN | apply Kd.R_drew)); exact HO127.out) hb); have n6_ := Aside0.mk (below_step (by repeat (first | (with_reducible first | exact HB.out | apply below_alloc | apply pw_below_drewN | apply below_drew1) | exact HB.out)) hb); clear HO105; clear HO110; clear HO115; clear HO120; clear HO124; clear HO127; clear HB; have HO105 := n0_; have HO110 := n1_; have HO115 := n2_; have HO120 := n3_; have HO124 := n4_; have HO127 := n5_; have HB := n6_; clear n0_ n1_ n2_ n3_ n4_ n5_ n6_; (try clear hb); (try clear hb2); (try clear hk); (try clear hi)) | ((with_reducible refine gate_dst (N := 65) rfl ?_); (try (refine gate_guard (by rfl) ?_; dsimp only)); refine Kd.R_lit k59 _ 59 ?hg (N := 65) ?hd (xs := ([(⟨0, 1⟩ : S59)] : List (S59))) (inner := [.int .i64 0, .int .i64 1]) (ok := fun _ => True) (okp := fun _ => True) ?hr ?hp (fun _ hk => hk) trivial (Below.refl _ _) (Nat.le_refl _) (by simp) ?_; (case hd => rfl); (case hg => rfl); (case hr => first | (go_simp; done) | (go_simp; rfl)); (case hp => exact (Reps.c2 (show Kd.M k59 _ _ _ (⟨0, 1⟩ : S59) [.int .i64 0, .int .i64 1] from (k59_mkM _ _ _ (⟨0, 1⟩ : S59) )) (Reps.none _ _))); intro v131 w36 ho37 hb hg_ hnew_; clear hg_ hnew_; (first | rw [← Ny130.out] at ho37 | (simp only [Int.reduceToNat] at ho37; rw [← Ny130.out] at ho37)); have n0_ := Aside0.mk (Kd.R_below (by (with_reducible repeat (first | apply Kd.R_alloc | apply Kd.R_drewN | apply Kd.R_drew)); exact HO105.out) hb); have n1_ := Aside0.mk (Kd.R_below (by (with_reducible repeat (first | apply Kd.R_alloc | apply Kd.R_drewN | apply Kd.R_drew)); exact HO110.out) hb); have n2_ := Aside0.mk (Kd.R_below (by (with_reducible repeat (first | apply Kd.R_alloc | apply Kd.R_drewN | apply Kd.R_drew)); exact HO115.out) hb); have n3_ := Aside0.mk (Kd.R_below (by (with_reducible repeat (first | apply Kd.R_alloc | apply Kd.R_drewN | apply Kd.R_drew)); exact HO120.out) hb); have n4_ := Aside0.mk (Kd.R_elder' (by (with_reducible repeat (first | apply Kd.R_alloc | apply Kd.R_drewN | apply Kd.R_drew)); exact HO124.out) (Kd.R_base ho37) hb); have n5_ := Aside0.mk (Kd.R_below (by (with_reducible repeat (first | apply Kd.R_alloc | apply Kd.R_drewN | apply Kd.R_drew)); exact HO127.out) hb); have n6_ := Aside0.mk (Kd.R_lower (Kd.R_new' ho37 (Kd.R_lt (by (with_reducible repeat (first | apply Kd.R_alloc | apply Kd.R_drewN | apply Kd.R_drew)); exact HO124.out))) (below_size (by repeat (first | (with_reducible first | exact HB.out | apply below_alloc | apply pw_below_drewN | apply below_drew1) | exact HB.out)))); have n7_ := Aside0.mk (below_step (by repeat (first | (with_reducible first | exact HB.out | apply below_alloc | apply pw_below_drewN | apply below_drew1) | exact HB.out)) hb); clear HO105; clear HO110; clear HO115; clear HO120; clear HO124; clear HO127; clear HB; have HO105 := n0_; have HO110 := n1_; have HO115 := n2_; have HO120 := n3_; have HO124 := n4_; have HO127 := n5_; have HO132 := n6_; have HB := n7_; clear n0_ n1_ n2_ n3_ n4_ n5_ n6_ n7_; clear hb ho37; obtain ⟨Ao38, co38, eo38⟩ := Kd.R_slice HO124.out; subst eo38; obtain ⟨Ao39, co39, eo39⟩ := Kd.R_slice HO132.out; subst eo39) | (go_at_call 28; (with_reducible refine (drovewaylaw04_pairs.calls k _ _ t121 _ _ y130 true _ ?side1 ?side2 ?side3 ?side4 A13.out).mono ?_); (case side1 => repeat (first | exact (Kd.R_reads' HO124.out).2.2 | (with_reducible refine Kd.C_alloc ?_ _) | (with_reducible refine Kd.C_drewN ?_ _) | (with_reducible refine Kd.C_drew ?_))); (case side2 => exact (Kd.R_reads' HO124.out).2.1); (case side3 => repeat (first | exact (Kd.R_reads' HO132.out).2.2 | (with_reducible refine Kd.C_alloc ?_ _) | (with_reducible refine Kd.C_drewN ?_ _) | (with_reducible refine Kd.C_drew ?_))); (case side4 => exact (Kd.R_reads' HO132.out).2.1); rintro e w' ⟨rfl, ⟨nd, rfl⟩⟩))
  go_ret
  exact ⟨by first | rfl | (simp [errW_none, errW_some] <;> rfl) | (simp [*, errW_none, errW_some] <;> rfl), by repeat (first | (with_reducible first | exact HB.out | apply below_alloc | apply pw_below_drewN | apply below_drew1) | exact HB.out)⟩
end
end Go.Proofs.Ytbjpjjokamaliaa.B

/- set and met, as they are called. -/
namespace Go.Proofs.Ytbjpjjokamaliaa.A
open Go.RowKit Go.Proofs.YtbjpjjokamaliaaW.PrintWords Go.Proofs.YtbjpjjokamaliaaW.PrintMore

def ambush_set.f (a b : Int) : Option Int := if (0 ≤ a ∧ a < 9) ∧ 0 ≤ b ∧ b < 9 then some (setN ⟨a, b⟩ : Int) else none
theorem ambush_set.calls (a b : Int) (r : Int) (w : World) (h : ambush_set.f a b = some r) :
    Calls Try.prog 50 #[.agg #[.int .i64 a, .int .i64 b]] w fun e w' => e = .returned (.int .i64 r) ∧ Below w.heap.size w w' := by
  unfold ambush_set.f at h
  split at h
  · rename_i hc
    cases h
    exact set_calls 9 (Nat.le_refl _) ⟨a, b⟩ ⟨hc.1.1, hc.1.2, hc.2.1, hc.2.2⟩ w
  · cases h
def okQ (m : Nat) (q : S59) : Bool := decide (0 ≤ q.f0) && decide (q.f0 < m) && decide (0 ≤ q.f1) && decide (q.f1 < m)
theorem okQ_iff {m : Nat} {q : S59} : okQ m q = true ↔ okPr m q := by
  unfold okQ okPr
  simp [and_assoc]
def ambush_field_met.f (m : Int) (l : List Int) (ps : List S59) : Option Bool := if okF m l = 0 ∧ ps.all (okQ m.toNat) = true then some (metB l ps) else none
theorem ambush_field_met.calls (m : Int) (A : Option Addr) (c : Nat) (l : List Int) (A1 : Option Addr) (c1 : Nat) (ps : List S59) (r : Bool) (w : World) (hr : Kd.C (Kd.int .i64) w A l.length l) (_hc : l.length ≤ c) (hr1 : Kd.C k59 w A1 ps.length ps) (_hc1 : ps.length ≤ c1) (h : ambush_field_met.f m l ps = some r) :
    Calls Try.prog 49 #[.agg #[.int .i64 m, .slice A l.length c], .slice A1 ps.length c1] w fun e w' => e = .returned (.bool r) ∧ Below w.heap.size w w' := by
  unfold ambush_field_met.f at h
  split at h
  · rename_i hc
    cases h
    have h1 := okF_m hc.1
    obtain ⟨n, rfl⟩ : ∃ n : Nat, m = n := ⟨m.toNat, by omega⟩
    exact met_calls n (by omega) l (okF_L hc.1) A _ c A1 _ c1 ps (fun q hq => okQ_iff.1 (List.all_eq_true.1 hc.2 q hq)) w hr hr1
  · cases h
end Go.Proofs.Ytbjpjjokamaliaa.A
