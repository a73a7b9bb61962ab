/- The plain game of an ambush, and what Go's bit operations on small sets come to. -/
import Derived.Laws.BitsLemmas
import Derived.RowKit3
import Derived.Test.YtbjpjjokamaliaaWMore
namespace Go.Proofs.Ytbjpjjokamaliaa.A
open Go.RowKit Go.Proofs.YtbjpjjokamaliaaW.PrintMore

/-! ### bits -/
theorem tb_big {a i j : Nat} (h : a < 2 ^ i) (hij : i ≤ j) : a.testBit j = false :=
  Nat.testBit_lt_two_pow (Nat.lt_of_lt_of_le h (Nat.pow_le_pow_right (by decide) hij))

theorem wrap64_nat (n : Int) (h0 : 0 ≤ n) (h1 : n < 2 ^ 62) : IntKind.i64.wrap n = n := by
  rw [IntKind.wrap_i64]; omega

theorem or64 (a b : Nat) (ha : a < 2 ^ 62) (hb : b < 2 ^ 62) : bits .or .i64 (a : Int) (b : Int) = ((a ||| b : Nat) : Int) :=
  (bits_nat .i64 62 (by decide) wrap64_nat a b ha hb).2
theorem and64 (a b : Nat) (ha : a < 2 ^ 62) (hb : b < 2 ^ 62) : bits .and .i64 (a : Int) (b : Int) = ((a &&& b : Nat) : Int) :=
  (bits_nat .i64 62 (by decide) wrap64_nat a b ha hb).1

/-- a without b. -/
def less (a b : Nat) : Nat := a ^^^ (a &&& b)
theorem tb_less (a b i : Nat) : (less a b).testBit i = (a.testBit i && !b.testBit i) := by
  unfold less
  rw [Nat.testBit_xor, Nat.testBit_and]
  cases a.testBit i <;> cases b.testBit i <;> rfl
theorem less_lt {a b k : Nat} (h : a < 2 ^ k) : less a b < 2 ^ k := Nat.xor_lt_two_pow h (Nat.lt_of_le_of_lt Nat.and_le_left h)

theorem andNot64 (a b : Nat) (ha : a < 2 ^ 62) (_hb : b < 2 ^ 62) : bits .andNot .i64 (a : Int) (b : Int) = ((less a b : Nat) : Int) := by
  have e : (BitVec.ofInt IntKind.i64.bits (a : Int) &&& ~~~ BitVec.ofInt IntKind.i64.bits (b : Int)).toNat = less a b := by
    rw [BitVec.ofInt_natCast, BitVec.ofInt_natCast]
    apply Nat.eq_of_testBit_eq
    intro i
    rw [tb_less, BitVec.testBit_toNat, BitVec.getLsbD_and, BitVec.getLsbD_not, BitVec.getLsbD_ofNat, BitVec.getLsbD_ofNat]
    by_cases hi : i < IntKind.i64.bits
    · simp [hi]
    · rw [tb_big ha (j := i) (by have : IntKind.i64.bits = 64 := rfl; omega)]
      simp
  show IntKind.i64.wrap _ = _
  simp only [e]
  exact wrap64_nat _ (by omega) (by exact_mod_cast less_lt ha)

theorem tb_two (i j : Nat) : (2 ^ i).testBit j = (j == i) := by
  rw [Nat.testBit_two_pow]
  by_cases h : i = j
  · simp [h]
  · simp [h, Ne.symm h]
theorem tb_full (m j : Nat) : (2 ^ m - 1).testBit j = decide (j < m) := Nat.testBit_two_pow_sub_one m j

theorem two_lt {i : Nat} (h : i < 62) : 2 ^ i < 2 ^ 62 := Nat.pow_lt_pow_right (by decide) h
theorem or_lt {a b k : Nat} (ha : a < 2 ^ k) (hb : b < 2 ^ k) : a ||| b < 2 ^ k := Nat.or_lt_two_pow ha hb
theorem lt62 {a k : Nat} (h : a < 2 ^ k) (hk : k ≤ 62) : a < 2 ^ 62 := Nat.lt_of_lt_of_le h (Nat.pow_le_pow_right (by decide) hk)

/-! ### the game -/
/-- A set with a spot more. -/
def up (f : Nat → Bool) (i : Nat) : Nat → Bool := fun j => f j || j == i
theorem tb_up (w i : Nat) : (w ||| 2 ^ i).testBit = up w.testBit i := by
  funext j
  rw [Nat.testBit_or, tb_two]
  rfl
/-- Have the wolves all spots of a line? -/
def inL (m : Nat) (x : Int) (W : Nat → Bool) : Bool := (List.range m).all fun i => !x.toNat.testBit i || W i
def hasL (l : List Int) (m : Nat) (W : Nat → Bool) : Bool := l.any fun x => inL m x W
/-- Is a spot free? -/
def fr (W D : Nat → Bool) (i : Nat) : Bool := !(W i || D i)
/-- Do the wolves win, n rounds at most being played (nx: they are next)? -/
def win (l : List Int) (m : Nat) : Nat → (Nat → Bool) → (Nat → Bool) → Bool → Bool
  | 0, W, _, _ => hasL l m W
  | n + 1, W, D, true => hasL l m W || (List.range m).any fun i => fr W D i && win l m n (up W i) D false
  | n + 1, W, D, false => hasL l m W || ((List.range m).any (fr W D) && (List.range m).all fun i => !fr W D i || win l m n W (up D i) true)

/-- The lines that a field may have. -/
def okL (m : Nat) (l : List Int) : Prop := ∀ x ∈ l, 1 ≤ x ∧ x < 2 ^ m

/-- The number of free spots. -/
def cntF (m : Nat) (W D : Nat → Bool) : Nat := ((List.range m).filter (fr W D)).length

theorem cnt_pos {m : Nat} {W D : Nat → Bool} {i : Nat} (hi : i < m) (h : fr W D i = true) : 0 < cntF m W D := by
  unfold cntF
  exact List.length_pos_of_mem (List.mem_filter.2 ⟨List.mem_range.2 hi, h⟩)

theorem filter_le {α : Type} {p q : α → Bool} {l : List α} (h : ∀ x ∈ l, q x = true → p x = true) : (l.filter q).length ≤ (l.filter p).length := by
  induction l with
  | nil => simp
  | cons a l ih =>
    have := ih (fun x hx => h x (List.mem_cons_of_mem _ hx))
    by_cases ha : q a = true
    · rw [List.filter_cons_of_pos ha, List.filter_cons_of_pos (h a (by simp) ha)]
      simp only [List.length_cons]; omega
    · rw [List.filter_cons_of_neg ha]
      by_cases hb : p a = true
      · rw [List.filter_cons_of_pos hb]; simp only [List.length_cons]; omega
      · rw [List.filter_cons_of_neg hb]; exact this
theorem filter_lt {α : Type} {p q : α → Bool} {l : List α} (h : ∀ x ∈ l, q x = true → p x = true) {y : α} (hy : y ∈ l) (hp : p y = true) (hq : q y = false) : (l.filter q).length < (l.filter p).length := by
  induction l with
  | nil => cases hy
  | cons a l ih =>
    have h' : ∀ x ∈ l, q x = true → p x = true := fun x hx => h x (List.mem_cons_of_mem _ hx)
    have hsub := filter_le h'
    by_cases ha : q a = true
    · have hne : a ≠ y := fun e => by rw [e, hq] at ha; cases ha
      have := ih h' ((List.mem_cons.1 hy).resolve_left (Ne.symm hne))
      rw [List.filter_cons_of_pos ha, List.filter_cons_of_pos (h a (by simp) ha)]
      simp only [List.length_cons]; omega
    · rw [List.filter_cons_of_neg ha]
      by_cases hb : p a = true
      · rw [List.filter_cons_of_pos hb]; simp only [List.length_cons]; omega
      · rw [List.filter_cons_of_neg hb]
        have hne : a ≠ y := fun e => hb (by rw [e]; exact hp)
        exact ih h' ((List.mem_cons.1 hy).resolve_left (Ne.symm hne))

theorem cnt_upW {m : Nat} {W D : Nat → Bool} {i : Nat} (hi : i < m) (h : fr W D i = true) : cntF m (up W i) D < cntF m W D :=
  filter_lt (fun x _ hx => by unfold fr up at *; revert hx; cases W x <;> cases D x <;> simp) (List.mem_range.2 hi) h (by simp [fr, up])
theorem cnt_upD {m : Nat} {W D : Nat → Bool} {i : Nat} (hi : i < m) (h : fr W D i = true) : cntF m W (up D i) < cntF m W D :=
  filter_lt (fun x _ hx => by unfold fr up at *; revert hx; cases W x <;> cases D x <;> simp) (List.mem_range.2 hi) h (by simp [fr, up])
theorem cnt_le (m : Nat) (W D : Nat → Bool) : cntF m W D ≤ m := by
  have := List.length_filter_le (fr W D) (List.range m)
  rwa [List.length_range] at this

theorem any_congr' {α : Type} {l : List α} {p q : α → Bool} (h : ∀ x ∈ l, p x = q x) : l.any p = l.any q := by
  induction l with
  | nil => rfl
  | cons a l ih => rw [List.any_cons, List.any_cons, h a (by simp), ih (fun x hx => h x (List.mem_cons_of_mem _ hx))]
theorem all_congr' {α : Type} {l : List α} {p q : α → Bool} (h : ∀ x ∈ l, p x = q x) : l.all p = l.all q := by
  induction l with
  | nil => rfl
  | cons a l ih => rw [List.all_cons, List.all_cons, h a (by simp), ih (fun x hx => h x (List.mem_cons_of_mem _ hx))]

theorem win_step (l : List Int) (m : Nat) : ∀ n W D nx, cntF m W D ≤ n → win l m (n + 1) W D nx = win l m n W D nx := by
  intro n
  induction n with
  | zero =>
    intro W D nx h
    have hno : ∀ i ∈ List.range m, fr W D i = false := by
      intro i hi
      cases hf : fr W D i with
      | false => rfl
      | true => have := cnt_pos (List.mem_range.1 hi) hf; omega
    cases nx
    · have e : (List.range m).any (fr W D) = false := by
        rw [List.any_eq_false]; intro i hi; rw [hno i hi]; simp
      simp [win, e]
    · have e : ((List.range m).any fun i => fr W D i && win l m 0 (up W i) D false) = false := by
        rw [List.any_eq_false]; intro i hi; rw [hno i hi]; simp
      show (hasL l m W || (List.range m).any fun i => fr W D i && win l m 0 (up W i) D false) = hasL l m W
      rw [e]; simp
  | succ n ih =>
    intro W D nx h
    cases nx
    · rw [win]
      conv => rhs; rw [win]
      congr 1; congr 1
      refine all_congr' fun i hi => ?_
      cases hf : fr W D i with
      | false => rfl
      | true => rw [ih W (up D i) true (by have := cnt_upD (List.mem_range.1 hi) hf; omega)]
    · rw [win]
      conv => rhs; rw [win]
      congr 1
      refine any_congr' fun i hi => ?_
      cases hf : fr W D i with
      | false => rfl
      | true => rw [ih (up W i) D false (by have := cnt_upW (List.mem_range.1 hi) hf; omega)]

/-- Do the wolves win? -/
def wins (l : List Int) (m : Nat) (W D : Nat → Bool) (nx : Bool) : Bool := win l m m W D nx
theorem wins_w (l : List Int) (m : Nat) (W D : Nat → Bool) : wins l m W D true = (hasL l m W || (List.range m).any fun i => fr W D i && wins l m (up W i) D false) := by
  show win l m m W D true = _
  rw [← win_step l m m W D true (cnt_le m W D)]
  rfl
theorem wins_d (l : List Int) (m : Nat) (W D : Nat → Bool) : wins l m W D false = (hasL l m W || ((List.range m).any (fr W D) && (List.range m).all fun i => !fr W D i || wins l m W (up D i) true)) := by
  show win l m m W D false = _
  rw [← win_step l m m W D false (cnt_le m W D)]
  rfl

/-! ### sets as numbers -/
theorem inL_iff {m x w : Nat} (hx : x < 2 ^ m) : inL m (x : Int) w.testBit = decide (less x w = 0) := by
  rw [Bool.eq_iff_iff, decide_eq_true_iff]
  unfold inL
  rw [List.all_eq_true]
  simp only [List.mem_range, Int.toNat_natCast]
  constructor
  · intro h
    apply Nat.eq_of_testBit_eq
    intro i
    rw [tb_less, Nat.zero_testBit]
    by_cases hi : i < m
    · have := h i hi
      revert this; cases x.testBit i <;> cases w.testBit i <;> simp
    · rw [tb_big hx (by omega)]; rfl
  · intro h i _
    have := congrArg (fun n => n.testBit i) h
    simp only [tb_less, Nat.zero_testBit] at this
    revert this; cases x.testBit i <;> cases w.testBit i <;> simp

/-- The free spots, as Go computes them. -/
theorem free_eq {m w d : Nat} (hm : m ≤ 61) (hw : w < 2 ^ m) (hd : d < 2 ^ m) :
    bits .andNot .i64 ((2 : Int) ^ m - 1) (bits .or .i64 (w : Int) (d : Int)) = ((less (2 ^ m - 1) (w ||| d) : Nat) : Int) := by
  have hp : 0 < 2 ^ m := Nat.two_pow_pos m
  have e : ((2 : Int) ^ m - 1) = ((2 ^ m - 1 : Nat) : Int) := by
    rw [Int.natCast_sub hp]; simp
  have hlt : 2 ^ m - 1 < 2 ^ m := Nat.sub_lt hp (by decide)
  rw [or64 w d (lt62 hw (by omega)) (lt62 hd (by omega)), e, andNot64 _ _ (lt62 hlt (by omega)) (lt62 (or_lt hw hd) (by omega))]
theorem tb_free {m w d i : Nat} (hi : i < m) : (less (2 ^ m - 1) (w ||| d)).testBit i = fr w.testBit d.testBit i := by
  rw [tb_less, tb_full, Nat.testBit_or]
  simp [hi, fr]
theorem free_zero {m w d : Nat} : less (2 ^ m - 1) (w ||| d) = 0 ↔ (List.range m).any (fr w.testBit d.testBit) = false := by
  rw [List.any_eq_false]
  constructor
  · intro h i hi
    rw [← tb_free (List.mem_range.1 hi), h]; simp
  · intro h
    apply Nat.eq_of_testBit_eq
    intro i
    rw [Nat.zero_testBit]
    by_cases hi : i < m
    · rw [tb_free hi]; simpa using h i (List.mem_range.2 hi)
    · rw [tb_less, tb_full]; simp [hi]
/-- Is bit i of a number set, as Go asks? -/
theorem bit_ask {a i : Nat} (ha : a < 2 ^ 62) : bits .and .i64 (((a : Int)) / 2 ^ i) 1 = if a.testBit i then 1 else 0 := by
  have e : ((a : Int)) / 2 ^ i = ((a / 2 ^ i : Nat) : Int) := by simp
  have h1 : ((1 : Int)) = ((1 : Nat) : Int) := rfl
  rw [e, h1, and64 _ 1 (Nat.lt_of_le_of_lt (Nat.div_le_self _ _) ha) (by decide), Nat.and_one_is_mod, Nat.testBit_eq_decide_div_mod_eq]
  rcases Nat.mod_two_eq_zero_or_one (a / 2 ^ i) with h | h <;> simp [h]
end Go.Proofs.Ytbjpjjokamaliaa.A
