/- The plain game: the danger decides (the dogs win by taking the spot that makes the danger least). -/
import Derived.Test.YtbjpjjokamaliaaD0
import Derived.Test.YtbjpjjokamaliaaC1
namespace Go.Proofs.Ytbjpjjokamaliaa.A
open Go.RowKit Go.Proofs.YtbjpjjokamaliaaW.PrintWords Go.Proofs.YtbjpjjokamaliaaW.PrintMore

theorem pop_bit_table : (List.range 512).all (fun y => (List.range 9).all fun j => !y.testBit j || decide (pop 9 y = pop 9 (y ^^^ 2 ^ j) + 1)) = true := by decide +kernel
theorem pop_bit {y j : Nat} (hy : y < 512) (hj : j < 9) (h : y.testBit j = true) : pop 9 y = pop 9 (y ^^^ 2 ^ j) + 1 := by
  have h1 := List.all_eq_true.1 pop_bit_table y (List.mem_range.2 hy)
  have h2 := List.all_eq_true.1 h1 j (List.mem_range.2 hj)
  rw [h] at h2
  simpa using h2
theorem less_up {x p j : Nat} (hp : p.testBit j = false) : less x (p ||| 2 ^ j) = if x.testBit j = true then less x p ^^^ 2 ^ j else less x p := by
  refine Nat.eq_of_testBit_eq fun k => ?_
  split <;> rename_i h
  · rw [tb_less, Nat.testBit_xor, tb_less, Nat.testBit_or, tb_two]
    by_cases e : k = j
    · subst e; simp [h, hp]
    · have : (k == j) = false := by simp [e]
      rw [this]; simp
  · rw [tb_less, tb_less, Nat.testBit_or, tb_two]
    by_cases e : k = j
    · subst e
      have : x.testBit k = false := by simpa using h
      simp [this]
    · have : (k == j) = false := by simp [e]
      rw [this]; simp

/-- What a line counts when the wolves take a spot. -/
theorem dang1_w {m p d j : Nat} {x : Int} (h9 : m ≤ 9) (h0 : 0 ≤ x) (hx : x < 2 ^ m) (hj : j < m) (hp : p.testBit j = false) :
    dang1 m (p ||| 2 ^ j) d x = if x.toNat.testBit j = true then 2 * dang1 m p d x else dang1 m p d x := by
  have hxn : x.toNat < 2 ^ m := by
    have : ((2 ^ m : Nat) : Int) = 2 ^ m := Int.natCast_pow 2 m
    omega
  have hl : less x.toNat p < 2 ^ m := less_lt hxn
  have hle := pop_le h9 hl
  have h5 : less x.toNat p < 512 := Nat.lt_of_lt_of_le hl (Nat.pow_le_pow_right (n := 2) (by decide) h9)
  unfold dang1
  rw [less_up hp]
  by_cases hb : x.toNat.testBit j = true
  · rw [if_pos hb, if_pos hb]
    by_cases hd : x.toNat &&& d = 0
    · rw [if_pos hd, if_pos hd]
      have hlb : (less x.toNat p).testBit j = true := by rw [tb_less, hb, hp]; rfl
      have e := pop_bit h5 (by omega) hlb
      have e2 : m - pop 9 (less x.toNat p ^^^ 2 ^ j) = (m - pop 9 (less x.toNat p)) + 1 := by omega
      rw [e2, Int.pow_succ]
      omega
    · rw [if_neg hd, if_neg hd]; rfl
  · rw [if_neg hb, if_neg hb]
theorem and_up {x d i : Nat} : x &&& (d ||| 2 ^ i) = 0 ↔ x &&& d = 0 ∧ x.testBit i = false := by
  constructor
  · intro h
    have hk : ∀ k, (x &&& (d ||| 2 ^ i)).testBit k = false := fun k => by rw [h]; exact Nat.zero_testBit k
    constructor
    · refine Nat.eq_of_testBit_eq fun k => ?_
      have := hk k
      rw [Nat.testBit_and, Nat.testBit_or] at this
      rw [Nat.testBit_and, Nat.zero_testBit]
      cases e : x.testBit k <;> cases e2 : d.testBit k <;> simp_all
    · have := hk i
      rw [Nat.testBit_and, Nat.testBit_or, tb_two] at this
      simpa using this
  · rintro ⟨h1, h2⟩
    refine Nat.eq_of_testBit_eq fun k => ?_
    have hk : (x &&& d).testBit k = false := by rw [h1]; exact Nat.zero_testBit k
    rw [Nat.testBit_and] at hk
    rw [Nat.testBit_and, Nat.testBit_or, tb_two, Nat.zero_testBit]
    by_cases e : k = i
    · subst e; simp [h2]
    · have : (k == i) = false := by simp [e]
      rw [this]; simpa using hk
/-- What a line counts when the dogs take a spot. -/
theorem dang1_d {m p d i : Nat} {x : Int} : dang1 m p (d ||| 2 ^ i) x = if x.toNat.testBit i = true then 0 else dang1 m p d x := by
  unfold dang1
  by_cases hb : x.toNat.testBit i = true
  · rw [if_pos hb, if_neg]
    rw [and_up, hb]; simp
  · rw [if_neg hb]
    have e : x.toNat &&& (d ||| 2 ^ i) = 0 ↔ x.toNat &&& d = 0 := by
      rw [and_up]
      exact ⟨fun h => h.1, fun h => ⟨h, by simpa using hb⟩⟩
    by_cases h : x.toNat &&& d = 0
    · rw [if_pos h, if_pos (e.2 h)]
    · rw [if_neg h, if_neg (fun q => h (e.1 q))]
theorem dang1_nn {m p d : Nat} {x : Int} (h9 : m ≤ 9) : 0 ≤ dang1 m p d x := (dang1_bd h9 x).1
theorem dang_double {m p d j : Nat} (h9 : m ≤ 9) (hj : j < m) (hp : p.testBit j = false) : ∀ l : List Int, okL m l → dangL m (p ||| 2 ^ j) d l ≤ 2 * dangL m p d l
  | [], _ => by simp [dangL]
  | x :: l, hl => by
    have ih := dang_double (d := d) h9 hj hp l fun y hy => hl y (List.mem_cons_of_mem _ hy)
    have hx := hl x (List.mem_cons_self ..)
    have e := dang1_w (d := d) h9 (by omega) hx.2 hj hp
    have hn := dang1_nn (p := p) (d := d) (x := x) h9
    simp only [dangL]
    rw [e]
    split <;> omega
theorem dang_less {m p d i : Nat} (h9 : m ≤ 9) : ∀ l : List Int, dangL m p (d ||| 2 ^ i) l ≤ dangL m p d l
  | [] => by simp [dangL]
  | x :: l => by
    have ih := dang_less (p := p) (d := d) (i := i) h9 l
    have hn := dang1_nn (p := p) (d := d) (x := x) h9
    simp only [dangL]
    rw [dang1_d]
    split <;> omega
theorem dang_trade {m p d i j : Nat} (h9 : m ≤ 9) (hj : j < m) (hp : p.testBit j = false) : ∀ l : List Int, okL m l →
    dangL m (p ||| 2 ^ j) (d ||| 2 ^ i) l + dangL m p (d ||| 2 ^ j) l ≤ dangL m p d l + dangL m p (d ||| 2 ^ i) l
  | [], _ => by simp [dangL]
  | x :: l, hl => by
    have ih := dang_trade (d := d) (i := i) h9 hj hp l fun y hy => hl y (List.mem_cons_of_mem _ hy)
    have hx := hl x (List.mem_cons_self ..)
    have e := dang1_w (d := d ||| 2 ^ i) h9 (by omega) hx.2 hj hp
    have hn := dang1_nn (p := p) (d := d) (x := x) h9
    simp only [dangL]
    rw [e, dang1_d, dang1_d]
    split <;> split <;> omega

/-- No spot is taken twice. -/
def Apart (p d : Nat) : Prop := ∀ k, p.testBit k = true → d.testBit k = false
theorem dang_line {m p d : Nat} (h9 : m ≤ 9) (hA : Apart p d) : ∀ l : List Int, okL m l → hasL l m p.testBit = true → 2 ^ m ≤ dangL m p d l
  | [], _, h => by simp [hasL] at h
  | x :: l, hl, h => by
    have hx := hl x (List.mem_cons_self ..)
    have hn := dang1_nn (p := p) (d := d) (x := x) h9
    have hn2 := (dangL_bd (p := p) (d := d) h9 l).1
    simp only [dangL]
    unfold hasL at h
    rw [List.any_cons, Bool.or_eq_true] at h
    rcases h with h | h
    · have hxn : x.toNat < 2 ^ m := by
        have : ((2 ^ m : Nat) : Int) = 2 ^ m := Int.natCast_pow 2 m
        omega
      have hex : x = (x.toNat : Int) := by omega
      have h1 : less x.toNat p = 0 := by
        rw [hex] at h
        have := inL_iff (w := p) hxn
        rw [h] at this
        simpa using this.symm
      have h2 : x.toNat &&& d = 0 := by
        refine Nat.eq_of_testBit_eq fun k => ?_
        have hk : (less x.toNat p).testBit k = false := by rw [h1]; exact Nat.zero_testBit k
        rw [tb_less] at hk
        rw [Nat.testBit_and, Nat.zero_testBit]
        cases e : x.toNat.testBit k with
        | false => rfl
        | true =>
          rw [e] at hk
          have : p.testBit k = true := by simpa using hk
          rw [hA k this]; rfl
      have : dang1 m p d x = 2 ^ m := by
        unfold dang1
        rw [if_pos h2, h1]; rfl
      omega
    · have := dang_line h9 hA l (fun y hy => hl y (List.mem_cons_of_mem _ hy)) h
      omega

/-- The dogs are safe, being next (D) or not (W). -/
def SafeD (l : List Int) (m p d : Nat) : Prop := Apart p d ∧ dangL m p d l < 2 ^ m
def SafeW (l : List Int) (m p d : Nat) : Prop := SafeD l m p d ∧ ∀ j, j < m → fr p.testBit d.testBit j = true → SafeD l m (p ||| 2 ^ j) d
theorem SafeD.no {l : List Int} {m p d : Nat} (h9 : m ≤ 9) (hl : okL m l) (h : SafeD l m p d) : hasL l m p.testBit = false := by
  cases e : hasL l m p.testBit with
  | false => rfl
  | true => have := dang_line h9 h.1 l hl e; have := h.2; omega
theorem Apart.up_w {p d j : Nat} (h : Apart p d) (hd : d.testBit j = false) : Apart (p ||| 2 ^ j) d := by
  intro k hk
  rw [Nat.testBit_or, tb_two, Bool.or_eq_true] at hk
  rcases hk with hk | hk
  · exact h k hk
  · have : k = j := by simpa using hk
    rw [this]; exact hd
theorem Apart.up_d {p d i : Nat} (h : Apart p d) (hp : p.testBit i = false) : Apart p (d ||| 2 ^ i) := by
  intro k hk
  rw [Nat.testBit_or, tb_two, h k hk]
  by_cases e : k = i
  · subst e; rw [hp] at hk; cases hk
  · simp [e]
theorem SafeW.first {l : List Int} {m p d : Nat} (h9 : m ≤ 9) (hl : okL m l) (hA : Apart p d) (h : 2 * dangL m p d l < 2 ^ m) : SafeW l m p d := by
  have hn := (dangL_bd (p := p) (d := d) h9 l).1
  refine ⟨⟨hA, by omega⟩, fun j hj hf => ?_⟩
  obtain ⟨f1, f2⟩ := (fr_iff _ _ _).1 hf
  have := dang_double (d := d) h9 hj f1 l hl
  exact ⟨hA.up_w f2, by omega⟩
theorem SafeD.move {l : List Int} {m p d i : Nat} (h9 : m ≤ 9) (hl : okL m l) (h : SafeD l m p d) (hf : fr p.testBit d.testBit i = true)
    (hb : ∀ j, j < m → fr p.testBit d.testBit j = true → dangL m p (d ||| 2 ^ i) l ≤ dangL m p (d ||| 2 ^ j) l) : SafeW l m p (d ||| 2 ^ i) := by
  obtain ⟨f1, f2⟩ := (fr_iff _ _ _).1 hf
  have hle := dang_less (p := p) (d := d) (i := i) h9 l
  have h2 := h.2
  have hA := h.1.up_d f1
  refine ⟨⟨hA, by omega⟩, fun j hj hfj => ?_⟩
  obtain ⟨g1, g2⟩ := (fr_iff _ _ _).1 hfj
  have g3 : d.testBit j = false := by
    rw [Nat.testBit_or, Bool.or_eq_false_iff] at g2
    exact g2.1
  have ht := dang_trade (d := d) (i := i) h9 hj g1 l hl
  have hbj := hb j hj ((fr_iff _ _ _).2 ⟨g1, g3⟩)
  exact ⟨hA.up_w g2, by omega⟩

/-- Careful's spot: free, and the danger is least. -/
theorem carL_spec (l : List Int) (m p d : Nat) (h9 : m ≤ 9) : ∀ k,
    ((carL l m p d k).1 = -1 ∧ ∀ j, j < k → fr p.testBit d.testBit j = false) ∨
    ∃ i, i < k ∧ (carL l m p d k).1 = (i : Int) ∧ (carL l m p d k).2 = dangL m p (d ||| 2 ^ i) l ∧ fr p.testBit d.testBit i = true ∧ ∀ j, j < k → fr p.testBit d.testBit j = true → dangL m p (d ||| 2 ^ i) l ≤ dangL m p (d ||| 2 ^ j) l
  | 0 => .inl ⟨rfl, fun j hj => by omega⟩
  | k + 1 => by
    rw [carL]
    have ih := carL_spec l m p d h9 k
    by_cases hf : fr p.testBit d.testBit k = true
    · rcases ih with ⟨e, hno⟩ | ⟨i, hi, e1, e2, hfi, hb⟩
      · rw [if_pos ⟨hf, .inl (by omega)⟩]
        refine .inr ⟨k, by omega, rfl, rfl, hf, fun j hj hfj => ?_⟩
        by_cases ej : j = k
        · subst ej; omega
        · have := hno j (by omega)
          rw [hfj] at this; cases this
      · by_cases hlt : dangL m p (d ||| 2 ^ k) l < (carL l m p d k).2
        · rw [if_pos ⟨hf, .inr hlt⟩]
          refine .inr ⟨k, by omega, rfl, rfl, hf, fun j hj hfj => ?_⟩
          by_cases ej : j = k
          · subst ej; omega
          · have := hb j (by omega) hfj
            show dangL m p (d ||| 2 ^ k) l ≤ _
            omega
        · rw [if_neg (by rintro ⟨_, h | h⟩ <;> omega)]
          refine .inr ⟨i, by omega, e1, e2, hfi, fun j hj hfj => ?_⟩
          by_cases ej : j = k
          · subst ej; omega
          · exact hb j (by omega) hfj
    · rw [if_neg (fun h => hf h.1)]
      rcases ih with ⟨e, hno⟩ | ⟨i, hi, e1, e2, hfi, hb⟩
      · refine .inl ⟨e, fun j hj => ?_⟩
        by_cases ej : j = k
        · subst ej; simpa using hf
        · exact hno j (by omega)
      · refine .inr ⟨i, by omega, e1, e2, hfi, fun j hj hfj => ?_⟩
        by_cases ej : j = k
        · subst ej; exact (hf hfj).elim
        · exact hb j (by omega) hfj

/-- Who is safe doesn't lose. -/
theorem safe_n (l : List Int) (m : Nat) (h9 : m ≤ 9) (hl : okL m l) : ∀ n p d, cntF m p.testBit d.testBit ≤ n →
    (SafeD l m p d → wins l m p.testBit d.testBit false = false) ∧ (SafeW l m p d → wins l m p.testBit d.testBit true = false) := by
  intro n
  induction n with
  | zero =>
    intro p d hn
    have hno : ∀ i, i < m → fr p.testBit d.testBit i = true → False := fun i hi hf => by have := cnt_pos hi hf; omega
    constructor
    · intro h
      refine Bool.eq_false_iff.2 fun e => ?_
      rcases (wins_d_iff l m _ _).1 e with e | ⟨⟨i, hi, hf⟩, _⟩
      · rw [h.no h9 hl] at e; cases e
      · exact hno i hi hf
    · intro h
      refine Bool.eq_false_iff.2 fun e => ?_
      rcases (wins_w_iff l m _ _).1 e with e | ⟨i, hi, hf, _⟩
      · rw [h.1.no h9 hl] at e; cases e
      · exact hno i hi hf
  | succ n ih =>
    intro p d hn
    constructor
    · intro h
      refine Bool.eq_false_iff.2 fun e => ?_
      rcases (wins_d_iff l m _ _).1 e with e | ⟨⟨i, hi, hf⟩, hall⟩
      · rw [h.no h9 hl] at e; cases e
      · rcases carL_spec l m p d h9 m with ⟨_, hno⟩ | ⟨j, hj, _, _, hfj, hb⟩
        · have := hno i hi
          rw [hf] at this; cases this
        · have hw := hall j hj hfj
          rw [← tb_up] at hw
          have := (ih p (d ||| 2 ^ j) (by rw [tb_up]; have := cnt_upD hj hfj; omega)).2 (h.move h9 hl hfj hb)
          rw [this] at hw; cases hw
    · intro h
      refine Bool.eq_false_iff.2 fun e => ?_
      rcases (wins_w_iff l m _ _).1 e with e | ⟨i, hi, hf, hw⟩
      · rw [h.1.no h9 hl] at e; cases e
      · rw [← tb_up] at hw
        have := (ih (p ||| 2 ^ i) d (by rw [tb_up]; have := cnt_upW hi hf; omega)).1 (h.2 i hi hf)
        rw [this] at hw; cases hw
theorem SafeD.wins {l : List Int} {m p d : Nat} (h9 : m ≤ 9) (hl : okL m l) (h : SafeD l m p d) : A.wins l m p.testBit d.testBit false = false := (safe_n l m h9 hl _ p d (Nat.le_refl _)).1 h
theorem SafeW.wins {l : List Int} {m p d : Nat} (h9 : m ≤ 9) (hl : okL m l) (h : SafeW l m p d) : A.wins l m p.testBit d.testBit true = false := (safe_n l m h9 hl _ p d (Nat.le_refl _)).2 h
end Go.Proofs.Ytbjpjjokamaliaa.A
