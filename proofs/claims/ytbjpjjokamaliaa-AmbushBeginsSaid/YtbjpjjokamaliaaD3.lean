/- Guards and Needs: what their lists and numbers tell of the game. -/
import Derived.Test.YtbjpjjokamaliaaD2
import Derived.Test.YtbjpjjokamaliaaC2
namespace Go.Proofs.Ytbjpjjokamaliaa.A
open Go.RowKit Go.Proofs.YtbjpjjokamaliaaW.PrintWords Go.Proofs.YtbjpjjokamaliaaW.PrintMore

theorem winZ_two (l : List Int) (m p d : Nat) (nx : Bool) : winZ l m p d nx = 2 ↔ wins l m p.testBit d.testBit nx = false := by
  unfold winZ
  cases wins l m p.testBit d.testBit nx <;> simp [who]
theorem winZ_one (l : List Int) (m p d : Nat) (nx : Bool) : winZ l m p d nx = 1 ↔ wins l m p.testBit d.testBit nx = true := by
  unfold winZ
  cases wins l m p.testBit d.testBit nx <;> simp [who]
theorem guardL_split (l : List Int) (m : Nat) : ∀ n i, ∃ rest, guardL l m (i + n) = guardL l m i ++ rest ∧ ∀ x ∈ rest, (i : Int) ≤ x := by
  intro n
  induction n with
  | zero => intro i; exact ⟨[], by simp, fun x hx => by cases hx⟩
  | succ n ih =>
    intro i
    obtain ⟨rest, e, h⟩ := ih (i + 1)
    rw [show i + (n + 1) = i + 1 + n by omega, e, guardL]
    split
    · refine ⟨(i : Int) :: rest, by simp, fun x hx => ?_⟩
      rcases List.mem_cons.1 hx with rfl | hx
      · omega
      · have := h x hx; omega
    · exact ⟨rest, rfl, fun x hx => by have := h x hx; omega⟩
/-- Where the list goes on with a spot, and where it doesn't. -/
theorem guardL_at {l : List Int} {m i : Nat} (hi : i < m) : (winZ l m 0 (2 ^ i) true = 2 → (guardL l m i).length < (guardL l m m).length ∧ (guardL l m m).getD (guardL l m i).length 0 = i ∧ (guardL l m (i + 1)).length = (guardL l m i).length + 1) ∧
    (winZ l m 0 (2 ^ i) true ≠ 2 → ((guardL l m i).length < (guardL l m m).length → (guardL l m m).getD (guardL l m i).length 0 ≠ i) ∧ (guardL l m (i + 1)).length = (guardL l m i).length) := by
  obtain ⟨rest, e, h⟩ := guardL_split l m (m - (i + 1)) (i + 1)
  rw [show i + 1 + (m - (i + 1)) = m by omega] at e
  constructor
  · intro hw
    rw [guardL, if_pos hw] at e ⊢
    rw [e]
    refine ⟨by simp, by simp [List.getD_eq_getElem?_getD], by simp⟩
  · intro hw
    rw [guardL, if_neg hw] at e ⊢
    rw [e]
    refine ⟨fun hlt hh => ?_, rfl⟩
    cases rest with
    | nil => simp at hlt
    | cons x rest =>
      have hx := h x (List.mem_cons_self ..)
      simp [List.getD_eq_getElem?_getD] at hh
      omega
theorem guardL_pos {l : List Int} {m : Nat} : ∀ k, 0 < (guardL l m k).length ↔ ∃ i, i < k ∧ winZ l m 0 (2 ^ i) true = 2
  | 0 => by simp [guardL]
  | k + 1 => by
    have ih := guardL_pos (l := l) (m := m) k
    rw [guardL]
    by_cases hw : winZ l m 0 (2 ^ k) true = 2
    · rw [if_pos hw]
      exact ⟨fun _ => ⟨k, by omega, hw⟩, fun _ => by simp⟩
    · rw [if_neg hw, ih]
      constructor
      · rintro ⟨i, hi, h⟩; exact ⟨i, by omega, h⟩
      · rintro ⟨i, hi, h⟩
        by_cases e : i = k
        · subst e; exact (hw h).elim
        · exact ⟨i, by omega, h⟩
theorem hasL_none {l : List Int} {m : Nat} (hl : okL m l) : hasL l m (0 : Nat).testBit = false := by
  refine Bool.eq_false_iff.2 fun h => ?_
  unfold hasL at h
  rw [List.any_eq_true] at h
  obtain ⟨x, hx, hi⟩ := h
  have hb := hl x hx
  have hpw : ((2 ^ m : Nat) : Int) = 2 ^ m := Int.natCast_pow 2 m
  have hex : x = (x.toNat : Int) := by omega
  rw [hex, inL_iff (by omega)] at hi
  have h0 : less x.toNat 0 = x.toNat := by simp [less]
  rw [h0] at hi
  have : x.toNat = 0 := by simpa using hi
  omega
/-- The dogs win an empty field, being next, exactly if some first spot wins. -/
theorem empty_d {l : List Int} {m : Nat} (h1 : 1 ≤ m) (hl : okL m l) : wins l m (0 : Nat).testBit (0 : Nat).testBit false = false ↔ 0 < (guardL l m m).length := by
  rw [guardL_pos]
  have hfr : ∀ i, fr (0 : Nat).testBit (0 : Nat).testBit i = true := fun i => by simp [fr]
  constructor
  · intro h
    refine Classical.byContradiction fun hno => ?_
    have : wins l m (0 : Nat).testBit (0 : Nat).testBit false = true := (wins_d_iff l m _ _).2 (.inr ⟨⟨0, by omega, hfr 0⟩, fun i hi _ => by
      refine Classical.byContradiction fun hw => hno ⟨i, hi, ?_⟩
      rw [winZ_two]
      have e := tb_up 0 i
      rw [Nat.zero_or] at e
      rw [e]
      simpa using hw⟩)
    rw [h] at this; cases this
  · rintro ⟨i, hi, hw⟩
    refine Bool.eq_false_iff.2 fun h => ?_
    rcases (wins_d_iff l m _ _).1 h with h | ⟨_, hall⟩
    · rw [hasL_none hl] at h; cases h
    · have := hall i hi (hfr i)
      rw [winZ_two] at hw
      have e := tb_up 0 i
      rw [Nat.zero_or] at e
      rw [← e, hw] at this; cases this
theorem needL_hit (l : List Int) (m : Nat) : ∀ k, needL l m k = m ∨ ∃ h, h < k ∧ winZ l m h 0 false = 1 ∧ needL l m k = pop 9 h
  | 0 => .inl rfl
  | k + 1 => by
    rw [needL]
    split
    · rename_i h; exact .inr ⟨k, by omega, h.2, rfl⟩
    · rcases needL_hit l m k with h | ⟨i, hi, h1, h2⟩
      · exact .inl h
      · exact .inr ⟨i, by omega, h1, h2⟩
theorem needL_least (l : List Int) (m : Nat) : ∀ k h, h < k → winZ l m h 0 false = 1 → needL l m k ≤ pop 9 h
  | 0, h, hk, _ => by omega
  | k + 1, h, hk, hw => by
    rw [needL]
    by_cases e : h = k
    · subst e
      split
      · exact Nat.le_refl _
      · rename_i hn
        have : ¬ pop 9 h < needL l m h := fun q => hn ⟨q, hw⟩
        omega
    · have ih := needL_least l m k h (by omega) hw
      split
      · rename_i hn
        have := hn.1
        omega
      · exact ih
theorem pop_zero_table : (List.range 512).all (fun x => x == 0 || decide (0 < pop 9 x)) = true := by decide +kernel
theorem needL_zero {l : List Int} {m : Nat} (h1 : 1 ≤ m) (h9 : m ≤ 9) : needL l m (2 ^ m) = 0 ↔ wins l m (0 : Nat).testBit (0 : Nat).testBit false = true := by
  have hN : (2 : Nat) ^ m ≤ 512 := Nat.pow_le_pow_right (n := 2) (show 0 < 2 by decide) h9
  have hN0 : 0 < (2 : Nat) ^ m := Nat.two_pow_pos m
  rw [← winZ_one]
  constructor
  · intro h
    rcases needL_hit l m (2 ^ m) with e | ⟨i, hi, hw, e⟩
    · omega
    · have ht := List.all_eq_true.1 pop_zero_table i (List.mem_range.2 (by omega))
      have hi0 : i = 0 := by
        rcases Nat.eq_zero_or_pos i with q | q
        · exact q
        · have : (i == 0) = false := by simp; omega
          rw [this] at ht
          simp at ht
          omega
      subst hi0
      exact hw
  · intro h
    have := needL_least l m (2 ^ m) 0 hN0 h
    have e : pop 9 0 = 0 := by decide
    omega
end Go.Proofs.Ytbjpjjokamaliaa.A
