/- Positions that are written: what a spot more does to the sets and to the number of free spots. -/
import Derived.Test.YtbjpjjokamaliaaD0
namespace Go.Proofs.Ytbjpjjokamaliaa.A
open Go.RowKit Go.Proofs.YtbjpjjokamaliaaW.PrintWords Go.Proofs.YtbjpjjokamaliaaW.PrintMore

theorem msk_apart (s : ByteArray) (n k : Nat) (h : (msk 119 s n).testBit k = true) : (msk 100 s n).testBit k = false := by
  rw [msk_tb] at h ⊢
  simp only [Bool.and_eq_true, decide_eq_true_eq] at h
  simp [h.2]
theorem fr_bt {m : Int} {l : List Int} {s : ByteArray} (h : okP m l s = 0) {i : Nat} (hi : i < s.size) : fr (msk 119 s s.size).testBit (msk 100 s s.size).testBit i = true ↔ bt s i = 46 := by
  have ho := (okP_iff.1 h).2.2 i hi
  rw [fr_iff, msk_tb, msk_tb]
  simp only [hi, decide_true, Bool.true_and, decide_eq_false_iff_not]
  constructor
  · rintro ⟨h1, h2⟩
    simp [okC, h1, h2] at ho
    exact ho
  · intro e
    rw [e]; exact ⟨by decide, by decide⟩
theorem msk_put {s : ByteArray} {i : Nat} {c : Int} (hi : i < s.size) (h0 : 0 ≤ c) (h1 : c < 256) : msk c (placedS s i c) s.size = msk c s s.size ||| 2 ^ i := by
  refine Nat.eq_of_testBit_eq fun k => ?_
  rw [Nat.testBit_or, tb_two, msk_tb, msk_tb]
  by_cases hk : k < s.size
  · rw [placedS_bt s i c k hk h0 h1]
    by_cases e : k = i
    · subst e; simp [hk]
    · have e' : ¬ (k : Int) = i := by omega
      rw [if_neg e']
      simp [hk, e]
  · have e : k ≠ i := by omega
    simp [hk, e]
theorem msk_keep {s : ByteArray} {i : Nat} {c c' : Int} (hi : i < s.size) (h46 : bt s i = 46) (h0 : 0 ≤ c) (h1 : c < 256) (hc : c' ≠ 46) (hcc : c ≠ c') : msk c' (placedS s i c) s.size = msk c' s s.size := by
  refine Nat.eq_of_testBit_eq fun k => ?_
  rw [msk_tb, msk_tb]
  by_cases hk : k < s.size
  · rw [placedS_bt s i c k hk h0 h1]
    by_cases e : k = i
    · subst e
      rw [if_pos rfl, h46]
      simp [hcc, Ne.symm hc]
    · have e' : ¬ (k : Int) = i := by omega
      rw [if_neg e']
  · simp [hk]
theorem freeC_placed {s : ByteArray} {i : Nat} {c : Int} (hi : i < s.size) (h46 : bt s i = 46) (h0 : 0 ≤ c) (h1 : c < 256) (hc : c ≠ 46) : ∀ k, k ≤ s.size → freeC (placedS s i c) k + (if i < k then 1 else 0) = freeC s k
  | 0, _ => by simp [freeC]
  | k + 1, hk => by
    have ih := freeC_placed hi h46 h0 h1 hc k (by omega)
    rw [freeC, freeC, placedS_bt s i c k (by omega) h0 h1]
    by_cases e : k = i
    · subst e
      rw [if_pos rfl, if_neg hc, if_pos h46, if_pos (by omega)]
      rw [if_neg (by omega)] at ih
      omega
    · have e' : ¬ (k : Int) = i := by omega
      rw [if_neg e']
      have e2 : (if i < k + 1 then 1 else 0) = if i < k then 1 else 0 := by
        by_cases q : i < k
        · rw [if_pos q, if_pos (by omega)]
        · rw [if_neg q, if_neg (by omega)]
      rw [e2]
      by_cases e46 : bt s k = 46
      · rw [if_pos e46, if_pos e46]; omega
      · rw [if_neg e46, if_neg e46]; exact ih
theorem freeC_pos {s : ByteArray} : ∀ k, 0 < freeC s k → ∃ i, i < k ∧ bt s i = 46
  | 0, h => by simp [freeC] at h
  | k + 1, h => by
    rw [freeC] at h
    split at h
    · rename_i e; exact ⟨k, by omega, e⟩
    · obtain ⟨i, hi, e⟩ := freeC_pos k h
      exact ⟨i, by omega, e⟩
theorem freeC_mono {s : ByteArray} {i : Nat} : ∀ j, freeC s i ≤ freeC s (i + j)
  | 0 => Nat.le_refl _
  | j + 1 => by
    have := freeC_mono (s := s) (i := i) j
    rw [← Nat.add_assoc, freeC]
    split <;> omega
end Go.Proofs.Ytbjpjjokamaliaa.A
