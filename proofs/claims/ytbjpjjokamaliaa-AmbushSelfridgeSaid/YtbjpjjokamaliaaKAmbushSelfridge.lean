/- What the law package's own functions and the reference's small ones compute (plain). -/
import Derived.Test.YtbjpjjokamaliaaPAmbushSelfridgex
import Derived.Test.YtbjpjjokamaliaaD2
import Derived.KernelRfl
namespace Go.Proofs.Ytbjpjjokamaliaa.PAmbushSelfridge
open Go.Proofs.Ytbjpjjokamaliaa.A
open Go.RowKit Go.Proofs.YtbjpjjokamaliaaW.PrintWords Go.Proofs.YtbjpjjokamaliaaW.PrintLast

theorem alive_ev : Ev (fun k => drovewaylaw04_alive.f k) true := Ev.of drovewaylaw04_alive.mono (k := 3) (by kernel_rfl)
theorem few_eq (l : List Int) (s t : ByteArray) : drovewaylaw04_few.f l s t = some (decide ((l.length : Int) ≤ 40 ∧ (s.size : Int) ≤ 40 ∧ (t.size : Int) ≤ 40)) := by
  unfold drovewaylaw04_few.f
  by_cases h1 : (l.length : Int) ≤ 40
  · by_cases h2 : (s.size : Int) ≤ 40
    · rw [if_pos h1, if_pos h2]; simp [h1, h2]
    · rw [if_pos h1, if_neg h2]; simp [h2]
  · rw [if_neg h1]; simp [h1]
theorem free_l0 (s : ByteArray) (hs : s.size ≤ 140737488351232) : ∀ n i, s.size - i = n → i ≤ s.size →
    Ev (fun k => drovewaylaw04_free.l0 k s (freeC s i) (i : Int)) (freeC s s.size : Int) := by
  intro n
  induction n with
  | zero =>
    intro i hn hi
    have e : i = s.size := by omega
    subst e
    refine Ev.step (f := fun _ => some _) (fun k => ?_) (Ev.now _)
    rw [drovewaylaw04_free.l0, if_neg (by omega)]
  | succ n ih =>
    intro i hn hi
    have hl := freeC_le s i
    have ew : wrap64 ((i : Int) + 1) = ((i + 1 : Nat) : Int) := by rw [wrap64_id] <;> omega
    have ih' := ih (i + 1) (by omega) (by omega)
    by_cases e1 : bt s i = 46
    · have : freeC s (i + 1) = freeC s i + 1 := by rw [freeC, if_pos e1]
      have ew2 : wrap64 ((freeC s i : Int) + 1) = ((freeC s i + 1 : Nat) : Int) := by rw [wrap64_id] <;> omega
      rw [this] at ih'
      refine Ev.step (fun k => ?_) ih'
      rw [drovewaylaw04_free.l0, if_pos (by omega), if_pos (by omega), if_pos e1, ew, ew2]
    · have : freeC s (i + 1) = freeC s i := by rw [freeC, if_neg e1]
      rw [this] at ih'
      refine Ev.step (fun k => ?_) ih'
      rw [drovewaylaw04_free.l0, if_pos (by omega), if_pos (by omega), if_neg e1, ew]
theorem free_ev (s : ByteArray) (hs : s.size ≤ 140737488351232) : Ev (fun k => drovewaylaw04_free.f k s) (freeC s s.size : Int) := free_l0 s hs _ 0 rfl (Nat.zero_le _)
theorem chosen_l0 (s : ByteArray) (hs : s.size ≤ 140737488351232) : ∀ n i (b : Int), s.size - i = n → i ≤ s.size → 0 ≤ b → (freeC s i : Int) + b < freeC s s.size →
    ∃ j : Nat, j < s.size ∧ bt s j = 46 ∧ Ev (fun k => drovewaylaw04_chosen.l0 k s b (i : Int)) (j : Int) := by
  intro n
  induction n with
  | zero =>
    intro i b hn hi h0 hb
    have e : i = s.size := by omega
    subst e
    omega
  | succ n ih =>
    intro i b hn hi h0 hb
    have ew : wrap64 ((i : Int) + 1) = ((i + 1 : Nat) : Int) := by rw [wrap64_id] <;> omega
    have hle := freeC_le s s.size
    by_cases e1 : bt s i = 46
    · by_cases eb : b = 0
      · refine ⟨i, by omega, e1, Ev.step (f := fun _ => some (i : Int)) (fun k => ?_) (Ev.now _)⟩
        rw [drovewaylaw04_chosen.l0, if_pos (by omega), if_pos (by omega), if_pos e1, if_pos eb]
      · have hf : freeC s (i + 1) = freeC s i + 1 := by rw [freeC, if_pos e1]
        have ew2 : wrap64 (b - 1) = b - 1 := by rw [wrap64_id] <;> omega
        obtain ⟨j, hj, e, h⟩ := ih (i + 1) (b - 1) (by omega) (by omega) (by omega) (by omega)
        refine ⟨j, hj, e, Ev.step (fun k => ?_) h⟩
        rw [drovewaylaw04_chosen.l0, if_pos (by omega), if_pos (by omega), if_pos e1, if_neg eb, ew, ew2]
    · have hf : freeC s (i + 1) = freeC s i := by rw [freeC, if_neg e1]
      obtain ⟨j, hj, e, h⟩ := ih (i + 1) b (by omega) (by omega) h0 (by omega)
      refine ⟨j, hj, e, Ev.step (fun k => ?_) h⟩
      rw [drovewaylaw04_chosen.l0, if_pos (by omega), if_pos (by omega), if_neg e1, ew]
theorem chosen_ev (s : ByteArray) (hs : s.size ≤ 140737488351232) (b : Int) (hb : 0 ≤ b) (hf : 0 < freeC s s.size) :
    ∃ j : Nat, j < s.size ∧ bt s j = 46 ∧ Ev (fun k => drovewaylaw04_chosen.f k s b) (j : Int) := by
  have hm : Int.tmod b (freeC s s.size) = b % (freeC s s.size) := Int.tmod_eq_emod_of_nonneg hb
  have h1 : 0 ≤ b % (freeC s s.size : Int) := Int.emod_nonneg _ (by omega)
  have h2 : b % (freeC s s.size : Int) < freeC s s.size := Int.emod_lt_of_pos _ (by omega)
  obtain ⟨j, hj, e, h⟩ := chosen_l0 s hs _ 0 (b % (freeC s s.size : Int)) rfl (Nat.zero_le _) h1 (by simp only [freeC]; omega)
  refine ⟨j, hj, e, ?_⟩
  refine Ev.bind (f := fun k t134 => if t134 = 0 then (some (-1)) else (drovewaylaw04_chosen.l0 k s (Int.tmod b t134) 0)) (free_ev s hs) ?_
  refine Ev.congr (fun k => ?_) h
  rw [if_neg (by omega), hm]
  rfl
end Go.Proofs.Ytbjpjjokamaliaa.PAmbushSelfridge
