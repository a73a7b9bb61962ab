/- The plain law of AmbushDangers: what its walk computes is true. -/
import Derived.Test.YtbjpjjokamaliaaKAmbushDangers
import Derived.Test.YtbjpjjokamaliaaC1
namespace Go.Proofs.Ytbjpjjokamaliaa.Pure
open Go.Proofs.Ytbjpjjokamaliaa.A
open Go.RowKit Go.Proofs.Ytbjpjjokamaliaa.PAmbushDangers Go.Proofs.YtbjpjjokamaliaaW.PrintWords Go.Proofs.YtbjpjjokamaliaaW.PrintLast

theorem dng_alive : Ev (fun k => (drovewaylaw04_alive.f k).bind fun t => some t) true := Ev.bind alive_ev (Ev.now true)
theorem dng_ref (m : Int) (l : List Int) (s : ByteArray) : ∃ r, ambush_Danger.f m l s = some r ∧ Ev (fun k => drovewayref04_Danger.f k m l s) r := by
  by_cases hP : okP m l s = 0
  · obtain ⟨hF, hs, _⟩ := okP_iff.1 hP
    subst hs
    have h9 : s.size ≤ 9 := by have := okF_m hF; omega
    refine ⟨(dangS l s, 0), by unfold ambush_Danger.f; rw [if_pos hP], ?_⟩
    refine Ev.bind (Placed_good l s hP) ?_
    refine Ev.congr (f := fun k => (drovewayref04_danger.f k s.size l (msk 119 s s.size) (msk 100 s s.size)).bind fun t142 => (some (t142, 0))) (fun k => by rw [if_pos rfl]) ?_
    exact Ev.bind (danger_ev h9 (msk_lt _ _ _) (msk_lt _ _ _) l (okF_L hF) (okF_len hF)) (Ev.now _)
  · obtain ⟨r, hr, hr2⟩ := Placed_ev m l s
    refine ⟨(0, okP m l s), by unfold ambush_Danger.f; rw [if_neg hP], ?_⟩
    refine Ev.bind hr (Ev.congr (f := fun _ => some (0, okP m l s)) (fun k => ?_) (Ev.now _))
    rw [hr2, if_neg hP]

theorem put_table : (List.range 512).all (fun d => (List.range 9).all fun i => d.testBit i || decide (d + 2 ^ i = d ||| 2 ^ i)) = true := by decide +kernel
theorem put_any {d i : Nat} (hd : d < 512) (hi : i < 9) (h : d.testBit i = false) : wrap64 ((d : Int) + shl .i64 1 (i : Int)) = ((d ||| 2 ^ i : Nat) : Int) := by
  have h1 := List.all_eq_true.1 put_table d (List.mem_range.2 hd)
  have h2 := List.all_eq_true.1 h1 i (List.mem_range.2 hi)
  rw [h] at h2
  have e : d + 2 ^ i = d ||| 2 ^ i := by simpa using h2
  have h0 : ∀ m : Nat, m < 10 → shl .i64 1 (m : Int) = (2 : Int) ^ m := by decide +kernel
  have hp : (2 : Nat) ^ i ≤ 512 := Nat.pow_le_pow_right (n := 2) (show 0 < 2 by decide) (show i ≤ 9 by omega)
  have hp2 := two_pow_pos' i
  have hp3 := two_pow_le (show i ≤ 61 by omega)
  rw [h0 i (by omega), ← e, Int.natCast_add, Int.natCast_pow]
  show wrap64 ((d : Int) + 2 ^ i) = (d : Int) + 2 ^ i
  generalize (2 : Int) ^ i = q at hp2 hp3 ⊢
  rw [wrap64_id] <;> omega
theorem dng_l0 {m p d : Nat} (h9 : m ≤ 9) (hp : p < 2 ^ m) (hd : d < 2 ^ m) (l : List Int) (hl : okL m l) (h12 : l.length ≤ 12) : ∀ n i, m - i = n → i ≤ m →
    Ev (fun k => drovewayref04_Careful.l0 k m l p d (carL l m p d i).1 (carL l m p d i).2 (i : Int)) (if (carL l m p d m).1 < 0 then (0, 9) else ((carL l m p d m).1, 0)) := by
  intro n
  induction n with
  | zero =>
    intro i hn hi
    have e : i = m := by omega
    subst e
    by_cases h : (carL l i p d i).1 < 0
    · refine Ev.step (f := fun _ => some (0, 9)) (fun k => ?_) (by rw [if_pos h]; exact Ev.now _)
      rw [drovewayref04_Careful.l0, if_neg (by omega), if_pos h]
    · refine Ev.step (f := fun _ => some ((carL l i p d i).1, 0)) (fun k => ?_) (by rw [if_neg h]; exact Ev.now _)
      rw [drovewayref04_Careful.l0, if_neg (by omega), if_neg h]
  | succ n ih =>
    intro i hn hi
    have ih' := ih (i + 1) (by omega) (by omega)
    clear ih
    have ew : wrap64 ((i : Int) + 1) = ((i + 1 : Nat) : Int) := by rw [wrap64_id] <;> omega
    have g1 : (i : Int) < (m : Int) := by omega
    have g2 : (0 : Int) ≤ (i : Int) := by omega
    have i9 : i < 9 := by omega
    have h62 : m ≤ 62 := by omega
    have hi' : i < m := by omega
    have hd9 : d < 512 := Nat.lt_of_lt_of_le hd (Nat.pow_le_pow_right (n := 2) (by decide) h9)
    have eo : bits .or .i64 (p : Int) (d : Int) = ((p ||| d : Nat) : Int) := or64 p d (lt62 hp h62) (lt62 hd h62)
    have es := shr_bit (p ||| d) i (by omega)
    rw [carL] at ih'
    by_cases hf : fr p.testBit d.testBit i = true
    · obtain ⟨f1, f2⟩ := (fr_iff _ _ _).1 hf
      have eb : (p ||| d).testBit i = false := by rw [Nat.testBit_or, f1, f2]; rfl
      rw [eb] at es
      have hdd := danger_ev h9 hp (or_lt hd (Nat.pow_lt_pow_right (by decide) hi')) l hl h12 (d := d ||| 2 ^ i)
      have hput := put_any hd9 i9 f2
      refine Ev.step (f := fun k => (drovewayref04_danger.f k m l p (d ||| 2 ^ i : Nat)).bind fun t146 => (if (carL l m p d i).1 < 0 then (drovewayref04_Careful.l0 k m l p d i t146 ((i + 1 : Nat) : Int)) else (if t146 < (carL l m p d i).2 then (drovewayref04_Careful.l0 k m l p d i t146 ((i + 1 : Nat) : Int)) else (drovewayref04_Careful.l0 k m l p d (carL l m p d i).1 (carL l m p d i).2 ((i + 1 : Nat) : Int))))) (fun k => ?_) ?_
      · rw [drovewayref04_Careful.l0, if_pos g1, if_pos g2, eo, es, if_neg (by decide), hput, ew]
      · refine Ev.bind hdd ?_
        by_cases hb : (carL l m p d i).1 < 0
        · rw [if_pos ⟨hf, .inl hb⟩] at ih'
          exact Ev.congr (fun k => by rw [if_pos hb]) ih'
        · by_cases hx : dangL m p (d ||| 2 ^ i) l < (carL l m p d i).2
          · rw [if_pos ⟨hf, .inr hx⟩] at ih'
            exact Ev.congr (fun k => by rw [if_neg hb, if_pos hx]) ih'
          · rw [if_neg (fun h => h.2.elim hb hx)] at ih'
            exact Ev.congr (fun k => by rw [if_neg hb, if_neg hx]) ih'
    · have eb : (p ||| d).testBit i = true := by
        have : fr p.testBit d.testBit i = false := by simpa using hf
        unfold fr at this
        rw [Nat.testBit_or]
        cases hq : (p.testBit i || d.testBit i) with
        | true => rfl
        | false => rw [hq] at this; cases this
      rw [eb] at es
      rw [if_neg (fun h => hf h.1)] at ih'
      refine Ev.step (fun k => ?_) ih'
      rw [drovewayref04_Careful.l0, if_pos g1, if_pos g2, eo, es, if_pos (by decide), ew]
theorem car_ref (m : Int) (l : List Int) (s : ByteArray) : ∃ r, ambush_Careful.f m l s = some r ∧ Ev (fun k => drovewayref04_Careful.f k m l s) r := by
  by_cases hP : okP m l s = 0
  · obtain ⟨hF, hs, _⟩ := okP_iff.1 hP
    subst hs
    have h9 : s.size ≤ 9 := by have := okF_m hF; omega
    refine ⟨_, by unfold ambush_Careful.f; rw [if_pos hP], ?_⟩
    refine Ev.bind (Placed_good l s hP) ?_
    refine Ev.congr (fun k => ?_) (dng_l0 h9 (msk_lt 119 s s.size) (msk_lt 100 s s.size) l (okF_L hF) (okF_len hF) _ 0 rfl (Nat.zero_le _))
    rw [if_pos rfl]
    rfl
  · obtain ⟨r, hr, hr2⟩ := Placed_ev m l s
    refine ⟨(0, okP m l s), by unfold ambush_Careful.f; rw [if_neg hP], ?_⟩
    refine Ev.bind hr (Ev.congr (f := fun _ => some (0, okP m l s)) (fun k => ?_) (Ev.now _))
    rw [hr2, if_neg hP]

/-- AmbushDangers, plain. -/
theorem AmbushDangers : drovewaylaw04_AmbushDangers.Pure := by
  intro m l s _ _ _ _ _
  refine Ev.rounds (g := fun k => drovewaylaw04_AmbushDangers.f k m l s) ?_
  unfold drovewaylaw04_AmbushDangers.f
  rw [few_eq]
  simp only [Option.bind_some]
  by_cases hf : ((l.length : Int) ≤ 40 ∧ (s.size : Int) ≤ 40 ∧ ((⟨#[]⟩ : ByteArray).size : Int) ≤ 40)
  · simp only [decide_eq_true hf, if_true]
    obtain ⟨r, hr, he⟩ := dng_ref m l s
    obtain ⟨q, hq, he2⟩ := car_ref m l s
    rw [hr]
    simp only [Option.bind_some]
    refine Ev.bind he ?_
    simp only [if_true]
    have hj : Ev (fun k => drovewaylaw04_AmbushDangers.j0 k m l s (r.2 != r.2)) true := by
      refine Ev.step (f := fun k => (drovewayref04_Careful.f k m l s).bind fun bt155 => (if q.1 = bt155.1 then (if q.2 = bt155.2 then ((drovewaylaw04_alive.f k).bind fun t157 => (some t157)) else (some false)) else (some false))) (fun k => ?_) ?_
      · rw [drovewaylaw04_AmbushDangers.j0, if_neg (by simp), hq]
        rfl
      · refine Ev.bind he2 (Ev.congr (fun k => ?_) dng_alive)
        rw [if_pos rfl, if_pos rfl]
    exact hj
  · simp only [decide_eq_false hf]
    exact Ev.congr (fun k => by rw [if_neg (by decide)]) dng_alive
end Go.Proofs.Ytbjpjjokamaliaa.Pure
