/- The plain law of AmbushMore: what its walk computes is true. -/
import Derived.Test.YtbjpjjokamaliaaKAmbushMore
namespace Go.Proofs.Ytbjpjjokamaliaa.Pure
open Go.Proofs.Ytbjpjjokamaliaa.A
open Go.RowKit Go.Proofs.Ytbjpjjokamaliaa.PAmbushMore Go.Proofs.YtbjpjjokamaliaaW.PrintWords Go.Proofs.YtbjpjjokamaliaaW.PrintLast

theorem letS_list (b c : Bool) : (letS b).toList = (letS c).toList ↔ b = c := by cases b <;> cases c <;> decide +kernel
theorem alive_then : Ev (fun k => (drovewaylaw04_alive.f k).bind fun t => some t) true := Ev.bind alive_ev (Ev.now true)

theorem more_j1 (s : ByteArray) (hs : s.size ≤ 140737488351232) (nx a c : Bool) (h : c = nx → a = nx) :
    Ev (fun k => drovewaylaw04_AmbushMore.j1 k s (letS nx) (letS a) (letS c) false) true := by
  have hend : Ev (fun k => if (freeC s s.size : Int) = 0 then ((drovewaylaw04_alive.f k).bind fun t151 => (some t151)) else (if (letS c).toList = (letS nx).toList then (if (letS a).toList = (letS nx).toList then ((drovewaylaw04_alive.f k).bind fun t152 => (some t152)) else (some false)) else ((drovewaylaw04_alive.f k).bind fun t153 => (some t153)))) true := by
    by_cases h0 : (freeC s s.size : Int) = 0
    · exact Ev.congr (fun k => by rw [if_pos h0]) alive_then
    · by_cases h1 : (letS c).toList = (letS nx).toList
      · have h2 : (letS a).toList = (letS nx).toList := (letS_list a nx).2 (h ((letS_list c nx).1 h1))
        exact Ev.congr (fun k => by rw [if_neg h0, if_pos h1, if_pos h2]) alive_then
      · exact Ev.congr (fun k => by rw [if_neg h0, if_neg h1]) alive_then
  refine Ev.step (fun k => ?_) (Ev.bind (f := fun k t150 => if t150 = 0 then ((drovewaylaw04_alive.f k).bind fun t151 => (some t151)) else (if (letS c).toList = (letS nx).toList then (if (letS a).toList = (letS nx).toList then ((drovewaylaw04_alive.f k).bind fun t152 => (some t152)) else (some false)) else ((drovewaylaw04_alive.f k).bind fun t153 => (some t153)))) (free_ev s hs) hend)
  rw [drovewaylaw04_AmbushMore.j1, if_neg (by decide)]

theorem more_j0 (m : Int) (l : List Int) (s : ByteArray) (x : Int) (hs : s.size ≤ 140737488351232) (h0 : okP m l s = 0) (nx : Bool) :
    Ev (fun k => drovewaylaw04_AmbushMore.j0 k m l s x (letS nx) (letS (!nx))) true := by
  obtain ⟨hF, _, _⟩ := okP_iff.1 h0
  obtain ⟨h1, _⟩ := okF_m hF
  obtain ⟨y, hy⟩ : ∃ y, Int.tmod (wrap64 x) m = y := ⟨_, rfl⟩
  have hend : Ev (fun k => drovewaylaw04_AmbushMore.j1 k s (letS nx) (letS (winS l s nx)) (letS (winS l s (!nx))) false) true := by
    refine more_j1 s hs nx _ _ fun h => ?_
    cases nx
    · cases e : winS l s false with
      | false => rfl
      | true => rw [show (!false) = true from rfl, winS_tempo e] at h; cases h
    · exact winS_tempo h
  have hgood : ∀ k, drovewaylaw04_AmbushMore.j0 (k + 1) m l s x (letS nx) (letS (!nx)) = drovewaylaw04_AmbushMore.j1 k s (letS nx) (letS (winS l s nx)) (letS (winS l s (!nx))) false := by
    intro k
    rw [drovewaylaw04_AmbushMore.j0, winner_let h0, winner_let h0, hy]
    simp only [Option.bind_some]
    rw [if_neg (by omega)]
    unfold drovewaylaw04_placed.f
    simp only [Option.bind_some]
    rw [winner_let (okP_placed h0 y 119 rfl (by decide) (by decide))]
    simp only [Option.bind_some, if_true]
    cases e : winS l s nx with
    | false =>
      have q1 : ¬ (letS false).toList = ([119] : List UInt8) := by decide +kernel
      have q2 : ((letS false).toList != ([100] : List UInt8)) = false := by decide +kernel
      rw [if_neg q1, q2]
    | true =>
      have q1 : (letS true).toList = ([119] : List UInt8) := by decide +kernel
      rw [winS_placed e, if_pos q1, if_pos q1]
  exact Ev.step hgood hend

/-- AmbushMore, plain. -/
theorem AmbushMore : drovewaylaw04_AmbushMore.Pure := by
  intro m l s nx x _ _ _ _ hs _
  refine Ev.rounds (g := fun k => drovewaylaw04_AmbushMore.f k m l s nx x) ?_
  unfold drovewaylaw04_AmbushMore.f
  rw [few_eq]
  simp only [Option.bind_some]
  by_cases hf : ((l.length : Int) ≤ 40 ∧ (s.size : Int) ≤ 40 ∧ ((⟨#[]⟩ : ByteArray).size : Int) ≤ 40)
  · simp only [decide_eq_true hf, if_true]
    obtain ⟨r, hr, hr2⟩ := Placed_ev m l s
    refine Ev.bind hr ?_
    rw [hr2]
    by_cases h0 : okP m l s = 0
    · have hh := more_j0 m l s x hs h0
      cases nx
      · exact Ev.congr (fun k => by rw [if_pos h0, if_neg (by decide)]; rfl) (hh false)
      · exact Ev.congr (fun k => by rw [if_pos h0, if_pos rfl]; rfl) (hh true)
    · exact Ev.congr (fun k => by rw [if_neg h0]) alive_then
  · simp only [decide_eq_false hf]
    exact Ev.congr (fun k => by rw [if_neg (by decide)]) alive_then
end Go.Proofs.Ytbjpjjokamaliaa.Pure
