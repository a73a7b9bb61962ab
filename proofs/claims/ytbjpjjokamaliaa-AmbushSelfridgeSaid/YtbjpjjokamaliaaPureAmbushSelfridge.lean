/- The plain law of AmbushSelfridge: what its walk computes is true. -/
import Derived.Test.YtbjpjjokamaliaaKAmbushSelfridge
import Derived.Test.YtbjpjjokamaliaaD1
namespace Go.Proofs.Ytbjpjjokamaliaa.Pure
open Go.Proofs.Ytbjpjjokamaliaa.A
open Go.RowKit Go.Proofs.Ytbjpjjokamaliaa.PAmbushSelfridge Go.Proofs.YtbjpjjokamaliaaW.PrintWords Go.Proofs.YtbjpjjokamaliaaW.PrintLast

set_option linter.unusedVariables false
theorem sel_alive : Ev (fun k => (drovewaylaw04_alive.f k).bind fun t => some t) true := Ev.bind alive_ev (Ev.now true)
/-- The dogs are safe in a position that is written. -/
def SafeS (l : List Int) (s : ByteArray) (wolves : Bool) : Prop :=
  if wolves = true then SafeW l s.size (msk 119 s s.size) (msk 100 s s.size) else SafeD l s.size (msk 119 s s.size) (msk 100 s s.size)
theorem SafeS.d {l : List Int} {s : ByteArray} {wolves : Bool} (h : SafeS l s wolves) : SafeD l s.size (msk 119 s s.size) (msk 100 s s.size) := by
  unfold SafeS at h
  cases wolves
  · exact h
  · exact h.1
theorem SafeS.win {l : List Int} {s : ByteArray} {wolves : Bool} (h9 : s.size ≤ 9) (hl : okL s.size l) (h : SafeS l s wolves) : winS l s wolves = false := by
  cases wolves
  · exact h.d.wins h9 hl
  · exact SafeW.wins h9 hl h
theorem SafeS.wolf {l : List Int} {s : ByteArray} {j : Nat} (hP : okP (s.size : Int) l s = 0) (h : SafeS l s true) (hj : j < s.size) (h46 : bt s j = 46) : SafeS l (placedS s j 119) false := by
  have hf := (fr_bt hP hj).2 h46
  have hw : SafeW l s.size (msk 119 s s.size) (msk 100 s s.size) := h
  show SafeD l (placedS s j 119).size _ _
  rw [placedS_size, msk_put hj (by decide) (by decide), msk_keep hj h46 (by decide) (by decide) (by decide) (by decide)]
  exact hw.2 j hj hf
theorem SafeS.dog {l : List Int} {s : ByteArray} (h9 : s.size ≤ 9) (hl : okL s.size l) (hP : okP (s.size : Int) l s = 0) (h : SafeS l s false) (hf : 0 < freeC s s.size) :
    ∃ j : Nat, carS l s = j ∧ j < s.size ∧ bt s j = 46 ∧ SafeS l (placedS s j 100) true := by
  have hd : SafeD l s.size (msk 119 s s.size) (msk 100 s s.size) := h
  rcases carL_spec l s.size (msk 119 s s.size) (msk 100 s s.size) h9 s.size with ⟨_, hno⟩ | ⟨j, hj, e1, _, hfj, hb⟩
  · obtain ⟨i, hi, h46⟩ := freeC_pos _ hf
    have := (fr_bt hP hi).2 h46
    rw [hno i hi] at this; cases this
  · have h46 := (fr_bt hP hj).1 hfj
    refine ⟨j, e1, hj, h46, ?_⟩
    show SafeW l (placedS s j 100).size _ _
    rw [placedS_size, msk_put hj (by decide) (by decide), msk_keep hj h46 (by decide) (by decide) (by decide) (by decide)]
    exact hd.move h9 hl hfj hb

theorem sel_end (l : List Int) (s : ByteArray) (h9 : s.size ≤ 9) (hl : okL s.size l) (hP : okP (s.size : Int) l s = 0) (wolves : Bool) (h : SafeS l s wolves) (ms : List Int) (i : Int) (hf : freeC s s.size = 0) :
    Ev (fun k => drovewaylaw04_AmbushSelfridge.l0 k s.size l wolves ms s i) true := by
  have hw : winS l s false = false := h.d.wins h9 hl
  have hW : ambush_Winner.f s.size l s (⟨#[100]⟩ : ByteArray) = some (letS false, 0) := by
    have := winner_let hP false
    rw [hw] at this
    exact this
  have q : (letS false).toList = ([100] : List UInt8) := by decide +kernel
  refine Ev.step (fun k => by rw [drovewaylaw04_AmbushSelfridge.l0]) (Ev.bind (free_ev s (by omega)) ?_)
  refine Ev.congr (fun k => ?_) sel_alive
  rw [if_neg (by omega), hW]
  simp only [Option.bind_some, if_true]
  rw [if_pos q]

theorem sel_loop (l : List Int) (ms : List Int) (hms : ms.length ≤ maxLen) (hu : ∀ x ∈ ms, (Lit.int .u8 x).wf = true) : ∀ n (s : ByteArray) (wolves : Bool) (i : Int), freeC s s.size = n → s.size ≤ 9 → okL s.size l → okP (s.size : Int) l s = 0 → SafeS l s wolves → 0 ≤ i → i + n ≤ 1000 →
    Ev (fun k => drovewaylaw04_AmbushSelfridge.l0 k s.size l wolves ms s i) true := by
  intro n
  induction n with
  | zero => intro s wolves i hn h9 hl hP h _ _; exact sel_end l s h9 hl hP wolves h ms i hn
  | succ n ih =>
    intro s wolves i hn h9 hl hP h hi hin
    have hfp : 0 < freeC s s.size := by omega
    have ewi : wrap64 (i + 1) = i + 1 := by rw [wrap64_id] <;> omega
    have hput : ∀ (j : Nat) (c : Int), j < s.size → bt s j = 46 → 0 ≤ c → c < 256 → c ≠ 46 → freeC (placedS s j c) (placedS s j c).size = n := by
      intro j c hj h46 h0 h1 hc
      have := freeC_placed hj h46 h0 h1 hc s.size (Nat.le_refl _)
      rw [if_pos hj] at this
      rw [placedS_size]
      omega
    cases wolves with
    | true =>
      have hgo : ∀ b : Int, 0 ≤ b → ∃ j : Nat, Ev (fun k => drovewaylaw04_chosen.f k s b) (j : Int) ∧ Ev (fun k => drovewaylaw04_AmbushSelfridge.l0 k s.size l false ms (placedS s j 119) (i + 1)) true := by
        intro b hb
        obtain ⟨j, hj, h46, he⟩ := chosen_ev s (by omega) b hb hfp
        have := ih (placedS s j 119) false (i + 1) (hput j 119 hj h46 (by decide) (by decide) (by decide)) (by rw [placedS_size]; exact h9) (by rw [placedS_size]; exact hl) (by rw [placedS_size]; exact okP_placed hP j 119 rfl (by decide) (by decide)) (h.wolf hP hj h46) (by omega) (by omega)
        rw [placedS_size] at this
        exact ⟨j, he, this⟩
      by_cases hlt : i < (ms.length : Int)
      · have hb0 : 0 ≤ rd ms i ∧ rd ms i ≤ 255 := by
          have hi' : i.toNat < ms.length := by omega
          have hm : rd ms i ∈ ms := by
            unfold rd
            rw [List.getD_eq_getElem?_getD, List.getElem?_eq_getElem hi']
            exact List.getElem_mem hi'
          have := hu _ hm
          have e1 : IntKind.u8.min = 0 := by decide +kernel
          have e2 : IntKind.u8.max = 255 := by decide +kernel
          simp [Lit.wf] at this
          omega
        have ew : wrap64 (rd ms i) = rd ms i := by rw [wrap64_id] <;> omega
        obtain ⟨j, he, hl0⟩ := hgo (rd ms i) hb0.1
        refine Ev.step (fun k => by rw [drovewaylaw04_AmbushSelfridge.l0]) (Ev.bind (free_ev s (by omega)) ?_)
        refine Ev.congr (f := fun k => (drovewaylaw04_chosen.f k s (rd ms i)).bind fun t148 => ((drovewaylaw04_placed.f s t148 119).bind fun t149 => (drovewaylaw04_AmbushSelfridge.l0 k s.size l (!true) ms t149 (i + 1)))) (fun k => ?_) ?_
        · rw [if_pos (by omega), if_pos rfl, if_pos hlt, if_pos hi, ew, ewi]
        · exact Ev.bind he hl0
      · obtain ⟨j, he, hl0⟩ := hgo 0 (by decide)
        refine Ev.step (fun k => by rw [drovewaylaw04_AmbushSelfridge.l0]) (Ev.bind (free_ev s (by omega)) ?_)
        refine Ev.congr (f := fun k => (drovewaylaw04_chosen.f k s 0).bind fun t148 => ((drovewaylaw04_placed.f s t148 119).bind fun t149 => (drovewaylaw04_AmbushSelfridge.l0 k s.size l (!true) ms t149 (i + 1)))) (fun k => ?_) ?_
        · rw [if_pos (by omega), if_pos rfl, if_neg hlt, ewi]
        · exact Ev.bind he hl0
    | false =>
      obtain ⟨j, hc, hj, h46, hs'⟩ := h.dog h9 hl hP hfp
      have := ih (placedS s j 100) true i (hput j 100 hj h46 (by decide) (by decide) (by decide)) (by rw [placedS_size]; exact h9) (by rw [placedS_size]; exact hl) (by rw [placedS_size]; exact okP_placed hP j 100 rfl (by decide) (by decide)) hs' (by omega) (by omega)
      rw [placedS_size] at this
      have hC : ambush_Careful.f s.size l s = some ((j : Int), 0) := by
        unfold ambush_Careful.f
        rw [if_pos hP, hc, if_neg (by omega)]
      refine Ev.step (fun k => by rw [drovewaylaw04_AmbushSelfridge.l0]) (Ev.bind (free_ev s (by omega)) ?_)
      refine Ev.congr (fun k => ?_) this
      rw [if_pos (by omega), if_neg (by decide), hC]
      simp only [Option.bind_some, if_true]
      rw [if_neg (by omega), if_neg (by omega), if_pos (by omega), if_pos (by omega), if_pos h46]
      rfl

theorem shl1 {k : Nat} (h : k ≤ 9) : shl .i64 1 (k : Int) = 2 ^ k := by
  have : ∀ m : Nat, m < 10 → shl .i64 1 (m : Int) = (2 : Int) ^ m := by decide +kernel
  exact this k (by omega)

theorem sel_main (l : List Int) (s : ByteArray) (ms : List Int) (hms : ms.length ≤ maxLen) (hu : ∀ x ∈ ms, (Lit.int .u8 x).wf = true) (wolves : Bool) (hP : okP (s.size : Int) l s = 0) (h : SafeS l s wolves) :
    Ev (fun k => drovewaylaw04_AmbushSelfridge.j1 k s.size l s wolves ms false) true := by
  obtain ⟨hF, _, _⟩ := okP_iff.1 hP
  obtain ⟨_, h9⟩ := okF_m hF
  have hl := okF_L hF
  have h9' : s.size ≤ 9 := by omega
  have hloop := sel_loop l ms hms hu _ s wolves 0 rfl h9' hl hP h (by decide) (by have := freeC_le s s.size; omega)
  have h3 : Ev (fun k => drovewaylaw04_AmbushSelfridge.j3 k s.size l s wolves ms false) true := by
    refine Ev.step (fun k => ?_) hloop
    rw [drovewaylaw04_AmbushSelfridge.j3, if_neg (by decide)]
  have hw := h.win h9' hl
  have q : ((letS false).toList != ([100] : List UInt8)) = false := by decide +kernel
  have h2 : Ev (fun k => drovewaylaw04_AmbushSelfridge.j2 k s.size l s wolves ms (letS wolves)) true := by
    refine Ev.step (fun k => ?_) h3
    rw [drovewaylaw04_AmbushSelfridge.j2, winner_let hP, hw]
    simp only [Option.bind_some, if_true]
    rw [q]
  refine Ev.step (fun k => ?_) h2
  rw [drovewaylaw04_AmbushSelfridge.j1, if_neg (by decide)]
  cases wolves
  · rw [if_neg (by decide)]; rfl
  · rw [if_pos rfl]; rfl
theorem sel_out (l : List Int) (s : ByteArray) (ms : List Int) (m : Int) (wolves : Bool) (h1 : 1 ≤ m) (h9 : m ≤ 9) : Ev (fun k => drovewaylaw04_AmbushSelfridge.j1 k m l s wolves ms true) true := by
  refine Ev.step (fun k => ?_) sel_alive
  rw [drovewaylaw04_AmbushSelfridge.j1, if_pos rfl, if_pos h1, if_pos h9]

theorem sel_j0 (m : Int) (l : List Int) (s : ByteArray) (wolves : Bool) (ms : List Int) (hms : ms.length ≤ maxLen) (hu : ∀ x ∈ ms, (Lit.int .u8 x).wf = true) :
    Ev (fun k => drovewaylaw04_AmbushSelfridge.j0 k m l s wolves ms false) true := by
  by_cases hP : okP m l s = 0
  · obtain ⟨hF, hs, _⟩ := okP_iff.1 hP
    subst hs
    obtain ⟨h1, h9⟩ := okF_m hF
    have hl := okF_L hF
    have h9' : s.size ≤ 9 := by omega
    have hD : ambush_Danger.f s.size l s = some (dangS l s, 0) := by unfold ambush_Danger.f; rw [if_pos hP]
    have hap : Apart (msk 119 s s.size) (msk 100 s s.size) := fun k => msk_apart s s.size k
    have e9 : shl .i64 1 (s.size : Int) = 2 ^ s.size := shl1 h9'
    have e8 : shl .i64 1 (wrap64 ((s.size : Int) - 1)) = 2 ^ (s.size - 1) := by
      have : wrap64 ((s.size : Int) - 1) = ((s.size - 1 : Nat) : Int) := by rw [wrap64_id] <;> omega
      rw [this]; exact shl1 (by omega)
    have e80 : 0 ≤ wrap64 ((s.size : Int) - 1) := by rw [wrap64_id] <;> omega
    have hpow : (2 : Int) ^ s.size = 2 * 2 ^ (s.size - 1) := by
      have : s.size = (s.size - 1) + 1 := by omega
      conv => lhs; rw [this, Int.pow_succ]
      omega
    have hun : ∀ k, drovewaylaw04_AmbushSelfridge.j0 (k + 1) s.size l s wolves ms false = (if wolves = true then (if dangS l s ≥ 2 ^ (s.size - 1) then (drovewaylaw04_AmbushSelfridge.j1 k s.size l s wolves ms true) else (drovewaylaw04_AmbushSelfridge.j1 k s.size l s wolves ms (decide (dangS l s ≥ 2 ^ s.size)))) else (drovewaylaw04_AmbushSelfridge.j1 k s.size l s wolves ms (decide (dangS l s ≥ 2 ^ s.size)))) := by
      intro k
      rw [drovewaylaw04_AmbushSelfridge.j0, if_neg (by decide), hD]
      simp only [Option.bind_some, if_true]
      rw [if_neg (by omega), if_neg (by omega), if_pos e80, e8, e9, if_pos (show (0 : Int) ≤ s.size by omega)]
    have hout : Ev (fun k => drovewaylaw04_AmbushSelfridge.j1 k s.size l s wolves ms true) true := sel_out l s ms s.size wolves h1 h9
    cases wolves with
    | true =>
      by_cases hbig : dangS l s ≥ 2 ^ (s.size - 1)
      · exact Ev.step (fun k => by rw [hun, if_pos rfl, if_pos hbig]) hout
      · have hn : ¬ dangS l s ≥ 2 ^ s.size := by
          have := (dangL_bd (p := msk 119 s s.size) (d := msk 100 s s.size) h9' l).1
          unfold dangS at hbig ⊢
          omega
        have hS : SafeS l s true := SafeW.first h9' hl hap (by unfold dangS at hbig; omega)
        exact Ev.step (fun k => by rw [hun, if_pos rfl, if_neg hbig, decide_eq_false hn]) (sel_main l s ms hms hu true hP hS)
    | false =>
      by_cases hbig : dangS l s ≥ 2 ^ s.size
      · exact Ev.step (fun k => by rw [hun, if_neg (by decide), decide_eq_true hbig]) hout
      · have hS : SafeS l s false := ⟨hap, by unfold dangS at hbig; omega⟩
        exact Ev.step (fun k => by rw [hun, if_neg (by decide), decide_eq_false hbig]) (sel_main l s ms hms hu false hP hS)
  · have hD : ambush_Danger.f m l s = some (0, okP m l s) := by unfold ambush_Danger.f; rw [if_neg hP]
    refine Ev.step (fun k => ?_) sel_alive
    rw [drovewaylaw04_AmbushSelfridge.j0, if_neg (by decide), hD]
    show (if okP m l s = 0 then _ else if (0 : Int) = 0 then _ else _) = _
    rw [if_neg hP, if_pos rfl]

/-- AmbushSelfridge, plain. -/
theorem AmbushSelfridge : drovewaylaw04_AmbushSelfridge.Pure := by
  intro m l s wolves ms _ _ _ _ _ hms _ hu
  refine Ev.rounds (g := fun k => drovewaylaw04_AmbushSelfridge.f k m l s wolves ms) ?_
  unfold drovewaylaw04_AmbushSelfridge.f
  rw [few_eq]
  simp only [Option.bind_some]
  have hskip : Ev (fun k => drovewaylaw04_AmbushSelfridge.j0 k m l s wolves ms true) true := by
    refine Ev.step (fun k => ?_) sel_alive
    rw [drovewaylaw04_AmbushSelfridge.j0, if_pos rfl]
  by_cases hf : ((l.length : Int) ≤ 40 ∧ (s.size : Int) ≤ 40 ∧ ((⟨#[]⟩ : ByteArray).size : Int) ≤ 40)
  · simp only [decide_eq_true hf, if_true]
    by_cases h40 : (ms.length : Int) > 40
    · simp only [decide_eq_true h40]; exact hskip
    · simp only [decide_eq_false h40]; exact sel_j0 m l s wolves ms hms hu
  · simp only [decide_eq_false hf]
    exact Ev.congr (fun k => by rw [if_neg (by decide)]) hskip
end Go.Proofs.Ytbjpjjokamaliaa.Pure
