/- What the law package's own functions and the reference's small ones compute (plain). -/
import Derived.Test.YtbjpjjokamaliaaPAmbushMorex
import Derived.Test.YtbjpjjokamaliaaD0
import Derived.KernelRfl
namespace Go.Proofs.Ytbjpjjokamaliaa.PAmbushMore
open Go.Proofs.Ytbjpjjokamaliaa.A
open Go.RowKit Go.Proofs.YtbjpjjokamaliaaW.PrintWords Go.Proofs.YtbjpjjokamaliaaW.PrintLast

theorem alive_ev : Ev (fun k => drovewaylaw04_alive.f k) true := Ev.of drovewaylaw04_alive.mono (k := 3) (by kernel_rfl)
theorem few_eq (l : List Int) (s t : ByteArray) : drovewaylaw04_few.f l s t = some (decide ((l.length : Int) ≤ 40 ∧ (s.size : Int) ≤ 40 ∧ (t.size : Int) ≤ 40)) := by
  unfold drovewaylaw04_few.f
  by_cases h1 : (l.length : Int) ≤ 40
  · by_cases h2 : (s.size : Int) ≤ 40
    · rw [if_pos h1, if_pos h2]; simp [h1, h2]
    · rw [if_pos h1, if_neg h2]; simp [h2]
  · rw [if_neg h1]; simp [h1]
theorem shl_two {m : Nat} (h1 : 1 ≤ m) (h9 : m ≤ 9) : shl .i64 1 (m : Int) = 2 ^ m := by
  have : ∀ m : Nat, m < 10 → shl .i64 1 (m : Int) = (2 : Int) ^ m := by decide +kernel
  exact this m (by omega)
def bad (m : Nat) (x : Int) : Bool := decide (x < 1) || decide (2 ^ m ≤ x)
theorem Field_l0 {m : Nat} (h1 : 1 ≤ m) (h9 : m ≤ 9) (l : List Int) (h12 : l.length ≤ 12) : ∀ n i, l.length - i = n → i ≤ l.length →
    Ev (fun k => drovewayref04_Field.l0 k m l (i : Int)) (if ((l.drop i).any (bad m)) = true then 2 else 0) := by
  intro n
  induction n with
  | zero =>
    intro i hn hi
    have e : l.drop i = [] := List.drop_eq_nil_of_le (by omega)
    rw [e]
    refine Ev.step (f := fun _ => some 0) (fun k => ?_) (Ev.now _)
    rw [drovewayref04_Field.l0, if_neg (by omega)]
  | succ n ih =>
    intro i hn hi
    have hlt : i < l.length := by omega
    have ed : l.drop i = l[i] :: l.drop (i + 1) := List.drop_eq_getElem_cons hlt
    have er : rd l (i : Int) = l[i] := by simp [rd, List.getD_eq_getElem?_getD, hlt]
    have ew : wrap64 ((i : Int) + 1) = ((i + 1 : Nat) : Int) := by rw [wrap64_id] <;> omega
    rw [ed]
    have ih' := ih (i + 1) (by omega) (by omega)
    clear ed ih
    generalize l.drop (i + 1) = t at *
    have hun : ∀ k, drovewayref04_Field.l0 (k + 1) m l (i : Int) = if l[i] < 1 then some 2 else if l[i] ≥ 2 ^ m then some 2 else drovewayref04_Field.l0 k m l ((i + 1 : Nat) : Int) := by
      intro k
      rw [drovewayref04_Field.l0, if_pos (by omega), if_pos (by omega), er, shl_two h1 h9, ew, if_pos (show (0 : Int) ≤ m by omega)]
    by_cases b1 : l[i] < 1
    · refine Ev.step (f := fun _ => some 2) (fun k => by rw [hun, if_pos b1]) ?_
      have : ((l[i] :: t).any (bad m)) = true := by simp [List.any_cons, bad, b1]
      rw [if_pos this]
      exact Ev.now _
    · by_cases b2 : l[i] ≥ 2 ^ m
      · refine Ev.step (f := fun _ => some 2) (fun k => by rw [hun, if_neg b1, if_pos b2]) ?_
        have : ((l[i] :: t).any (bad m)) = true := by
          have b2' : 2 ^ m ≤ l[i] := b2
          simp [List.any_cons, bad, b2']
        rw [if_pos this]
        exact Ev.now _
      · refine Ev.step (fun k => by rw [hun, if_neg b1, if_neg b2]) ?_
        have : ((l[i] :: t).any (bad m)) = (t.any (bad m)) := by
          have b2' : ¬ 2 ^ m ≤ l[i] := b2
          simp [List.any_cons, bad, b1, b2']
        rw [this]
        exact ih'
theorem Field_ev (m : Int) (l : List Int) : Ev (fun k => drovewayref04_Field.f k m l) (okF m l) := by
  by_cases h1 : m < 1 ∨ 9 < m
  · have : okF m l = 2 := by unfold okF; rw [if_pos h1]
    rw [this]
    refine Ev.congr (f := fun k => drovewayref04_Field.j0 k m l true) (fun k => ?_) (Ev.step (f := fun _ => some 2) (fun k => ?_) (Ev.now _))
    · unfold drovewayref04_Field.f
      by_cases h : m < 1
      · rw [if_pos h]
      · rw [if_neg h]
        have : m > 9 := by omega
        simp [this]
    · rw [drovewayref04_Field.j0, if_pos rfl]
  · have hc : Ev (fun k => drovewayref04_Field.j0 k m l false) (okF m l) := by
      by_cases h12 : 12 < l.length
      · have : okF m l = 3 := by unfold okF; rw [if_neg h1, if_pos h12]
        rw [this]
        refine Ev.step (f := fun _ => some 3) (fun k => ?_) (Ev.now _)
        rw [drovewayref04_Field.j0, if_neg (by decide), if_pos (by omega)]
      · obtain ⟨n, rfl⟩ : ∃ n : Nat, m = n := ⟨m.toNat, by omega⟩
        have hb := Field_l0 (m := n) (by omega) (by omega) l (by omega) _ 0 rfl (by omega)
        have : okF (n : Int) l = if ((l.drop 0).any (bad n)) = true then 2 else 0 := by unfold okF; rw [if_neg h1, if_neg h12]; rfl
        rw [this]
        refine Ev.step (fun k => ?_) hb
        rw [drovewayref04_Field.j0, if_neg (by decide), if_neg (by omega)]
        rfl
    refine Ev.congr (fun k => ?_) hc
    unfold drovewayref04_Field.f
    rw [if_neg (by omega)]
    have : ¬ m > 9 := by omega
    simp [this]
theorem Placed_l0 {m : Nat} (h9 : m ≤ 9) (s : ByteArray) (hs : s.size = m) : ∀ n i (x y : Int), m - i = n → i ≤ m →
    ∃ r, Ev (fun k => drovewayref04_Placed.l0 k m s x y (i : Int)) r ∧ ((r.2.2 = 0 ∧ ∀ j, i ≤ j → j < m → okC (bt s j) = true) ∨ (r.2.2 = 5 ∧ ∃ j, i ≤ j ∧ j < m ∧ okC (bt s j) ≠ true)) := by
  intro n
  induction n with
  | zero =>
    intro i x y hn hi
    refine ⟨_, Ev.step (f := fun _ => some (x, y, 0)) (fun k => ?_) (Ev.now _), ?_⟩
    · rw [drovewayref04_Placed.l0, if_neg (by omega)]
    · exact .inl ⟨rfl, fun j h1 h2 => by omega⟩
  | succ n ih =>
    intro i x y hn hi
    have ew : wrap64 ((i : Int) + 1) = ((i + 1 : Nat) : Int) := by rw [wrap64_id] <;> omega
    have hsucc : ∀ e : Int, okC (bt s i) = true → ((e = 0 ∧ ∀ j, i + 1 ≤ j → j < m → okC (bt s j) = true) ∨ (e = 5 ∧ ∃ j, i + 1 ≤ j ∧ j < m ∧ okC (bt s j) ≠ true)) →
        ((e = 0 ∧ ∀ j, i ≤ j → j < m → okC (bt s j) = true) ∨ (e = 5 ∧ ∃ j, i ≤ j ∧ j < m ∧ okC (bt s j) ≠ true)) := by
      intro e ho h
      rcases h with ⟨h0, h⟩ | ⟨h0, j, h1, h2, h3⟩
      · refine .inl ⟨h0, fun j h1 h2 => ?_⟩
        by_cases e : i = j
        · subst e; exact ho
        · exact h j (by omega) h2
      · exact .inr ⟨h0, j, by omega, h2, h3⟩
    by_cases e1 : bt s i = 119
    · obtain ⟨r, hr, hr2⟩ := ih (i + 1) (wrap64 (x + (shl .i64 1 (i : Int)))) y (by omega) (by omega)
      refine ⟨r, Ev.step (fun k => ?_) hr, ?_⟩
      · rw [drovewayref04_Placed.l0, if_pos (by omega), if_pos (by omega), if_pos (by omega), if_pos e1, ew]
      · exact hsucc _ (by rw [e1]; rfl) hr2
    · by_cases e2 : bt s i = 100
      · obtain ⟨r, hr, hr2⟩ := ih (i + 1) x (wrap64 (y + (shl .i64 1 (i : Int)))) (by omega) (by omega)
        refine ⟨r, Ev.step (fun k => ?_) hr, ?_⟩
        · rw [drovewayref04_Placed.l0, if_pos (by omega), if_pos (by omega), if_pos (by omega), if_neg e1, if_pos e2, ew]
        · exact hsucc _ (by rw [e2]; rfl) hr2
      · by_cases e3 : bt s i = 46
        · obtain ⟨r, hr, hr2⟩ := ih (i + 1) x y (by omega) (by omega)
          refine ⟨r, Ev.step (fun k => ?_) hr, ?_⟩
          · rw [drovewayref04_Placed.l0, if_pos (by omega), if_pos (by omega), if_pos (by omega), if_neg e1, if_neg e2, if_pos e3, ew]
          · exact hsucc _ (by rw [e3]; rfl) hr2
        · refine ⟨_, Ev.step (f := fun _ => some (0, 0, 5)) (fun k => ?_) (Ev.now _), ?_⟩
          · rw [drovewayref04_Placed.l0, if_pos (by omega), if_pos (by omega), if_pos (by omega), if_neg e1, if_neg e2, if_neg e3]
          · exact .inr ⟨rfl, i, Nat.le_refl _, by omega, by simp [okC, e1, e2, e3]⟩
theorem Placed_ev (m : Int) (l : List Int) (s : ByteArray) : ∃ r, Ev (fun k => drovewayref04_Placed.f k m l s) r ∧ r.2.2 = okP m l s := by
  by_cases h0 : okF m l = 0
  · by_cases hs : (s.size : Int) = m
    · obtain ⟨h1, h9⟩ := okF_m h0
      obtain ⟨r, hr, hr2⟩ := Placed_l0 (m := s.size) (by omega) s rfl _ 0 0 0 rfl (by omega)
      refine ⟨r, Ev.bind (Field_ev m l) ?_, ?_⟩
      · rw [h0]
        refine Ev.congr (fun k => ?_) hr
        show (if (0 : Int) = 0 then _ else _) = _
        rw [if_pos rfl, if_pos hs, hs]
        rfl
      · unfold okP
        rw [if_neg (by simpa using h0), if_neg (by simpa using hs)]
        rcases hr2 with ⟨h, ha⟩ | ⟨h, j, _, hj, hb⟩
        · rw [h, if_pos (List.all_eq_true.2 fun j hj => ha j (Nat.zero_le _) (List.mem_range.1 hj))]
        · rw [h, if_neg]
          intro hall
          exact hb (List.all_eq_true.1 hall j (List.mem_range.2 hj))
    · refine ⟨(0, 0, 5), Ev.bind (Field_ev m l) ?_, ?_⟩
      · rw [h0]
        refine Ev.congr (f := fun _ => some (0, 0, 5)) (fun k => ?_) (Ev.now _)
        show (if (0 : Int) = 0 then _ else _) = _
        rw [if_pos rfl, if_neg hs]
      · unfold okP
        rw [if_neg (by simpa using h0), if_pos hs]
  · refine ⟨(0, 0, okF m l), Ev.bind (Field_ev m l) ?_, ?_⟩
    · refine Ev.congr (f := fun _ => some (0, 0, okF m l)) (fun k => ?_) (Ev.now _)
      show (if okF m l = 0 then _ else _) = _
      rw [if_neg h0]
    · unfold okP
      rw [if_pos h0]

theorem free_l0 (s : ByteArray) (hs : s.size ≤ 140737488351232) : ∀ n i, s.size - i = n → i ≤ s.size →
    Ev (fun k => drovewaylaw04_free.l0 k s (freeC s i) (i : Int)) (freeC s s.size : Int) := by
  intro n
  induction n with
  | zero =>
    intro i hn hi
    have e : i = s.size := by omega
    subst e
    refine Ev.step (f := fun _ => some _) (fun k => ?_) (Ev.now _)
    rw [drovewaylaw04_free.l0, if_neg (by omega)]
  | succ n ih =>
    intro i hn hi
    have hl := freeC_le s i
    have ew : wrap64 ((i : Int) + 1) = ((i + 1 : Nat) : Int) := by rw [wrap64_id] <;> omega
    have ih' := ih (i + 1) (by omega) (by omega)
    by_cases e1 : bt s i = 46
    · have : freeC s (i + 1) = freeC s i + 1 := by rw [freeC, if_pos e1]
      have ew2 : wrap64 ((freeC s i : Int) + 1) = ((freeC s i + 1 : Nat) : Int) := by rw [wrap64_id] <;> omega
      rw [this] at ih'
      refine Ev.step (fun k => ?_) ih'
      rw [drovewaylaw04_free.l0, if_pos (by omega), if_pos (by omega), if_pos e1, ew, ew2]
    · have : freeC s (i + 1) = freeC s i := by rw [freeC, if_neg e1]
      rw [this] at ih'
      refine Ev.step (fun k => ?_) ih'
      rw [drovewaylaw04_free.l0, if_pos (by omega), if_pos (by omega), if_neg e1, ew]
theorem free_ev (s : ByteArray) (hs : s.size ≤ 140737488351232) : Ev (fun k => drovewaylaw04_free.f k s) (freeC s s.size : Int) := free_l0 s hs _ 0 rfl (Nat.zero_le _)

end Go.Proofs.Ytbjpjjokamaliaa.PAmbushMore
