/- What the law package's own functions and the reference's small ones compute (plain). -/
import Derived.Test.YtbjpjjokamaliaaPAmbushDangersx
import Derived.Test.YtbjpjjokamaliaaD2
import Derived.KernelRfl
namespace Go.Proofs.Ytbjpjjokamaliaa.PAmbushDangers
open Go.Proofs.Ytbjpjjokamaliaa.A
open Go.RowKit Go.Proofs.YtbjpjjokamaliaaW.PrintWords Go.Proofs.YtbjpjjokamaliaaW.PrintLast

theorem alive_ev : Ev (fun k => drovewaylaw04_alive.f k) true := Ev.of drovewaylaw04_alive.mono (k := 3) (by kernel_rfl)
theorem few_eq (l : List Int) (s t : ByteArray) : drovewaylaw04_few.f l s t = some (decide ((l.length : Int) ≤ 40 ∧ (s.size : Int) ≤ 40 ∧ (t.size : Int) ≤ 40)) := by
  unfold drovewaylaw04_few.f
  by_cases h1 : (l.length : Int) ≤ 40
  · by_cases h2 : (s.size : Int) ≤ 40
    · rw [if_pos h1, if_pos h2]; simp [h1, h2]
    · rw [if_pos h1, if_neg h2]; simp [h2]
  · rw [if_neg h1]; simp [h1]
theorem shl_two {m : Nat} (h1 : 1 ≤ m) (h9 : m ≤ 9) : shl .i64 1 (m : Int) = 2 ^ m := by
  have : ∀ m : Nat, m < 10 → shl .i64 1 (m : Int) = (2 : Int) ^ m := by decide +kernel
  exact this m (by omega)
def bad (m : Nat) (x : Int) : Bool := decide (x < 1) || decide (2 ^ m ≤ x)
theorem Field_l0 {m : Nat} (h1 : 1 ≤ m) (h9 : m ≤ 9) (l : List Int) (h12 : l.length ≤ 12) : ∀ n i, l.length - i = n → i ≤ l.length →
    Ev (fun k => drovewayref04_Field.l0 k m l (i : Int)) (if ((l.drop i).any (bad m)) = true then 2 else 0) := by
  intro n
  induction n with
  | zero =>
    intro i hn hi
    have e : l.drop i = [] := List.drop_eq_nil_of_le (by omega)
    rw [e]
    refine Ev.step (f := fun _ => some 0) (fun k => ?_) (Ev.now _)
    rw [drovewayref04_Field.l0, if_neg (by omega)]
  | succ n ih =>
    intro i hn hi
    have hlt : i < l.length := by omega
    have ed : l.drop i = l[i] :: l.drop (i + 1) := List.drop_eq_getElem_cons hlt
    have er : rd l (i : Int) = l[i] := by simp [rd, List.getD_eq_getElem?_getD, hlt]
    have ew : wrap64 ((i : Int) + 1) = ((i + 1 : Nat) : Int) := by rw [wrap64_id] <;> omega
    rw [ed]
    have ih' := ih (i + 1) (by omega) (by omega)
    clear ed ih
    generalize l.drop (i + 1) = t at *
    have hun : ∀ k, drovewayref04_Field.l0 (k + 1) m l (i : Int) = if l[i] < 1 then some 2 else if l[i] ≥ 2 ^ m then some 2 else drovewayref04_Field.l0 k m l ((i + 1 : Nat) : Int) := by
      intro k
      rw [drovewayref04_Field.l0, if_pos (by omega), if_pos (by omega), er, shl_two h1 h9, ew, if_pos (show (0 : Int) ≤ m by omega)]
    by_cases b1 : l[i] < 1
    · refine Ev.step (f := fun _ => some 2) (fun k => by rw [hun, if_pos b1]) ?_
      have : ((l[i] :: t).any (bad m)) = true := by simp [List.any_cons, bad, b1]
      rw [if_pos this]
      exact Ev.now _
    · by_cases b2 : l[i] ≥ 2 ^ m
      · refine Ev.step (f := fun _ => some 2) (fun k => by rw [hun, if_neg b1, if_pos b2]) ?_
        have : ((l[i] :: t).any (bad m)) = true := by
          have b2' : 2 ^ m ≤ l[i] := b2
          simp [List.any_cons, bad, b2']
        rw [if_pos this]
        exact Ev.now _
      · refine Ev.step (fun k => by rw [hun, if_neg b1, if_neg b2]) ?_
        have : ((l[i] :: t).any (bad m)) = (t.any (bad m)) := by
          have b2' : ¬ 2 ^ m ≤ l[i] := b2
          simp [List.any_cons, bad, b1, b2']
        rw [this]
        exact ih'
theorem Field_ev (m : Int) (l : List Int) : Ev (fun k => drovewayref04_Field.f k m l) (okF m l) := by
  by_cases h1 : m < 1 ∨ 9 < m
  · have : okF m l = 2 := by unfold okF; rw [if_pos h1]
    rw [this]
    refine Ev.congr (f := fun k => drovewayref04_Field.j0 k m l true) (fun k => ?_) (Ev.step (f := fun _ => some 2) (fun k => ?_) (Ev.now _))
    · unfold drovewayref04_Field.f
      by_cases h : m < 1
      · rw [if_pos h]
      · rw [if_neg h]
        have : m > 9 := by omega
        simp [this]
    · rw [drovewayref04_Field.j0, if_pos rfl]
  · have hc : Ev (fun k => drovewayref04_Field.j0 k m l false) (okF m l) := by
      by_cases h12 : 12 < l.length
      · have : okF m l = 3 := by unfold okF; rw [if_neg h1, if_pos h12]
        rw [this]
        refine Ev.step (f := fun _ => some 3) (fun k => ?_) (Ev.now _)
        rw [drovewayref04_Field.j0, if_neg (by decide), if_pos (by omega)]
      · obtain ⟨n, rfl⟩ : ∃ n : Nat, m = n := ⟨m.toNat, by omega⟩
        have hb := Field_l0 (m := n) (by omega) (by omega) l (by omega) _ 0 rfl (by omega)
        have : okF (n : Int) l = if ((l.drop 0).any (bad n)) = true then 2 else 0 := by unfold okF; rw [if_neg h1, if_neg h12]; rfl
        rw [this]
        refine Ev.step (fun k => ?_) hb
        rw [drovewayref04_Field.j0, if_neg (by decide), if_neg (by omega)]
        rfl
    refine Ev.congr (fun k => ?_) hc
    unfold drovewayref04_Field.f
    rw [if_neg (by omega)]
    have : ¬ m > 9 := by omega
    simp [this]
theorem Placed_l0 {m : Nat} (h9 : m ≤ 9) (s : ByteArray) (hs : s.size = m) : ∀ n i (x y : Int), m - i = n → i ≤ m →
    ∃ r, Ev (fun k => drovewayref04_Placed.l0 k m s x y (i : Int)) r ∧ ((r.2.2 = 0 ∧ ∀ j, i ≤ j → j < m → okC (bt s j) = true) ∨ (r.2.2 = 5 ∧ ∃ j, i ≤ j ∧ j < m ∧ okC (bt s j) ≠ true)) := by
  intro n
  induction n with
  | zero =>
    intro i x y hn hi
    refine ⟨_, Ev.step (f := fun _ => some (x, y, 0)) (fun k => ?_) (Ev.now _), ?_⟩
    · rw [drovewayref04_Placed.l0, if_neg (by omega)]
    · exact .inl ⟨rfl, fun j h1 h2 => by omega⟩
  | succ n ih =>
    intro i x y hn hi
    have ew : wrap64 ((i : Int) + 1) = ((i + 1 : Nat) : Int) := by rw [wrap64_id] <;> omega
    have hsucc : ∀ e : Int, okC (bt s i) = true → ((e = 0 ∧ ∀ j, i + 1 ≤ j → j < m → okC (bt s j) = true) ∨ (e = 5 ∧ ∃ j, i + 1 ≤ j ∧ j < m ∧ okC (bt s j) ≠ true)) →
        ((e = 0 ∧ ∀ j, i ≤ j → j < m → okC (bt s j) = true) ∨ (e = 5 ∧ ∃ j, i ≤ j ∧ j < m ∧ okC (bt s j) ≠ true)) := by
      intro e ho h
      rcases h with ⟨h0, h⟩ | ⟨h0, j, h1, h2, h3⟩
      · refine .inl ⟨h0, fun j h1 h2 => ?_⟩
        by_cases e : i = j
        · subst e; exact ho
        · exact h j (by omega) h2
      · exact .inr ⟨h0, j, by omega, h2, h3⟩
    by_cases e1 : bt s i = 119
    · obtain ⟨r, hr, hr2⟩ := ih (i + 1) (wrap64 (x + (shl .i64 1 (i : Int)))) y (by omega) (by omega)
      refine ⟨r, Ev.step (fun k => ?_) hr, ?_⟩
      · rw [drovewayref04_Placed.l0, if_pos (by omega), if_pos (by omega), if_pos (by omega), if_pos e1, ew]
      · exact hsucc _ (by rw [e1]; rfl) hr2
    · by_cases e2 : bt s i = 100
      · obtain ⟨r, hr, hr2⟩ := ih (i + 1) x (wrap64 (y + (shl .i64 1 (i : Int)))) (by omega) (by omega)
        refine ⟨r, Ev.step (fun k => ?_) hr, ?_⟩
        · rw [drovewayref04_Placed.l0, if_pos (by omega), if_pos (by omega), if_pos (by omega), if_neg e1, if_pos e2, ew]
        · exact hsucc _ (by rw [e2]; rfl) hr2
      · by_cases e3 : bt s i = 46
        · obtain ⟨r, hr, hr2⟩ := ih (i + 1) x y (by omega) (by omega)
          refine ⟨r, Ev.step (fun k => ?_) hr, ?_⟩
          · rw [drovewayref04_Placed.l0, if_pos (by omega), if_pos (by omega), if_pos (by omega), if_neg e1, if_neg e2, if_pos e3, ew]
          · exact hsucc _ (by rw [e3]; rfl) hr2
        · refine ⟨_, Ev.step (f := fun _ => some (0, 0, 5)) (fun k => ?_) (Ev.now _), ?_⟩
          · rw [drovewayref04_Placed.l0, if_pos (by omega), if_pos (by omega), if_pos (by omega), if_neg e1, if_neg e2, if_neg e3]
          · exact .inr ⟨rfl, i, Nat.le_refl _, by omega, by simp [okC, e1, e2, e3]⟩
theorem Placed_ev (m : Int) (l : List Int) (s : ByteArray) : ∃ r, Ev (fun k => drovewayref04_Placed.f k m l s) r ∧ r.2.2 = okP m l s := by
  by_cases h0 : okF m l = 0
  · by_cases hs : (s.size : Int) = m
    · obtain ⟨h1, h9⟩ := okF_m h0
      obtain ⟨r, hr, hr2⟩ := Placed_l0 (m := s.size) (by omega) s rfl _ 0 0 0 rfl (by omega)
      refine ⟨r, Ev.bind (Field_ev m l) ?_, ?_⟩
      · rw [h0]
        refine Ev.congr (fun k => ?_) hr
        show (if (0 : Int) = 0 then _ else _) = _
        rw [if_pos rfl, if_pos hs, hs]
        rfl
      · unfold okP
        rw [if_neg (by simpa using h0), if_neg (by simpa using hs)]
        rcases hr2 with ⟨h, ha⟩ | ⟨h, j, _, hj, hb⟩
        · rw [h, if_pos (List.all_eq_true.2 fun j hj => ha j (Nat.zero_le _) (List.mem_range.1 hj))]
        · rw [h, if_neg]
          intro hall
          exact hb (List.all_eq_true.1 hall j (List.mem_range.2 hj))
    · refine ⟨(0, 0, 5), Ev.bind (Field_ev m l) ?_, ?_⟩
      · rw [h0]
        refine Ev.congr (f := fun _ => some (0, 0, 5)) (fun k => ?_) (Ev.now _)
        show (if (0 : Int) = 0 then _ else _) = _
        rw [if_pos rfl, if_neg hs]
      · unfold okP
        rw [if_neg (by simpa using h0), if_pos hs]
  · refine ⟨(0, 0, okF m l), Ev.bind (Field_ev m l) ?_, ?_⟩
    · refine Ev.congr (f := fun _ => some (0, 0, okF m l)) (fun k => ?_) (Ev.now _)
      show (if okF m l = 0 then _ else _) = _
      rw [if_neg h0]
    · unfold okP
      rw [if_pos h0]
theorem wrap_put {a k : Nat} (ha : a < 2 ^ k) (hk : k ≤ 9) : wrap64 ((a : Int) + shl .i64 1 (k : Int)) = ((a ||| 2 ^ k : Nat) : Int) := by
  have e : a ||| 2 ^ k = a + 2 ^ k := by
    have := Nat.two_pow_add_eq_or_of_lt ha 1
    rw [Nat.mul_one] at this
    rw [Nat.or_comm, ← this, Nat.add_comm]
  have h0 : ∀ m : Nat, m < 10 → shl .i64 1 (m : Int) = (2 : Int) ^ m := by decide +kernel
  have h9 : (2 : Nat) ^ k ≤ 512 := Nat.pow_le_pow_right (n := 2) (show 0 < 2 by decide) hk
  rw [h0 k (by omega), e, Int.natCast_add, Int.natCast_pow, wrap64_id]
  · rfl
  · have := two_pow_pos' k; omega
  · have := two_pow_le (show k ≤ 61 by omega); omega
theorem Placed_x0 {m : Nat} (h9 : m ≤ 9) (s : ByteArray) (hs : s.size = m) (hok : ∀ i, i < m → okC (bt s i) = true) : ∀ n i, m - i = n → i ≤ m →
    Ev (fun k => drovewayref04_Placed.l0 k m s (msk 119 s i) (msk 100 s i) (i : Int)) ((msk 119 s m : Int), (msk 100 s m : Int), 0) := by
  intro n
  induction n with
  | zero =>
    intro i hn hi
    have e : i = m := by omega
    subst e
    refine Ev.step (f := fun _ => some _) (fun k => ?_) (Ev.now _)
    rw [drovewayref04_Placed.l0, if_neg (by omega)]
  | succ n ih =>
    intro i hn hi
    have ew : wrap64 ((i : Int) + 1) = ((i + 1 : Nat) : Int) := by rw [wrap64_id] <;> omega
    have ho := hok i (by omega)
    have ih' := ih (i + 1) (by omega) (by omega)
    rw [msk, msk] at ih'
    by_cases e1 : bt s i = 119
    · rw [if_pos e1, if_neg (by rw [e1]; decide)] at ih'
      refine Ev.step (fun k => ?_) ih'
      rw [drovewayref04_Placed.l0, if_pos (by omega), if_pos (by omega), if_pos (by omega), if_pos e1, ew, wrap_put (msk_lt 119 s i) (by omega)]
    · by_cases e2 : bt s i = 100
      · rw [if_neg e1, if_pos e2] at ih'
        refine Ev.step (fun k => ?_) ih'
        rw [drovewayref04_Placed.l0, if_pos (by omega), if_pos (by omega), if_pos (by omega), if_neg e1, if_pos e2, ew, wrap_put (msk_lt 100 s i) (by omega)]
      · have e3 : bt s i = 46 := by
          simp [okC, e1, e2] at ho
          exact ho
        rw [if_neg e1, if_neg e2] at ih'
        refine Ev.step (fun k => ?_) ih'
        rw [drovewayref04_Placed.l0, if_pos (by omega), if_pos (by omega), if_pos (by omega), if_neg e1, if_neg e2, if_pos e3, ew]
theorem Placed_good (l : List Int) (s : ByteArray) (hP : okP (s.size : Int) l s = 0) : Ev (fun k => drovewayref04_Placed.f k s.size l s) ((msk 119 s s.size : Int), (msk 100 s s.size : Int), 0) := by
  obtain ⟨hF, _, hok⟩ := okP_iff.1 hP
  obtain ⟨h1, h9⟩ := okF_m hF
  have h := Placed_x0 (m := s.size) (by omega) s rfl hok _ 0 rfl (by omega)
  refine Ev.bind (Field_ev s.size l) ?_
  rw [hF]
  refine Ev.congr (fun k => ?_) h
  rw [if_pos rfl, if_pos rfl]
  rfl
/-- How many of the first k spots. -/
def popB (y : Nat) : Nat → Nat
  | 0 => 0
  | k + 1 => popB y k + (if y.testBit k = true then 1 else 0)
theorem popB_le (y : Nat) : ∀ k, popB y k ≤ k
  | 0 => Nat.le_refl _
  | k + 1 => by
    have := popB_le y k
    rw [popB]; split <;> omega
theorem popB_table : (List.range 10).all (fun m => (List.range 512).all fun y => decide (2 ^ m ≤ y) || decide (popB y m = pop 9 y)) = true := by decide +kernel
theorem popB_eq {m y : Nat} (hm : m ≤ 9) (hy : y < 2 ^ m) : popB y m = pop 9 y := by
  have h1 := List.all_eq_true.1 popB_table m (List.mem_range.2 (by omega))
  have h2 : y < 512 := Nat.lt_of_lt_of_le hy (Nat.pow_le_pow_right (show 0 < 2 by decide) hm)
  have h3 := List.all_eq_true.1 h1 y (List.mem_range.2 h2)
  simp at h3
  omega
theorem shr_bit (y k : Nat) (hk : k ≤ 9) : Int.tmod (shr .i64 (y : Int) (k : Int)) 2 = if y.testBit k = true then 1 else 0 := by
  have e : shr .i64 (y : Int) (k : Int) = ((y / 2 ^ k : Nat) : Int) := by
    unfold shr
    have : min ((k : Int)).toNat IntKind.i64.bits = k := by
      have : IntKind.i64.bits = 64 := rfl
      omega
    rw [this]
    simp
  rw [e, Nat.testBit_eq_decide_div_mod_eq]
  have h : Int.tmod ((y / 2 ^ k : Nat) : Int) 2 = ((y / 2 ^ k % 2 : Nat) : Int) := by
    rw [Int.tmod_eq_emod_of_nonneg (Int.natCast_nonneg _)]; rfl
  rw [h]
  by_cases q : y / 2 ^ k % 2 = 1
  · rw [if_pos (by simpa using q), q]; rfl
  · rw [if_neg (by simpa using q)]
    have : y / 2 ^ k % 2 = 0 := by omega
    rw [this]; rfl
set_option linter.unusedVariables false in
theorem danger_l1 {m p d : Nat} (h9 : m ≤ 9) (hp : p < 2 ^ m) (l : List Int) (hl : okL m l) {i : Nat} (hi : i < l.length) (x9 : Int) (R : Int) {z : Nat} (hz : (l[i] : Int) = z) (hzm : z < 2 ^ m)
    (hcont : Ev (fun k => drovewayref04_danger.l0 k m l p d (wrap64 (x9 + 2 ^ (m - pop 9 (less z p)))) (wrap64 ((i : Int) + 1))) R) : ∀ n k0, m - k0 = n → k0 ≤ m →
    Ev (fun k => drovewayref04_danger.l1 k m l p d x9 (i : Int) (popB (less z p) k0) (k0 : Int)) R := by
  intro n
  have hy : less z p < 2 ^ m := less_lt hzm
  have hpe := popB_eq h9 hy
  have ea : bits .andNot .i64 (z : Int) (p : Int) = ((less z p : Nat) : Int) := andNot64 z p (lt62 hzm (by omega)) (lt62 hp (by omega))
  have er : rd l (i : Int) = z := by simp [rd, List.getD_eq_getElem?_getD, hi, hz]
  have HC := Aside0.mk hcont
  clear hcont hy hp hzm hz hl
  generalize hyy : less z p = y at *
  clear hyy
  generalize hcc : pop 9 y = c at *
  clear hcc
  have HPE := Aside0.mk hpe
  have HEA := Aside0.mk ea
  have HER := Aside0.mk er
  clear hpe ea er
  induction n with
  | zero =>
    intro k0 hn hk
    have e : k0 = m := by omega
    subst e
    have hle := popB_le y k0
    have hpe := HPE.out
    have ew : wrap64 ((k0 : Int) - (popB y k0 : Int)) = ((k0 - c : Nat) : Int) := by rw [wrap64_id] <;> omega
    have es : ∀ q : Nat, q < 10 → shl .i64 1 (q : Int) = (2 : Int) ^ q := by decide +kernel
    have es2 := es (k0 - c) (by omega)
    clear es
    refine Ev.step (fun k => ?_) HC.out
    rw [drovewayref04_danger.l1, if_neg (by omega), ew, if_pos (Int.natCast_nonneg _), es2]
  | succ n ih =>
    intro k0 hn hk
    have ew : wrap64 ((k0 : Int) + 1) = ((k0 + 1 : Nat) : Int) := by rw [wrap64_id] <;> omega
    have ih' := Aside0.mk (ih (k0 + 1) (by omega) (by omega))
    clear ih
    have hle := popB_le y k0
    have eb : wrap64 ((popB y k0 : Int) + (if y.testBit k0 = true then 1 else 0)) = (popB y (k0 + 1) : Int) := by
      rw [popB]
      by_cases q : y.testBit k0 = true
      · rw [if_pos q, if_pos q, wrap64_id] <;> omega
      · rw [if_neg q, if_neg q, wrap64_id] <;> omega
    have g1 : (k0 : Int) < (m : Int) := by omega
    have g2 : (0 : Int) ≤ (i : Int) := by omega
    have g3 : (i : Int) < (l.length : Int) := by omega
    have g4 : (0 : Int) ≤ (k0 : Int) := by omega
    have es := shr_bit y k0 (by omega)
    refine Ev.step (fun k => ?_) ih'.out
    rw [drovewayref04_danger.l1, if_pos g1, if_pos g2, if_pos g3, if_pos g4, HER.out, HEA.out, es, eb, ew]
theorem danger_l0 {m p d : Nat} (h9 : m ≤ 9) (hp : p < 2 ^ m) (hd : d < 2 ^ m) (l : List Int) (hl : okL m l) (h12 : l.length ≤ 12) : ∀ n i, l.length - i = n → i ≤ l.length →
    Ev (fun k => drovewayref04_danger.l0 k m l p d (dangL m p d (l.take i)) (i : Int)) (dangL m p d l) := by
  intro n
  induction n with
  | zero =>
    intro i hn hi
    have e : i = l.length := by omega
    subst e
    rw [List.take_length]
    refine Ev.step (f := fun _ => some _) (fun k => ?_) (Ev.now _)
    rw [drovewayref04_danger.l0, if_neg (by omega)]
  | succ n ih =>
    intro i hn hi
    have hlt : i < l.length := by omega
    have ih' := ih (i + 1) (by omega) (by omega)
    clear ih
    have ew : wrap64 ((i : Int) + 1) = ((i + 1 : Nat) : Int) := by rw [wrap64_id] <;> omega
    have g1 : (i : Int) < (l.length : Int) := by omega
    have g2 : (0 : Int) ≤ (i : Int) := by omega
    have h62 : m ≤ 62 := by omega
    obtain ⟨z, hz, hzm⟩ : ∃ z : Nat, l[i] = (z : Int) ∧ z < 2 ^ m := by
      have hx := hl l[i] (List.getElem_mem hlt)
      have hpw : ((2 ^ m : Nat) : Int) = 2 ^ m := Int.natCast_pow 2 m
      exact ⟨l[i].toNat, by omega, by omega⟩
    have er := Aside0.mk (show rd l (i : Int) = z by simp [rd, List.getD_eq_getElem?_getD, hlt, hz])
    have eg : l.getD i 0 = z := by simp [List.getD_eq_getElem?_getD, hlt, hz]
    rw [take_snoc' hlt, dangL_snoc, eg] at ih'
    clear eg
    have hb1 : 0 ≤ dangL m p d (l.take i) ∧ dangL m p d (l.take i) ≤ 6144 := by
      have h := dangL_bd (p := p) (d := d) h9 (l.take i)
      have htl : ((l.take i).length : Int) ≤ 12 := by rw [List.length_take]; omega
      exact ⟨h.1, by have := h.2; generalize dangL m p d (l.take i) = q at this ⊢; omega⟩
    have hb2 := dang1_bd (p := p) (d := d) h9 (z : Int)
    have ea := Aside0.mk (show bits .and .i64 (rd l (i : Int)) (d : Int) = ((z &&& d : Nat) : Int) by rw [er.out]; exact and64 z d (lt62 hzm h62) (lt62 hd h62))
    generalize hA : dangL m p d (l.take i) = A at *
    clear hA
    by_cases h0 : z &&& d = 0
    · have e1 : dang1 m p d (z : Int) = 2 ^ (m - pop 9 (less z p)) := by
        unfold dang1
        simp only [Int.toNat_natCast]
        rw [if_pos h0]
      rw [e1] at hb2 ih'
      clear e1
      have ew2 : wrap64 (A + 2 ^ (m - pop 9 (less z p))) = A + 2 ^ (m - pop 9 (less z p)) := by
        generalize (2 : Int) ^ (m - pop 9 (less z p)) = q at hb2 ⊢
        rw [wrap64_id] <;> omega
      have hc := danger_l1 (d := d) h9 hp l hl hlt A _ hz hzm (by rw [ew, ew2]; exact ih') _ 0 rfl (Nat.zero_le _)
      have g3 : ((z &&& d : Nat) : Int) = 0 := by rw [h0]; rfl
      refine Ev.step (fun k => ?_) hc
      rw [drovewayref04_danger.l0, if_pos g1, if_pos g2, ea.out, if_pos g3]
      rfl
    · have e1 : dang1 m p d (z : Int) = 0 := by
        unfold dang1
        simp only [Int.toNat_natCast]
        rw [if_neg h0]
      rw [e1, Int.add_zero] at ih'
      have g3 : ¬ ((z &&& d : Nat) : Int) = 0 := fun h => h0 (Int.ofNat.inj h)
      refine Ev.step (fun k => ?_) ih'
      rw [drovewayref04_danger.l0, if_pos g1, if_pos g2, ea.out, if_neg g3, ew]
theorem danger_ev {m p d : Nat} (h9 : m ≤ 9) (hp : p < 2 ^ m) (hd : d < 2 ^ m) (l : List Int) (hl : okL m l) (h12 : l.length ≤ 12) : Ev (fun k => drovewayref04_danger.f k m l p d) (dangL m p d l) :=
  danger_l0 h9 hp hd l hl h12 _ 0 rfl (Nat.zero_le _)
end Go.Proofs.Ytbjpjjokamaliaa.PAmbushDangers
