/- What the law package's own functions and the reference's small ones compute (plain). -/
import Derived.Test.YtbjpjjokamaliaaPAmbushBeginsx
import Derived.Test.YtbjpjjokamaliaaD2
import Derived.KernelRfl
namespace Go.Proofs.Ytbjpjjokamaliaa.PAmbushBegins
open Go.Proofs.Ytbjpjjokamaliaa.A
open Go.RowKit Go.Proofs.YtbjpjjokamaliaaW.PrintWords Go.Proofs.YtbjpjjokamaliaaW.PrintLast

theorem alive_ev : Ev (fun k => drovewaylaw04_alive.f k) true := Ev.of drovewaylaw04_alive.mono (k := 3) (by kernel_rfl)
theorem few_eq (l : List Int) (s t : ByteArray) : drovewaylaw04_few.f l s t = some (decide ((l.length : Int) ≤ 40 ∧ (s.size : Int) ≤ 40 ∧ (t.size : Int) ≤ 40)) := by
  unfold drovewaylaw04_few.f
  by_cases h1 : (l.length : Int) ≤ 40
  · by_cases h2 : (s.size : Int) ≤ 40
    · rw [if_pos h1, if_pos h2]; simp [h1, h2]
    · rw [if_pos h1, if_neg h2]; simp [h2]
  · rw [if_neg h1]; simp [h1]
theorem shl_two {m : Nat} (h1 : 1 ≤ m) (h9 : m ≤ 9) : shl .i64 1 (m : Int) = 2 ^ m := by
  have : ∀ m : Nat, m < 10 → shl .i64 1 (m : Int) = (2 : Int) ^ m := by decide +kernel
  exact this m (by omega)
def bad (m : Nat) (x : Int) : Bool := decide (x < 1) || decide (2 ^ m ≤ x)
theorem Field_l0 {m : Nat} (h1 : 1 ≤ m) (h9 : m ≤ 9) (l : List Int) (h12 : l.length ≤ 12) : ∀ n i, l.length - i = n → i ≤ l.length →
    Ev (fun k => drovewayref04_Field.l0 k m l (i : Int)) (if ((l.drop i).any (bad m)) = true then 2 else 0) := by
  intro n
  induction n with
  | zero =>
    intro i hn hi
    have e : l.drop i = [] := List.drop_eq_nil_of_le (by omega)
    rw [e]
    refine Ev.step (f := fun _ => some 0) (fun k => ?_) (Ev.now _)
    rw [drovewayref04_Field.l0, if_neg (by omega)]
  | succ n ih =>
    intro i hn hi
    have hlt : i < l.length := by omega
    have ed : l.drop i = l[i] :: l.drop (i + 1) := List.drop_eq_getElem_cons hlt
    have er : rd l (i : Int) = l[i] := by simp [rd, List.getD_eq_getElem?_getD, hlt]
    have ew : wrap64 ((i : Int) + 1) = ((i + 1 : Nat) : Int) := by rw [wrap64_id] <;> omega
    rw [ed]
    have ih' := ih (i + 1) (by omega) (by omega)
    clear ed ih
    generalize l.drop (i + 1) = t at *
    have hun : ∀ k, drovewayref04_Field.l0 (k + 1) m l (i : Int) = if l[i] < 1 then some 2 else if l[i] ≥ 2 ^ m then some 2 else drovewayref04_Field.l0 k m l ((i + 1 : Nat) : Int) := by
      intro k
      rw [drovewayref04_Field.l0, if_pos (by omega), if_pos (by omega), er, shl_two h1 h9, ew, if_pos (show (0 : Int) ≤ m by omega)]
    by_cases b1 : l[i] < 1
    · refine Ev.step (f := fun _ => some 2) (fun k => by rw [hun, if_pos b1]) ?_
      have : ((l[i] :: t).any (bad m)) = true := by simp [List.any_cons, bad, b1]
      rw [if_pos this]
      exact Ev.now _
    · by_cases b2 : l[i] ≥ 2 ^ m
      · refine Ev.step (f := fun _ => some 2) (fun k => by rw [hun, if_neg b1, if_pos b2]) ?_
        have : ((l[i] :: t).any (bad m)) = true := by
          have b2' : 2 ^ m ≤ l[i] := b2
          simp [List.any_cons, bad, b2']
        rw [if_pos this]
        exact Ev.now _
      · refine Ev.step (fun k => by rw [hun, if_neg b1, if_neg b2]) ?_
        have : ((l[i] :: t).any (bad m)) = (t.any (bad m)) := by
          have b2' : ¬ 2 ^ m ≤ l[i] := b2
          simp [List.any_cons, bad, b1, b2']
        rw [this]
        exact ih'
theorem Field_ev (m : Int) (l : List Int) : Ev (fun k => drovewayref04_Field.f k m l) (okF m l) := by
  by_cases h1 : m < 1 ∨ 9 < m
  · have : okF m l = 2 := by unfold okF; rw [if_pos h1]
    rw [this]
    refine Ev.congr (f := fun k => drovewayref04_Field.j0 k m l true) (fun k => ?_) (Ev.step (f := fun _ => some 2) (fun k => ?_) (Ev.now _))
    · unfold drovewayref04_Field.f
      by_cases h : m < 1
      · rw [if_pos h]
      · rw [if_neg h]
        have : m > 9 := by omega
        simp [this]
    · rw [drovewayref04_Field.j0, if_pos rfl]
  · have hc : Ev (fun k => drovewayref04_Field.j0 k m l false) (okF m l) := by
      by_cases h12 : 12 < l.length
      · have : okF m l = 3 := by unfold okF; rw [if_neg h1, if_pos h12]
        rw [this]
        refine Ev.step (f := fun _ => some 3) (fun k => ?_) (Ev.now _)
        rw [drovewayref04_Field.j0, if_neg (by decide), if_pos (by omega)]
      · obtain ⟨n, rfl⟩ : ∃ n : Nat, m = n := ⟨m.toNat, by omega⟩
        have hb := Field_l0 (m := n) (by omega) (by omega) l (by omega) _ 0 rfl (by omega)
        have : okF (n : Int) l = if ((l.drop 0).any (bad n)) = true then 2 else 0 := by unfold okF; rw [if_neg h1, if_neg h12]; rfl
        rw [this]
        refine Ev.step (fun k => ?_) hb
        rw [drovewayref04_Field.j0, if_neg (by decide), if_neg (by omega)]
        rfl
    refine Ev.congr (fun k => ?_) hc
    unfold drovewayref04_Field.f
    rw [if_neg (by omega)]
    have : ¬ m > 9 := by omega
    simp [this]
theorem free_l0 (s : ByteArray) (hs : s.size ≤ 140737488351232) : ∀ n i, s.size - i = n → i ≤ s.size →
    Ev (fun k => drovewaylaw04_free.l0 k s (freeC s i) (i : Int)) (freeC s s.size : Int) := by
  intro n
  induction n with
  | zero =>
    intro i hn hi
    have e : i = s.size := by omega
    subst e
    refine Ev.step (f := fun _ => some _) (fun k => ?_) (Ev.now _)
    rw [drovewaylaw04_free.l0, if_neg (by omega)]
  | succ n ih =>
    intro i hn hi
    have hl := freeC_le s i
    have ew : wrap64 ((i : Int) + 1) = ((i + 1 : Nat) : Int) := by rw [wrap64_id] <;> omega
    have ih' := ih (i + 1) (by omega) (by omega)
    by_cases e1 : bt s i = 46
    · have : freeC s (i + 1) = freeC s i + 1 := by rw [freeC, if_pos e1]
      have ew2 : wrap64 ((freeC s i : Int) + 1) = ((freeC s i + 1 : Nat) : Int) := by rw [wrap64_id] <;> omega
      rw [this] at ih'
      refine Ev.step (fun k => ?_) ih'
      rw [drovewaylaw04_free.l0, if_pos (by omega), if_pos (by omega), if_pos e1, ew, ew2]
    · have : freeC s (i + 1) = freeC s i := by rw [freeC, if_neg e1]
      rw [this] at ih'
      refine Ev.step (fun k => ?_) ih'
      rw [drovewaylaw04_free.l0, if_pos (by omega), if_pos (by omega), if_neg e1, ew]
theorem free_ev (s : ByteArray) (hs : s.size ≤ 140737488351232) : Ev (fun k => drovewaylaw04_free.f k s) (freeC s s.size : Int) := free_l0 s hs _ 0 rfl (Nat.zero_le _)
/-- How many of the first k spots. -/
def popB (y : Nat) : Nat → Nat
  | 0 => 0
  | k + 1 => popB y k + (if y.testBit k = true then 1 else 0)
theorem popB_le (y : Nat) : ∀ k, popB y k ≤ k
  | 0 => Nat.le_refl _
  | k + 1 => by
    have := popB_le y k
    rw [popB]; split <;> omega
theorem popB_table : (List.range 10).all (fun m => (List.range 512).all fun y => decide (2 ^ m ≤ y) || decide (popB y m = pop 9 y)) = true := by decide +kernel
theorem popB_eq {m y : Nat} (hm : m ≤ 9) (hy : y < 2 ^ m) : popB y m = pop 9 y := by
  have h1 := List.all_eq_true.1 popB_table m (List.mem_range.2 (by omega))
  have h2 : y < 512 := Nat.lt_of_lt_of_le hy (Nat.pow_le_pow_right (show 0 < 2 by decide) hm)
  have h3 := List.all_eq_true.1 h1 y (List.mem_range.2 h2)
  simp at h3
  omega
theorem shr_bit (y k : Nat) (hk : k ≤ 9) : Int.tmod (shr .i64 (y : Int) (k : Int)) 2 = if y.testBit k = true then 1 else 0 := by
  have e : shr .i64 (y : Int) (k : Int) = ((y / 2 ^ k : Nat) : Int) := by
    unfold shr
    have : min ((k : Int)).toNat IntKind.i64.bits = k := by
      have : IntKind.i64.bits = 64 := rfl
      omega
    rw [this]
    simp
  rw [e, Nat.testBit_eq_decide_div_mod_eq]
  have h : Int.tmod ((y / 2 ^ k : Nat) : Int) 2 = ((y / 2 ^ k % 2 : Nat) : Int) := by
    rw [Int.tmod_eq_emod_of_nonneg (Int.natCast_nonneg _)]; rfl
  rw [h]
  by_cases q : y / 2 ^ k % 2 = 1
  · rw [if_pos (by simpa using q), q]; rfl
  · rw [if_neg (by simpa using q)]
    have : y / 2 ^ k % 2 = 0 := by omega
    rw [this]; rfl
/-- The letter of a spot. -/
def letAt (w d j : Nat) : Int := if w.testBit j = true then 119 else if d.testBit j = true then 100 else 46
theorem Written_l0 {m w d : Nat} (h9 : m ≤ 9) : ∀ n i (xs : List Int), m - i = n → i ≤ m → xs.length = m → (∀ j, j < i → xs.getD j 0 = letAt w d j) →
    ∃ ys : List Int, ys.length = m ∧ (∀ j, j < m → ys.getD j 0 = letAt w d j) ∧ Ev (fun k => drovewayref04_Written.l0 k m w d xs (i : Int)) (strOfNums ys) := by
  intro n
  induction n with
  | zero =>
    intro i xs hn hi hlen hx
    have e : i = m := by omega
    subst e
    refine ⟨xs, hlen, hx, Ev.step (f := fun _ => some (strOfNums xs)) (fun k => ?_) (Ev.now _)⟩
    rw [drovewayref04_Written.l0, if_neg (by omega)]
  | succ n ih =>
    intro i xs hn hi hlen hx
    have ew : wrap64 ((i : Int) + 1) = ((i + 1 : Nat) : Int) := by rw [wrap64_id] <;> omega
    have g1 : (i : Int) < (m : Int) := by omega
    have g2 : (0 : Int) ≤ (i : Int) := by omega
    have g3 : (i : Int) < (xs.length : Int) := by omega
    have e1 := shr_bit w i (by omega)
    have e2 := shr_bit d i (by omega)
    have hset : ∀ (c : Int), letAt w d i = c → ∀ zs : List Int, zs.length = m → (∀ j, j < i → zs.getD j 0 = xs.getD j 0) → zs.getD i 0 = c → ∀ j, j < i + 1 → zs.getD j 0 = letAt w d j := by
      intro c hc zs hz hb he j hj
      by_cases q : j = i
      · subst q; rw [he, hc]
      · rw [hb j (by omega), hx j (by omega)]
    have hg : ∀ (zs : List Int) (c : Int) (j : Nat), j < i → (zs.set i c).getD j 0 = zs.getD j 0 := by
      intro zs c j hj
      simp [List.getD_eq_getElem?_getD, List.getElem?_set_ne (show i ≠ j by omega)]
    have hh : ∀ (zs : List Int) (c : Int), zs.length = m → (zs.set i c).getD i 0 = c := by
      intro zs c hz
      simp [List.getD_eq_getElem?_getD, show i < zs.length by omega]
    by_cases b1 : w.testBit i = true
    · rw [if_pos b1] at e1
      obtain ⟨ys, hy, hc, he⟩ := ih (i + 1) ((xs.set i 46).set i 119) (by omega) (by omega) (by simp [hlen]) (hset 119 (by rw [letAt, if_pos b1]) _ (by simp [hlen]) (fun j hj => by rw [hg _ _ j hj, hg _ _ j hj]) (hh _ _ (by simp [hlen])))
      refine ⟨ys, hy, hc, Ev.step (fun k => ?_) he⟩
      rw [drovewayref04_Written.l0, if_pos g1, if_pos g2, if_pos g3]
      simp only [Option.bind_some, Int.toNat_natCast]
      rw [e1, if_pos rfl, ew]
    · rw [if_neg b1] at e1
      by_cases b2 : d.testBit i = true
      · rw [if_pos b2] at e2
        obtain ⟨ys, hy, hc, he⟩ := ih (i + 1) ((xs.set i 46).set i 100) (by omega) (by omega) (by simp [hlen]) (hset 100 (by rw [letAt, if_neg b1, if_pos b2]) _ (by simp [hlen]) (fun j hj => by rw [hg _ _ j hj, hg _ _ j hj]) (hh _ _ (by simp [hlen])))
        refine ⟨ys, hy, hc, Ev.step (fun k => ?_) he⟩
        rw [drovewayref04_Written.l0, if_pos g1, if_pos g2, if_pos g3]
        simp only [Option.bind_some, Int.toNat_natCast]
        rw [e1, if_neg (by decide), e2, if_pos rfl, ew]
      · rw [if_neg b2] at e2
        obtain ⟨ys, hy, hc, he⟩ := ih (i + 1) (xs.set i 46) (by omega) (by omega) (by simp [hlen]) (hset 46 (by rw [letAt, if_neg b1, if_neg b2]) _ (by simp [hlen]) (fun j hj => by rw [hg _ _ j hj]) (hh _ _ hlen))
        refine ⟨ys, hy, hc, Ev.step (fun k => ?_) he⟩
        rw [drovewayref04_Written.l0, if_pos g1, if_pos g2, if_pos g3]
        simp only [Option.bind_some, Int.toNat_natCast]
        rw [e1, if_neg (by decide), e2, if_neg (by decide), ew]
theorem letAt_range (w d j : Nat) : 0 ≤ letAt w d j ∧ letAt w d j < 256 ∧ okC (letAt w d j) = true := by
  unfold letAt
  split
  · exact ⟨by decide, by decide, rfl⟩
  · split
    · exact ⟨by decide, by decide, rfl⟩
    · exact ⟨by decide, by decide, rfl⟩
theorem Written_ev {m w d : Nat} (h9 : m ≤ 9) : ∃ t : ByteArray, t.size = m ∧ (∀ j : Nat, j < m → bt t j = letAt w d j) ∧ Ev (fun k => drovewayref04_Written.f k m w d) t := by
  obtain ⟨ys, hy, hc, he⟩ := Written_l0 (w := w) (d := d) h9 _ 0 (List.replicate m 0) rfl (Nat.zero_le _) (by simp) (fun j hj => by omega)
  refine ⟨strOfNums ys, by rw [strOfNums_size]; exact hy, fun j hj => ?_, ?_⟩
  · have hr := letAt_range w d j
    rw [bt_nums ys j (by omega) (by rw [hc j hj]; exact hr.1) (by rw [hc j hj]; exact hr.2.1), hc j hj]
  · refine Ev.congr (fun k => ?_) he
    unfold drovewayref04_Written.f
    rw [if_pos (by omega), if_pos (by omega)]
    rfl
set_option linter.unusedVariables false in
theorem Written_msk {m w d : Nat} {t : ByteArray} (hs : t.size = m) (hb : ∀ j : Nat, j < m → bt t j = letAt w d j) (hw : w < 2 ^ m) : msk 119 t m = w := by
  refine Nat.eq_of_testBit_eq fun k => ?_
  rw [msk_tb]
  by_cases hk : k < m
  · rw [hb k hk]
    unfold letAt
    by_cases q : w.testBit k = true
    · rw [if_pos q, q]; simp [hk]
    · rw [if_neg q]
      have : w.testBit k = false := by simpa using q
      rw [this]
      by_cases q2 : d.testBit k = true
      · rw [if_pos q2]; simp
      · rw [if_neg q2]; simp
  · rw [tb_big hw (by omega)]; simp [hk]
set_option linter.unusedVariables false in
theorem Written_mskd {m w d : Nat} {t : ByteArray} (hs : t.size = m) (hb : ∀ j : Nat, j < m → bt t j = letAt w d j) (hd : d < 2 ^ m) (hA : ∀ k, d.testBit k = true → w.testBit k = false) : msk 100 t m = d := by
  refine Nat.eq_of_testBit_eq fun k => ?_
  rw [msk_tb]
  by_cases hk : k < m
  · rw [hb k hk]
    unfold letAt
    by_cases q : d.testBit k = true
    · rw [if_neg (by rw [hA k q]; decide), if_pos q, q]; simp [hk]
    · have : d.testBit k = false := by simpa using q
      rw [this]
      by_cases q2 : w.testBit k = true
      · rw [if_pos q2]; simp
      · rw [if_neg q2, if_neg (by decide)]; simp
  · rw [tb_big hd (by omega)]; simp [hk]
theorem Written_ok {m w d : Nat} {l : List Int} {t : ByteArray} (hF : okF m l = 0) (hs : t.size = m) (hb : ∀ j : Nat, j < m → bt t j = letAt w d j) : okP m l t = 0 :=
  okP_iff.2 ⟨hF, by rw [hs], fun i hi => by rw [hb i (by omega)]; exact (letAt_range w d i).2.2⟩
theorem Written_free {m w : Nat} {t : ByteArray} (hb : ∀ j : Nat, j < m → bt t j = letAt w 0 j) : ∀ k, k ≤ m → freeC t k + popB w k = k
  | 0, _ => rfl
  | k + 1, hk => by
    have ih := Written_free hb k (by omega)
    rw [freeC, popB, hb k (by omega)]
    unfold letAt
    by_cases q : w.testBit k = true
    · rw [if_pos q, if_pos q, if_neg (by decide)]; omega
    · rw [if_neg q, if_neg q, Nat.zero_testBit]
      have e : (if (false = true) then (100 : Int) else 46) = 46 := by decide
      rw [e, if_pos rfl]; omega
end Go.Proofs.Ytbjpjjokamaliaa.PAmbushBegins
