/- The plain game: more spots for the wolves never help the dogs; who wins when the other one is next wins when next. -/
import Derived.Test.YtbjpjjokamaliaaC0
namespace Go.Proofs.Ytbjpjjokamaliaa.A
open Go.RowKit Go.Proofs.YtbjpjjokamaliaaW.PrintWords Go.Proofs.YtbjpjjokamaliaaW.PrintMore

/-- A set is within another one. -/
def Sub (f g : Nat → Bool) : Prop := ∀ i, f i = true → g i = true
theorem Sub.refl (f : Nat → Bool) : Sub f f := fun _ h => h
theorem Sub.trans {f g h : Nat → Bool} (a : Sub f g) (b : Sub g h) : Sub f h := fun i x => b i (a i x)
theorem up_iff (f : Nat → Bool) (i j : Nat) : up f i j = true ↔ (f j = true ∨ j = i) := by simp [up]
theorem Sub.up {f g : Nat → Bool} (h : Sub f g) (i : Nat) : Sub (up f i) (A.up g i) := fun j x => by
  rw [up_iff] at x ⊢
  exact x.imp (h j) id
theorem Sub.upr (f : Nat → Bool) (i : Nat) : Sub f (A.up f i) := fun j x => by rw [up_iff]; exact .inl x
theorem Sub.up_in {f g : Nat → Bool} (h : Sub f g) {i : Nat} (hi : g i = true) : Sub (A.up f i) g := fun j x => by
  rw [up_iff] at x
  rcases x with x | rfl
  · exact h j x
  · exact hi
theorem hasL_sub {l : List Int} {m : Nat} {W W' : Nat → Bool} (h : Sub W W') (hl : hasL l m W = true) : hasL l m W' = true := by
  unfold hasL at hl ⊢
  rw [List.any_eq_true] at hl ⊢
  obtain ⟨x, hx, hi⟩ := hl
  refine ⟨x, hx, ?_⟩
  unfold inL at hi ⊢
  rw [List.all_eq_true] at hi ⊢
  intro i hm
  have := hi i hm
  rw [Bool.or_eq_true] at this ⊢
  exact this.imp id (h i)
theorem fr_iff (W D : Nat → Bool) (i : Nat) : fr W D i = true ↔ W i = false ∧ D i = false := by
  unfold fr
  cases W i <;> cases D i <;> simp
theorem wins_w_iff (l : List Int) (m : Nat) (W D : Nat → Bool) : wins l m W D true = true ↔ hasL l m W = true ∨ ∃ i, i < m ∧ fr W D i = true ∧ wins l m (up W i) D false = true := by
  rw [wins_w, Bool.or_eq_true, List.any_eq_true]
  refine or_congr Iff.rfl ⟨?_, ?_⟩
  · rintro ⟨i, hi, h⟩
    rw [Bool.and_eq_true] at h
    exact ⟨i, List.mem_range.1 hi, h.1, h.2⟩
  · rintro ⟨i, hi, h1, h2⟩
    exact ⟨i, List.mem_range.2 hi, by rw [h1, h2]; rfl⟩
theorem wins_d_iff (l : List Int) (m : Nat) (W D : Nat → Bool) : wins l m W D false = true ↔ hasL l m W = true ∨ ((∃ i, i < m ∧ fr W D i = true) ∧ ∀ i, i < m → fr W D i = true → wins l m W (up D i) true = true) := by
  rw [wins_d, Bool.or_eq_true, Bool.and_eq_true, List.any_eq_true, List.all_eq_true]
  refine or_congr Iff.rfl (and_congr ⟨?_, ?_⟩ ⟨?_, ?_⟩)
  · rintro ⟨i, hi, h⟩; exact ⟨i, List.mem_range.1 hi, h⟩
  · rintro ⟨i, hi, h⟩; exact ⟨i, List.mem_range.2 hi, h⟩
  · intro h i hi hf
    have := h i (List.mem_range.2 hi)
    rw [hf] at this
    simpa using this
  · intro h i hi
    by_cases hf : fr W D i = true
    · rw [h i (List.mem_range.1 hi) hf]; simp
    · simp at hf; rw [hf]; rfl
theorem wins_mono_n (l : List Int) (m : Nat) : ∀ n (W D W' D' : Nat → Bool) (nx : Bool), cntF m W D ≤ n → Sub W W' → Sub D' D → wins l m W D nx = true → wins l m W' D' nx = true := by
  intro n
  induction n with
  | zero =>
    intro W D W' D' nx hn hW hD h
    have hno : ∀ i, i < m → fr W D i = true → False := fun i hi hf => by have := cnt_pos hi hf; omega
    have hl : hasL l m W = true := by
      cases nx
      · rcases (wins_d_iff l m W D).1 h with h | ⟨⟨i, hi, hf⟩, _⟩
        · exact h
        · exact (hno i hi hf).elim
      · rcases (wins_w_iff l m W D).1 h with h | ⟨i, hi, hf, _⟩
        · exact h
        · exact (hno i hi hf).elim
    cases nx
    · exact (wins_d_iff l m W' D').2 (.inl (hasL_sub hW hl))
    · exact (wins_w_iff l m W' D').2 (.inl (hasL_sub hW hl))
  | succ n ih =>
    intro W D W' D' nx hn hW hD h
    cases nx
    · rcases (wins_d_iff l m W D).1 h with h | ⟨⟨i, hi, hf⟩, hall⟩
      · exact (wins_d_iff l m W' D').2 (.inl (hasL_sub hW h))
      · have hgo : ∀ j, j < m → fr W D j = true → ∀ E, Sub E (up D j) → wins l m W' E true = true := fun j hj hfj E hE =>
          ih W (up D j) W' E true (by have := cnt_upD hj hfj; omega) hW hE (hall j hj hfj)
        by_cases hex : ∃ j, j < m ∧ fr W' D' j = true
        · refine (wins_d_iff l m W' D').2 (.inr ⟨hex, fun k hk hfk => ?_⟩)
          obtain ⟨hk1, hk2⟩ := (fr_iff W' D' k).1 hfk
          have hkW : W k = false := by
            cases e : W k with
            | false => rfl
            | true => rw [hW k e] at hk1; cases hk1
          cases e : D k with
          | true => exact hgo i hi hf _ ((hD.up_in e).trans (Sub.upr D i))
          | false => exact hgo k hk ((fr_iff W D k).2 ⟨hkW, e⟩) _ (hD.up k)
        · have hw := hgo i hi hf D' (hD.trans (Sub.upr D i))
          rcases (wins_w_iff l m W' D').1 hw with hw | ⟨j, hj, hfj, _⟩
          · exact (wins_d_iff l m W' D').2 (.inl hw)
          · exact (hex ⟨j, hj, hfj⟩).elim
    · rcases (wins_w_iff l m W D).1 h with h | ⟨i, hi, hf, hw⟩
      · exact (wins_w_iff l m W' D').2 (.inl (hasL_sub hW h))
      · have hc := cnt_upW hi hf
        obtain ⟨hi1, hi2⟩ := (fr_iff W D i).1 hf
        cases e : W' i with
        | false =>
          have hiD : D' i = false := by
            cases e' : D' i with
            | false => rfl
            | true => rw [hD i e'] at hi2; cases hi2
          exact (wins_w_iff l m W' D').2 (.inr ⟨i, hi, (fr_iff W' D' i).2 ⟨e, hiD⟩, ih (up W i) D (up W' i) D' false (by omega) (hW.up i) hD hw⟩)
        | true =>
          have hsub : Sub (up W i) W' := hW.up_in e
          rcases (wins_d_iff l m (up W i) D).1 hw with hw | ⟨⟨j, hj, hfj⟩, hall⟩
          · exact (wins_w_iff l m W' D').2 (.inl (hasL_sub hsub hw))
          · exact ih (up W i) (up D j) W' D' true (by have := cnt_upD hj hfj; omega) hsub (hD.trans (Sub.upr D j)) (hall j hj hfj)
theorem wins_mono {l : List Int} {m : Nat} {W D W' D' : Nat → Bool} {nx : Bool} (hW : Sub W W') (hD : Sub D' D) (h : wins l m W D nx = true) : wins l m W' D' nx = true :=
  wins_mono_n l m _ W D W' D' nx (Nat.le_refl _) hW hD h
theorem wins_tempo {l : List Int} {m : Nat} {W D : Nat → Bool} (h : wins l m W D false = true) : wins l m W D true = true := by
  rcases (wins_d_iff l m W D).1 h with h | ⟨⟨i, hi, hf⟩, hall⟩
  · exact (wins_w_iff l m W D).2 (.inl h)
  · exact wins_mono (Sub.refl W) (Sub.upr D i) (hall i hi hf)

/-! ### a position with a spot more -/
theorem bt_nums (xs : List Int) (j : Nat) (hj : j < xs.length) (h0 : 0 ≤ xs.getD j 0) (h1 : xs.getD j 0 < 256) : bt (strOfNums xs) j = xs.getD j 0 := by
  have hs : (strOfNums xs).size = xs.length := strOfNums_size xs
  have hg : xs.getD j 0 = xs[j] := by simp [List.getD_eq_getElem?_getD, List.getElem?_eq_getElem hj]
  rw [hg] at h0 h1 ⊢
  unfold bt
  have h : ((j : Int)).toNat < (strOfNums xs).size := by rw [hs]; simpa using hj
  rw [dif_pos h]
  have : (strOfNums xs)[((j : Int)).toNat]'h = UInt8.ofNat (xs[j]).toNat := by
    show (strOfNums xs).data[((j : Int)).toNat] = _
    simp [strOfNums]
  rw [this]
  simp
  omega
theorem bytes_getD (s : ByteArray) (j : Nat) : (bytesOf s).getD j 0 = bt s j := by
  have := rd_bytesOf s j
  unfold rd at this
  simpa using this
theorem placedS_size (s : ByteArray) (i c : Int) : (placedS s i c).size = s.size := by
  unfold placedS
  split <;> rw [strOfNums_size] <;> simp [bytesOf_length]
theorem placedS_bt (s : ByteArray) (i c : Int) (j : Nat) (hj : j < s.size) (h0 : 0 ≤ c) (h1 : c < 256) : bt (placedS s i c) j = if (j : Int) = i then c else bt s j := by
  have hb := bt_range s j
  unfold placedS
  by_cases hi : 0 ≤ i ∧ i < s.size
  · rw [if_pos hi]
    have hlen : j < ((bytesOf s).set i.toNat c).length := by simpa [bytesOf_length] using hj
    by_cases e : (j : Int) = i
    · have he : i.toNat = j := by omega
      rw [if_pos e, bt_nums _ _ hlen] <;> rw [he] <;> simp [List.getD_eq_getElem?_getD, bytesOf_length, hj] <;> omega
    · have he : i.toNat ≠ j := by omega
      have hg : ((bytesOf s).set i.toNat c).getD j 0 = bt s j := by
        rw [← bytes_getD]
        simp [List.getD_eq_getElem?_getD, List.getElem?_set_ne he]
      rw [if_neg e, bt_nums _ _ hlen] <;> rw [hg] <;> omega
  · rw [if_neg hi]
    have e : ¬ (j : Int) = i := by omega
    rw [if_neg e, bt_nums _ _ (by simpa [bytesOf_length] using hj)] <;> rw [bytes_getD] <;> omega
theorem okP_iff {m : Int} {l : List Int} {s : ByteArray} : okP m l s = 0 ↔ okF m l = 0 ∧ (s.size : Int) = m ∧ ∀ i, i < s.size → okC (bt s i) = true := by
  unfold okP
  constructor
  · intro h
    by_cases h1 : okF m l ≠ 0
    · rw [if_pos h1] at h; exact absurd h h1
    · rw [if_neg h1] at h
      by_cases h2 : (s.size : Int) ≠ m
      · rw [if_pos h2] at h; cases h
      · rw [if_neg h2] at h
        refine ⟨by simpa using h1, by simpa using h2, fun i hi => ?_⟩
        by_cases h3 : (List.range s.size).all (fun i => okC (bt s i)) = true
        · exact List.all_eq_true.1 h3 i (List.mem_range.2 hi)
        · rw [if_neg h3] at h; cases h
  · rintro ⟨h1, h2, h3⟩
    rw [if_neg (by simpa using h1), if_neg (by simpa using h2), if_pos (List.all_eq_true.2 fun i hi => h3 i (List.mem_range.1 hi))]
theorem okP_placed {m : Int} {l : List Int} {s : ByteArray} (h : okP m l s = 0) (i c : Int) (hc : okC c = true) (h0 : 0 ≤ c) (h1 : c < 256) : okP m l (placedS s i c) = 0 := by
  obtain ⟨hF, hm, ha⟩ := okP_iff.1 h
  refine okP_iff.2 ⟨hF, by rw [placedS_size]; exact hm, fun j hj => ?_⟩
  rw [placedS_size] at hj
  rw [placedS_bt s i c j hj h0 h1]
  split
  · exact hc
  · exact ha j hj
theorem okA_w {m : Int} {l : List Int} {s : ByteArray} (h : okP m l s = 0) : okA m l s sW = 0 := by
  unfold okA
  rw [if_neg (by simpa using h), if_pos (by decide +kernel)]
theorem okA_d {m : Int} {l : List Int} {s : ByteArray} (h : okP m l s = 0) : okA m l s sD = 0 := by
  unfold okA
  rw [if_neg (by simpa using h), if_neg (by decide +kernel), if_pos (by decide +kernel)]
theorem okA_let {m : Int} {l : List Int} {s : ByteArray} (h : okP m l s = 0) (b : Bool) : okA m l s (letS b) = 0 := by
  cases b
  · exact okA_d h
  · exact okA_w h
theorem nxW_let (b : Bool) : nxW (letS b) = some b := by cases b <;> decide +kernel
theorem winner_let {m : Int} {l : List Int} {s : ByteArray} (h : okP m l s = 0) (b : Bool) : ambush_Winner.f m l s (letS b) = some (letS (winS l s b), 0) := by
  unfold ambush_Winner.f
  rw [if_pos (okA_let h b), nxW_let]
  rfl
theorem winS_placed {l : List Int} {s : ByteArray} {i : Int} {nx : Bool} (h : winS l s nx = true) : winS l (placedS s i 119) nx = true := by
  unfold winS at h ⊢
  rw [placedS_size]
  refine wins_mono ?_ ?_ h
  · intro j hj
    rw [msk_tb] at hj ⊢
    simp only [Bool.and_eq_true, decide_eq_true_eq] at hj ⊢
    refine ⟨hj.1, ?_⟩
    rw [placedS_bt s i 119 j hj.1 (by decide) (by decide)]
    split
    · rfl
    · exact hj.2
  · intro j hj
    rw [msk_tb] at hj ⊢
    simp only [Bool.and_eq_true, decide_eq_true_eq] at hj ⊢
    refine ⟨hj.1, ?_⟩
    have := hj.2
    rw [placedS_bt s i 119 j hj.1 (by decide) (by decide)] at this
    split at this
    · cases this
    · exact this
theorem winS_tempo {l : List Int} {s : ByteArray} (h : winS l s false = true) : winS l s true = true := wins_tempo h

/-- The free spots below i. -/
def freeC (s : ByteArray) : Nat → Nat
  | 0 => 0
  | i + 1 => if bt s i = 46 then freeC s i + 1 else freeC s i
theorem freeC_le (s : ByteArray) : ∀ i, freeC s i ≤ i
  | 0 => Nat.le_refl _
  | i + 1 => by
    have := freeC_le s i
    rw [freeC]; split <;> omega
end Go.Proofs.Ytbjpjjokamaliaa.A
