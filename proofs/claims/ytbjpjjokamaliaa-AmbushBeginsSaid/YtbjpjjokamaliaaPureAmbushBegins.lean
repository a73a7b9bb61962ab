/- The plain law of AmbushBegins: what its walk computes is true. -/
import Derived.Test.YtbjpjjokamaliaaKAmbushBegins
import Derived.Test.YtbjpjjokamaliaaD3
namespace Go.Proofs.Ytbjpjjokamaliaa.Pure
open Go.Proofs.Ytbjpjjokamaliaa.A
open Go.RowKit Go.Proofs.Ytbjpjjokamaliaa.PAmbushBegins Go.Proofs.YtbjpjjokamaliaaW.PrintWords Go.Proofs.YtbjpjjokamaliaaW.PrintLast

theorem beg_alive : Ev (fun k => (drovewaylaw04_alive.f k).bind fun t => some t) true := Ev.bind alive_ev (Ev.now true)
theorem beg_let (b : Bool) : ((letS b).toList == ([100] : List UInt8)) = !b ∧ ((letS b).toList == ([119] : List UInt8)) = b := by cases b <;> decide +kernel
theorem beg_j4 {m : Nat} {l : List Int} (hF : okF m l = 0) (x : Int) (hx : 0 ≤ x ∧ x ≤ 65535) : Ev (fun k => drovewaylaw04_AmbushBegins.j4 k m l x (needL l m (2 ^ m) : Int) false) true := by
  have h9 : m ≤ 9 := by have := okF_m hF; omega
  have h1 : 1 ≤ m := by have := okF_m hF; omega
  have hsh := shl_two h1 h9
  have hpos := two_pow_pos' m
  have ex : wrap64 x = x := by rw [wrap64_id] <;> omega
  obtain ⟨s, hs, hsm⟩ : ∃ s : Nat, Int.tmod x (2 ^ m) = (s : Int) ∧ s < 2 ^ m := by
    have hpw : ((2 ^ m : Nat) : Int) = 2 ^ m := Int.natCast_pow 2 m
    obtain ⟨y, rfl⟩ := Int.eq_ofNat_of_zero_le hx.1
    refine ⟨y % 2 ^ m, ?_, Nat.mod_lt _ (Nat.two_pow_pos m)⟩
    rw [← hpw]
    rfl
  obtain ⟨t, ht, hb, he⟩ := Written_ev (m := m) (w := s) (d := 0) h9
  have hP := Written_ok hF ht hb
  have hmw := Written_msk ht hb hsm
  have hmd := Written_mskd ht hb (Nat.two_pow_pos m) (fun k hk => by rw [Nat.zero_testBit] at hk; cases hk)
  have hwin : ambush_Winner.f m l t (⟨#[100]⟩ : ByteArray) = some (letS (winS l t false), 0) := winner_let hP false
  have hval : winS l t false = wins l m s.testBit (0 : Nat).testBit false := by
    unfold winS
    rw [ht, hmw, hmd]
  have hfree := Written_free hb m (Nat.le_refl m)
  have hpe := popB_eq h9 hsm
  have hfe := free_ev t (by omega)
  rw [ht] at hfe
  have hun : ∀ k, drovewaylaw04_AmbushBegins.j4 (k + 1) m l x (needL l m (2 ^ m) : Int) false = (drovewayref04_Written.f k m s (0 : Nat)).bind fun t159 => ((ambush_Winner.f m l t159 (⟨#[100]⟩ : ByteArray)).bind fun bt160 => (if bt160.2 = 0 then (if bt160.1.toList = ([119] : List UInt8) then ((drovewaylaw04_free.f k t159).bind fun t162 => (if (wrap64 ((m : Int) - t162)) ≥ (needL l m (2 ^ m) : Int) then ((drovewaylaw04_alive.f k).bind fun t163 => (some t163)) else (some false))) else ((drovewaylaw04_alive.f k).bind fun t164 => (some t164))) else (some false))) := by
    intro k
    rw [drovewaylaw04_AmbushBegins.j4, if_neg (by decide), if_pos (by omega), hsh, if_neg (by omega), ex, hs]
    rfl
  refine Ev.step hun (Ev.bind he ?_)
  rw [hwin]
  simp only [Option.bind_some, if_true]
  cases e : winS l t false with
  | false =>
    have q : ¬ (letS false).toList = ([119] : List UInt8) := by decide +kernel
    exact Ev.congr (fun k => by rw [if_neg q]) beg_alive
  | true =>
    have q : (letS true).toList = ([119] : List UInt8) := by decide +kernel
    rw [hval] at e
    have hle := needL_least l m (2 ^ m) s hsm ((winZ_one l m s 0 false).2 e)
    have ew : wrap64 ((m : Int) - (freeC t m : Int)) = (pop 9 s : Int) := by
      rw [← hpe]
      generalize popB s m = q1 at hfree ⊢
      generalize freeC t m = q2 at hfree ⊢
      rw [wrap64_id] <;> omega
    refine Ev.congr (f := fun k => (drovewaylaw04_free.f k t).bind fun t162 => (if (wrap64 ((m : Int) - t162)) ≥ (needL l m (2 ^ m) : Int) then ((drovewaylaw04_alive.f k).bind fun t163 => (some t163)) else (some false))) (fun k => by rw [if_pos q]) ?_
    refine Ev.bind hfe (Ev.congr (fun k => ?_) beg_alive)
    rw [ew, if_pos (Int.ofNat_le.2 hle)]

theorem beg_l0 {m : Nat} {l : List Int} (hF : okF m l = 0) (t : ByteArray) (ht : t.size = m) (hb : ∀ j : Nat, j < m → bt t j = letAt 0 0 j) (x : Int) (hx : 0 ≤ x ∧ x ≤ 65535) (n1 n2 : Int)
    (hn : ambush_Needs.f m l = some (n1, n2)) : ∀ n i, m - i = n → i ≤ m →
    Ev (fun k => drovewaylaw04_AmbushBegins.l0 k m l x t (guardL l m m) (letS (winS l t false)) n1 n2 ((guardL l m i).length : Int) (i : Int)) true := by
  have h9 : m ≤ 9 := by have := okF_m hF; omega
  have h1 : 1 ≤ m := by have := okF_m hF; omega
  have hl := okF_L hF
  have hl' : okL m l := hl
  have hP := Written_ok hF ht hb
  have hmw := Written_msk ht hb (Nat.two_pow_pos m)
  have hmd := Written_mskd ht hb (Nat.two_pow_pos m) (fun k hk => by rw [Nat.zero_testBit] at hk; cases hk)
  have hval := Aside0.mk (show winS l t false = wins l m (0 : Nat).testBit (0 : Nat).testBit false by
    unfold winS
    rw [ht, hmw, hmd])
  have hw2 : ∀ i : Nat, i < m → winS l (placedS t i 100) true = wins l m (0 : Nat).testBit (2 ^ i : Nat).testBit true := by
    intro i hi
    unfold winS
    have hi2 : i < t.size := by rw [ht]; exact hi
    have hbi : bt t i = 46 := by rw [hb i hi]; unfold letAt; rw [Nat.zero_testBit, if_neg (by decide), if_neg (by decide)]
    have a1 := msk_put (c := 100) hi2 (by decide) (by decide)
    have a2 := msk_keep (c := 100) (c' := 119) hi2 hbi (by decide) (by decide) (by decide) (by decide)
    rw [placedS_size, a1, a2, ht, hmw, hmd, Nat.zero_or]
  clear hmw hmd
  intro n
  induction n with
  | zero =>
    intro i hn0 hi
    have e : i = m := by omega
    have g0 : ¬ (i : Int) < (m : Int) := by omega
    subst e
    by_cases hl0 : l = []
    · subst hl0
      have : ambush_Needs.f i [] = some (0, 10) := by
        unfold ambush_Needs.f
        rw [if_pos hF, if_pos rfl]
      rw [this] at hn
      cases hn
      refine Ev.step (fun k => ?_) beg_alive
      rw [drovewaylaw04_AmbushBegins.l0, if_neg g0, if_pos rfl, if_pos rfl, if_pos rfl, if_pos (show ((([] : List Int).length : Nat) : Int) = 0 from rfl)]
    · have : ambush_Needs.f i l = some ((needL l i (2 ^ i) : Int), 0) := by
        unfold ambush_Needs.f
        rw [if_pos hF, if_neg hl0]
        rfl
      rw [this] at hn
      cases hn
      have hne : ¬ (l.length : Int) = 0 := by
        have := List.length_pos_iff.2 hl0
        clear hval hw2
        omega
      have hle := needL_le l i (2 ^ i)
      have hz := needL_zero (l := l) h1 h9
      have hq : (((needL l i (2 ^ i) : Nat) : Int) == 0) = wins l i (0 : Nat).testBit (0 : Nat).testBit false := by
        by_cases q : needL l i (2 ^ i) = 0
        · rw [hz.1 q, q]; rfl
        · have h2 : wins l i (0 : Nat).testBit (0 : Nat).testBit false = false := Bool.eq_false_iff.2 fun h => q (hz.2 h)
          rw [h2, beq_eq_false_iff_ne]
          exact fun h => q (Int.ofNat.inj h)
      refine Ev.step (fun k => ?_) (beg_j4 hF x hx)
      rw [drovewaylaw04_AmbushBegins.l0, if_neg g0, if_pos rfl, if_neg hne, if_pos rfl, if_neg (Int.not_lt.2 (Int.natCast_nonneg _)), if_neg (Int.not_lt.2 (Int.ofNat_le.2 hle)), hq, (beg_let _).2, hval.out]
      simp
  | succ n ih =>
    intro i hn0 hi
    have ih' := ih (i + 1) (by omega) (by omega)
    clear ih
    have g1 : (i : Int) < (m : Int) := by omega
    have hi' : i < m := by omega
    have ew : wrap64 ((i : Int) + 1) = ((i + 1 : Nat) : Int) := by rw [wrap64_id] <;> omega
    have hP2 : okP (m : Int) l (placedS t i 100) = 0 := okP_placed hP i 100 rfl (by decide) (by decide)
    have hW2 : ambush_Winner.f m l (placedS t i 100) (⟨#[119]⟩ : ByteArray) = some (letS (winS l (placedS t i 100) true), 0) := winner_let hP2 true
    have hlen := guardL_len l m i
    have g2 : (0 : Int) ≤ ((guardL l m i).length : Int) := Int.natCast_nonneg _
    have ew2 : wrap64 (((guardL l m i).length : Int) + 1) = (((guardL l m i).length + 1 : Nat) : Int) := by
      generalize (guardL l m i).length = q at hlen
      rw [wrap64_id] <;> omega
    obtain ⟨hA, hB⟩ := guardL_at (l := l) hi'
    have erd : rd (guardL l m m) ((guardL l m i).length : Int) = (guardL l m m).getD (guardL l m i).length 0 := by unfold rd; simp
    cases hz : wins l m (0 : Nat).testBit (2 ^ i : Nat).testBit true with
    | false =>
      obtain ⟨q1, q2, q3⟩ := hA ((winZ_two l m 0 (2 ^ i) true).2 hz)
      have q4 : ((guardL l m i).length : Int) < ((guardL l m m).length : Int) := Int.ofNat_lt.2 q1
      have q5 : (rd (guardL l m m) ((guardL l m i).length : Int) == (i : Int)) = true := by rw [erd, q2]; simp
      rw [q3] at ih'
      have hj : Ev (fun k => drovewaylaw04_AmbushBegins.j3 k m l x t (guardL l m m) (letS (winS l t false)) n1 n2 ((guardL l m i).length : Int) (i : Int) (letS false) 0 true) true := by
        refine Ev.step (fun k => ?_) ih'
        rw [drovewaylaw04_AmbushBegins.j3, if_pos rfl, if_pos rfl, (beg_let false).1, if_neg (by decide), ew, ew2]
      refine Ev.step (fun k => ?_) hj
      rw [drovewaylaw04_AmbushBegins.l0, if_pos g1]
      unfold drovewaylaw04_placed.f
      simp only [Option.bind_some]
      rw [hW2, hw2 i hi', hz]
      simp only [Option.bind_some]
      rw [if_pos q4, if_pos g2, q5]
    | true =>
      have hnz : winZ l m 0 (2 ^ i) true ≠ 2 := fun h => by rw [winZ_two, hz] at h; cases h
      obtain ⟨q1, q3⟩ := hB hnz
      rw [q3] at ih'
      have hj : Ev (fun k => drovewaylaw04_AmbushBegins.j3 k m l x t (guardL l m m) (letS (winS l t false)) n1 n2 ((guardL l m i).length : Int) (i : Int) (letS true) 0 false) true := by
        refine Ev.step (fun k => ?_) ih'
        rw [drovewaylaw04_AmbushBegins.j3, if_neg (by decide), if_pos rfl, (beg_let true).1, if_neg (by decide), ew]
      refine Ev.step (fun k => ?_) hj
      rw [drovewaylaw04_AmbushBegins.l0, if_pos g1]
      unfold drovewaylaw04_placed.f
      simp only [Option.bind_some]
      rw [hW2, hw2 i hi', hz]
      simp only [Option.bind_some]
      by_cases q4 : ((guardL l m i).length : Int) < ((guardL l m m).length : Int)
      · have q5 : (rd (guardL l m m) ((guardL l m i).length : Int) == (i : Int)) = false := by
          rw [erd, beq_eq_false_iff_ne]
          exact q1 (Int.ofNat_lt.1 q4)
        rw [if_pos q4, if_pos g2, q5]
      · rw [if_neg q4]

theorem beg_j0 (m : Int) (l : List Int) (hF : okF m l = 0) (x : Int) (hx : 0 ≤ x ∧ x ≤ 65535) : Ev (fun k => drovewaylaw04_AmbushBegins.j0 k m l x false) true := by
  have h1 := (okF_m hF).1
  obtain ⟨m, rfl⟩ : ∃ n : Nat, m = n := ⟨m.toNat, by omega⟩
  have h9 : m ≤ 9 := by have := okF_m hF; omega
  have hl : okL m l := okF_L hF
  obtain ⟨t, ht, hb, he⟩ := Written_ev (m := m) (w := 0) (d := 0) h9
  have hP := Written_ok hF ht hb
  have hmw := Written_msk ht hb (Nat.two_pow_pos m)
  have hmd := Written_mskd ht hb (Nat.two_pow_pos m) (fun k hk => by rw [Nat.zero_testBit] at hk; cases hk)
  have hval : winS l t false = wins l m (0 : Nat).testBit (0 : Nat).testBit false := by
    unfold winS
    rw [ht, hmw, hmd]
  have hwin : ambush_Winner.f m l t (⟨#[100]⟩ : ByteArray) = some (letS (winS l t false), 0) := winner_let hP false
  have hG : ambush_Guards.f m l = some (guardL l m m, 0) := by
    unfold ambush_Guards.f
    rw [if_pos hF]
    rfl
  obtain ⟨n1, n2, hn⟩ : ∃ n1 n2, ambush_Needs.f m l = some (n1, n2) := by
    unfold ambush_Needs.f
    exact ⟨_, _, rfl⟩
  have hkey : (((letS (winS l t false)).toList == ([100] : List UInt8)) != (decide (((guardL l m m).length : Int) > 0))) = false := by
    rw [(beg_let _).1, hval]
    have he := empty_d (l := l) (by omega) hl
    cases hq : wins l m (0 : Nat).testBit (0 : Nat).testBit false with
    | false =>
      have := he.1 hq
      have hd : decide (((guardL l m m).length : Int) > 0) = true := decide_eq_true (by omega)
      rw [hd]; rfl
    | true =>
      have hd : decide (((guardL l m m).length : Int) > 0) = false := decide_eq_false (fun h => by
        have := he.2 (by omega)
        rw [hq] at this; cases this)
      rw [hd]; rfl
  have hloop := beg_l0 hF t ht hb x hx n1 n2 hn _ 0 rfl (Nat.zero_le _)
  have hj1 : Ev (fun k => drovewaylaw04_AmbushBegins.j1 k m l x t (guardL l m m) (letS (winS l t false)) n1 n2 false) true := by
    refine Ev.step (fun k => ?_) hloop
    rw [drovewaylaw04_AmbushBegins.j1, if_neg (by decide)]
    rfl
  refine Ev.step (f := fun k => (drovewayref04_Written.f k m (0 : Nat) (0 : Nat)).bind fun t145 => ((ambush_Guards.f m l).bind fun bt146 => ((ambush_Winner.f m l t145 (⟨#[100]⟩ : ByteArray)).bind fun bt150 => ((ambush_Needs.f m l).bind fun bt152 => (if bt146.2 = 0 then (if bt150.2 = 0 then (drovewaylaw04_AmbushBegins.j1 k m l x t145 bt146.1 bt150.1 bt152.1 bt152.2 ((bt150.1.toList == ([100] : List UInt8)) != (decide ((bt146.1.length : Int) > 0)))) else (drovewaylaw04_AmbushBegins.j1 k m l x t145 bt146.1 bt150.1 bt152.1 bt152.2 true)) else (drovewaylaw04_AmbushBegins.j1 k m l x t145 bt146.1 bt150.1 bt152.1 bt152.2 true)))))) (fun k => ?_) ?_
  · rw [drovewaylaw04_AmbushBegins.j0, if_neg (by decide)]
    rfl
  · refine Ev.bind he (Ev.congr (fun k => ?_) hj1)
    rw [hG, hwin, hn]
    simp only [Option.bind_some, if_true]
    rw [hkey]

/-- AmbushBegins, plain. -/
theorem AmbushBegins : drovewaylaw04_AmbushBegins.Pure := by
  intro m l x _ _ _ _ hx0
  have hx : 0 ≤ x ∧ x ≤ 65535 := by
    have e1 : IntKind.u16.min = 0 := by decide +kernel
    have e2 : IntKind.u16.max = 65535 := by decide +kernel
    simp [Lit.wf] at hx0
    omega
  refine Ev.rounds (g := fun k => drovewaylaw04_AmbushBegins.f k m l x) ?_
  unfold drovewaylaw04_AmbushBegins.f
  rw [few_eq]
  simp only [Option.bind_some]
  have hskip : Ev (fun k => drovewaylaw04_AmbushBegins.j0 k m l x true) true := by
    refine Ev.step (fun k => ?_) beg_alive
    rw [drovewaylaw04_AmbushBegins.j0, if_pos rfl]
  by_cases hf : ((l.length : Int) ≤ 40 ∧ ((⟨#[]⟩ : ByteArray).size : Int) ≤ 40 ∧ ((⟨#[]⟩ : ByteArray).size : Int) ≤ 40)
  · simp only [decide_eq_true hf, if_true]
    refine Ev.bind (f := fun k t143 => drovewaylaw04_AmbushBegins.j0 k m l x (t143 != 0)) (Field_ev m l) ?_
    by_cases h0 : okF m l = 0
    · rw [h0]
      exact beg_j0 m l h0 x hx
    · have : (okF m l != 0) = true := by rw [bne_iff_ne]; exact h0
      rw [this]
      exact hskip
  · simp only [decide_eq_false hf]
    exact Ev.congr (fun k => by rw [if_neg (by decide)]) hskip
end Go.Proofs.Ytbjpjjokamaliaa.Pure
