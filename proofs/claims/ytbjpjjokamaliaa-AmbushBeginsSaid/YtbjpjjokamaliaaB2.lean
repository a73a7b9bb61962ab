/- Danger and Needs, as they are called. -/
import Derived.Test.YtbjpjjokamaliaaB1
namespace Go.Proofs.Ytbjpjjokamaliaa.A
open Go.RowKit Go.Proofs.YtbjpjjokamaliaaW.PrintWords Go.Proofs.YtbjpjjokamaliaaW.PrintMore

theorem okF_len {m : Int} {l : List Int} (h : okF m l = 0) : l.length ≤ 12 := by
  unfold okF at h
  split at h
  · cases h
  split at h
  · cases h
  · omega
/-- The danger of a position that is written. -/
def dangS (l : List Int) (s : ByteArray) : Int := dangL s.size (msk 119 s s.size) (msk 100 s s.size) l

set_option maxRecDepth 100000 in
set_option maxHeartbeats 800000 in
theorem Danger_err (m : Int) (A : Option Addr) (c : Nat) (l : List Int) (s : ByteArray) (w : World) (hr : Kd.C (Kd.int .i64) w A l.length l) (he : okP m l s ≠ 0) :
    Calls Try.prog 21 #[.int .i64 m, .slice A l.length c, .string s] w fun e w' => e = .returned (.tuple #[.int .i64 0, .int .i64 (okP m l s)]) ∧ Below w.heap.size w w' := by
  have HR := Aside0.mk hr
  have HE := Aside0.mk he
  obtain ⟨E, hE⟩ : ∃ E, okP m l s = E := ⟨_, rfl⟩
  rw [hE] at he ⊢
  have HV := Aside0.mk hE
  have hg : (E != 0) = true := by rw [bne_iff_ne]; exact he
  clear hr hE he
  go_enter Try.func21, Try.ntmps21
  go_wp2_with (go_at_call 43; refine (placed_err m A c l s _ HR.out HE.out).mono ?_; rw [HV.out]; rintro e w' ⟨⟨x, A2, n2, c2, rfl⟩, hb'⟩; have HB := Aside0.mk hb'; clear hb')
  go_ret2
  exact ⟨rfl, below_alloc (below_alloc HB.out _) _⟩

set_option maxRecDepth 100000 in
set_option maxHeartbeats 800000 in
theorem Danger_good (m : Int) (A : Option Addr) (c : Nat) (l : List Int) (s : ByteArray) (w : World) (hr : Kd.C (Kd.int .i64) w A l.length l) (hP : okP m l s = 0) :
    Calls Try.prog 21 #[.int .i64 m, .slice A l.length c, .string s] w fun e w' => e = .returned (.tuple #[.int .i64 (dangS l s), .int .i64 0]) ∧ Below w.heap.size w w' := by
  have HR := Aside0.mk hr
  have HE := Aside0.mk hP
  obtain ⟨hF, hs⟩ := okP_parts hP
  subst hs
  have HF := Aside0.mk hF
  have H9 := Aside0.mk (okF_m hF)
  clear hr hP hF
  go_enter Try.func21, Try.ntmps21
  go_wp2_with (first
    | (go_at_call 43; refine (placed_good s.size A c l s _ HR.out HE.out).mono ?_; rintro e w' ⟨rfl, hb'⟩; have HB := Aside0.mk hb'; clear hb')
    | (go_at_call 44; refine (danger_calls s.size _ _ (by have := H9.out; omega) (msk_lt _ _ _) (msk_lt _ _ _) l (okF_L HF.out) (okF_len HF.out) A c _ (Kd.C_below HR.out (below_alloc (below_alloc HB.out _) _))).mono ?_; rintro e w2 ⟨rfl, hb2⟩; have HB2 := Aside0.mk hb2; clear hb2))
  go_ret2
  exact ⟨rfl, below_then (below_alloc (below_alloc HB.out _) _) (below_alloc (below_alloc HB.out _) _).size HB2.out⟩

def ambush_Danger.f (a0 : Int) (l1 : List Int) (a2 : ByteArray) : Option (Int × Int) :=
  some (if okP a0 l1 a2 = 0 then (dangS l1 a2, 0) else (0, okP a0 l1 a2))
theorem ambush_Danger.calls (a0 : Int) (A1 : Option Addr) (c1 : Nat) (l1 : List Int) (a2 : ByteArray) (r1 : Int) (r2 : Int) (w : World) (hr1 : Kd.C (Kd.int .i64) w A1 l1.length l1) (_hc1 : l1.length ≤ c1) (h : ambush_Danger.f a0 l1 a2 = some (r1, r2)) :
    Calls Try.prog 21 #[.int .i64 a0, .slice A1 l1.length c1, .string a2] w fun e w' => e = .returned (.tuple #[.int .i64 r1, .int .i64 r2]) ∧ Below w.heap.size w w' := by
  unfold ambush_Danger.f at h
  by_cases h0 : okP a0 l1 a2 = 0
  · rw [if_pos h0] at h
    cases h
    exact Danger_good a0 A1 c1 l1 a2 w hr1 h0
  · rw [if_neg h0] at h
    cases h
    exact Danger_err a0 A1 c1 l1 a2 w hr1 h0

/-! ### Needs -/
/-- The least number of spots, after the first k sets. -/
def needL (l : List Int) (m : Nat) : Nat → Nat
  | 0 => m
  | k + 1 => if pop 9 k < needL l m k ∧ winZ l m k 0 false = 1 then pop 9 k else needL l m k
theorem needL_le (l : List Int) (m : Nat) : ∀ k, needL l m k ≤ m
  | 0 => Nat.le_refl _
  | k + 1 => by
    have := needL_le l m k
    rw [needL]; split <;> omega

set_option maxRecDepth 100000 in
set_option maxHeartbeats 800000 in
theorem Needs_err (m : Int) (A : Option Addr) (c : Nat) (l : List Int) (w : World) (hr : Kd.C (Kd.int .i64) w A l.length l) (he : okF m l ≠ 0) :
    Calls Try.prog 20 #[.int .i64 m, .slice A l.length c] w fun e w' => e = .returned (.tuple #[.int .i64 0, .int .i64 (okF m l)]) ∧ Below w.heap.size w w' := by
  have HR := Aside0.mk hr
  have HE := Aside0.mk he
  obtain ⟨E, hE⟩ : ∃ E, okF m l = E := ⟨_, rfl⟩
  rw [hE] at he ⊢
  have HV := Aside0.mk hE
  have hg : (E != 0) = true := by rw [bne_iff_ne]; exact he
  clear hr hE
  go_enter Try.func20, Try.ntmps20
  go_wp2_with (go_at_call 41; refine (read_bad m A c l E _ HR.out HV.out he).mono ?_; rintro e w' ⟨rfl, hb'⟩; have HB := Aside0.mk hb'; clear hb')
  go_ret2
  exact ⟨rfl, below_alloc HB.out _⟩

set_option maxRecDepth 100000 in
set_option maxHeartbeats 800000 in
theorem Needs_none (m : Int) (A : Option Addr) (c : Nat) (w : World) (hr : Kd.C (Kd.int .i64) w A ([] : List Int).length []) (he : okF m [] = 0) :
    Calls Try.prog 20 #[.int .i64 m, .slice A ([] : List Int).length c] w fun e w' => e = .returned (.tuple #[.int .i64 0, .int .i64 10]) ∧ Below w.heap.size w w' := by
  have HR := Aside0.mk hr
  have HE := Aside0.mk he
  clear hr he
  go_enter Try.func20, Try.ntmps20
  go_wp2_with (go_at_call 41; refine (read_ok m A c [] _ HR.out HE.out).mono ?_; rintro e w' ⟨rfl, hb'⟩; have HB := Aside0.mk hb'; clear hb')
  go_ret2
  exact ⟨rfl, below_alloc HB.out _⟩

theorem winner_at0 {l : List Int} {m : Nat} (h9 : m ≤ 9) (hl : okL m l) {A : Option Addr} {c b p : Nat} {w0 w : World} (hB : Below w0.heap.size w0 w) (hb : w0.heap.size ≤ b) (hr : Kd.C (Kd.int .i64) w0 A l.length l) (hm : Memo l m w b) (hp : p < 2 ^ m) :
    Calls Try.prog 40 #[.agg #[.int .i64 m, .slice A l.length c], .agg #[.int .i64 p, .int .i64 0, .int .i64 2], .map (some b)] w fun e w' => e = .returned (.int .i64 (winZ l m p 0 false)) ∧ Memo l m w' b ∧ Keep b w w' :=
  winner_at h9 hl (nx := false) rfl hB hb hr hm hp (d := 0) (Nat.two_pow_pos m)

/-- What is held while all sets are gone through. -/
structure NeedI (l : List Int) (m : Nat) (A : Option Addr) (c : Nat) (w : World) (g : Nat) (W : World) : Prop where
  below : Below w.heap.size w W
  memo : Memo l m W (g + 1)
  c0 : W.cell? ⟨g, 0, none⟩ = some (.int .i64 m)
  c1 : W.cell? ⟨g, 1, none⟩ = some (.slice A l.length c)
  big : w.heap.size ≤ g
theorem NeedI.next {l : List Int} {m : Nat} {A : Option Addr} {c : Nat} {w : World} {g : Nat} {W W' : World} (h : NeedI l m A c w g W) (hb : Below W.heap.size W W') : NeedI l m A c w g W' :=
  ⟨below_then h.below h.below.size hb, h.memo.keep hb, pw_cell_below hb h.c0, pw_cell_below hb h.c1, h.big⟩
theorem NeedI.nextK {l : List Int} {m : Nat} {A : Option Addr} {c : Nat} {w : World} {g : Nat} {W W' : World} (h : NeedI l m A c w g W) (hk : Keep (g + 1) W W') (hm : Memo l m W' (g + 1)) : NeedI l m A c w g W' :=
  ⟨h.below.trans (hk.below (by have := h.big; omega) h.below.size), hm, keep_cell hk (by show g ≠ g + 1; omega) h.c0, keep_cell hk (by show g ≠ g + 1; omega) h.c1, h.big⟩

set_option maxRecDepth 100000 in
set_option maxHeartbeats 1600000 in
theorem Needs_good (m : Nat) (A : Option Addr) (c : Nat) (l : List Int) (w : World) (hr : Kd.C (Kd.int .i64) w A l.length l) (he : okF m l = 0) (hne : l ≠ []) :
    Calls Try.prog 20 #[.int .i64 m, .slice A l.length c] w fun e w' => e = .returned (.tuple #[.int .i64 (needL l m (2 ^ m)), .int .i64 0]) ∧ Below w.heap.size w w' := by
  have HR := Aside0.mk hr
  have HE := Aside0.mk he
  have H9 := Aside0.mk (okF_m he)
  have hl0 : ((l.length : Int) == 0) = false := by
    rw [beq_eq_false_iff_ne]
    have := List.length_pos_iff.2 hne
    omega
  obtain ⟨N, hN⟩ : ∃ N, 2 ^ m = N := ⟨_, rfl⟩
  have HN := Aside0.mk hN
  have h512 : N ≤ 512 := by
    have h9 : m ≤ 9 := by have := okF_m he; omega
    rw [← hN]; exact Nat.pow_le_pow_right (show 0 < 2 by decide) h9
  have e1 : wrap64 (2 ^ min m 64) = (N : Int) := by rw [Nat.min_eq_left (by have := okF_m he; omega), wrap64_two (by have := okF_m he; omega), ← hN, Int.natCast_pow]; rfl
  rw [hN]
  clear hr he hne hN
  have hmm := @run_makeMap Try.prog
  go_enter Try.func20, Try.ntmps20
  go_wp2_with (go_at_call 41; refine (read_ok m A c l _ HR.out HE.out).mono ?_; rintro e w' ⟨rfl, hb'⟩; have HB := Aside0.mk hb'; clear hb')
  have HI : Aside0 (NeedI l m A c w w'.heap.size ((w'.alloc (.cells #[.int .i64 m, .slice A l.length c] 61)).alloc (.map #[] 0))) := by
    have h0 : ((w'.alloc (.cells #[.int .i64 m, .slice A l.length c] 61)).alloc (.map #[] 0)).heap[w'.heap.size]? = some (.cells #[.int .i64 m, .slice A l.length c] 61 (0, 0)) := (blks2 (Below.refl _ _)).1
    exact ⟨⟨below_alloc (below_alloc HB.out _) _, Memo.new _ (by simp), (cells2 h0).1, (cells2 h0).2.1, HB.out.size⟩⟩
  generalize hg : w'.heap.size = g at HI
  rw [e1]
  clear e1
  go_loopg [9, 10, 11, 30] N (fun gg v9 _ _ v30 wr => ∃ k : Nat, k ≤ N ∧ N - k ≤ gg ∧ v30 = .int .i64 k ∧ v9 = .int .i64 (needL l m k) ∧ Aside0 (NeedI l m A c w g wr))
  case atStart => exact ⟨0, Nat.zero_le _, by omega, rfl, rfl, HI⟩
  case round =>
    clear HI HB
    clear hg
    obtain ⟨k, hk, hgg, rfl, rfl, HI⟩ := hrel
    have c0 := HI.out.c0
    have c1 := HI.out.c1
    by_cases hlt : k < N
    · have hltz : (k : Int) < (N : Int) := by omega
      have HK : Aside0 (k < 2 ^ m) := ⟨by rw [HN.out]; exact hlt⟩
      have hk5 : k < 512 := by omega
      obtain ⟨o, ho⟩ : ∃ o, pop 9 k = o := ⟨_, rfl⟩
      have HO := Aside0.mk ho
      obtain ⟨q, hq⟩ : ∃ q, needL l m k = q := ⟨_, rfl⟩
      have HQ := Aside0.mk hq
      rw [hq]
      clear ho hq
      by_cases hoq : o < q
      · have hoz : (o : Int) < (q : Int) := by omega
        go_wp2_with (first
          | (go_at_call 42; refine (ones_calls k hk5 _).mono ?_; rw [HO.out]; rintro e w2 ⟨rfl, hb2⟩; have HI2 := Aside0.mk (HI.out.next hb2.below); clear hb2 c0 c1; have c0 := HI2.out.c0; have c1 := HI2.out.c1)
          | (go_at_call 40; refine (winner_at0 (by have := H9.out; omega) (okF_L HE.out) HI2.out.below (by have := HI2.out.big; omega) HR.out HI2.out.memo HK.out).mono ?_; rintro e w3 ⟨rfl, hm3, hk3⟩; have HI3 := Aside0.mk (HI2.out.nextK hk3 hm3); clear hm3 hk3))
        · go_roundg (N - (k + 1))
          case measure => omega
          case rel =>
            have hw : winZ l m k 0 false = 1 := eq_of_beq (by assumption)
            refine ⟨k + 1, by omega, by omega, by go_num, ?_, HI3⟩
            rw [needL, HO.out, HQ.out, if_pos ⟨hoq, hw⟩]
        · go_roundg (N - (k + 1))
          case measure => omega
          case rel =>
            have hw : (winZ l m k 0 false == 1) = false := by assumption
            refine ⟨k + 1, by omega, by omega, by go_num, ?_, HI3⟩
            rw [needL, HO.out, HQ.out, if_neg (fun h => by rw [h.2] at hw; cases hw)]
      · have hoz : ¬ (o : Int) < (q : Int) := by omega
        go_wp2_with (first
          | (go_at_call 42; refine (ones_calls k hk5 _).mono ?_; rw [HO.out]; rintro e w2 ⟨rfl, hb2⟩; have HI2 := Aside0.mk (HI.out.next hb2.below); clear hb2 c0 c1))
        go_roundg (N - (k + 1))
        case measure => omega
        case rel =>
          refine ⟨k + 1, by omega, by omega, by go_num, ?_, HI2⟩
          rw [needL, HO.out, HQ.out, if_neg (fun h => hoq h.1)]
    · have hltz : ¬ (k : Int) < (N : Int) := by omega
      have : k = N := by omega
      have HK := Aside0.mk this
      clear this hlt
      go_wp2
      go_ret2
      exact ⟨by rw [← HK.out]; rfl, HI.out.below⟩

def ambush_Needs.f (a0 : Int) (l1 : List Int) : Option (Int × Int) :=
  some (if okF a0 l1 = 0 then if l1 = [] then (0, 10) else (needL l1 a0.toNat (2 ^ a0.toNat), 0) else (0, okF a0 l1))
theorem ambush_Needs.calls (a0 : Int) (A1 : Option Addr) (c1 : Nat) (l1 : List Int) (r1 : Int) (r2 : Int) (w : World) (hr1 : Kd.C (Kd.int .i64) w A1 l1.length l1) (_hc1 : l1.length ≤ c1) (h : ambush_Needs.f a0 l1 = some (r1, r2)) :
    Calls Try.prog 20 #[.int .i64 a0, .slice A1 l1.length c1] w fun e w' => e = .returned (.tuple #[.int .i64 r1, .int .i64 r2]) ∧ Below w.heap.size w w' := by
  unfold ambush_Needs.f at h
  by_cases h0 : okF a0 l1 = 0
  · rw [if_pos h0] at h
    obtain ⟨m, rfl⟩ := Int.eq_ofNat_of_zero_le (show 0 ≤ a0 by have := okF_m h0; omega)
    by_cases hl : l1 = []
    · rw [if_pos hl] at h
      subst hl
      cases h
      exact Needs_none _ A1 c1 w hr1 h0
    · rw [if_neg hl, Int.toNat_natCast] at h
      cases h
      exact Needs_good m A1 c1 l1 w hr1 h0 hl
  · rw [if_neg h0] at h
    cases h
    exact Needs_err a0 A1 c1 l1 w hr1 h0
end Go.Proofs.Ytbjpjjokamaliaa.A
