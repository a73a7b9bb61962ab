/- Who has won, which spots are free, and the position behind a move. -/
import Derived.Test.YtbjpjjokamaliaaA4
namespace Go.Proofs.Ytbjpjjokamaliaa.A
open Go.RowKit Go.Proofs.YtbjpjjokamaliaaW.PrintWords Go.Proofs.YtbjpjjokamaliaaW.PrintMore

set_option maxHeartbeats 400000 in
theorem won1_pred (m p : Nat) (h9 : m ≤ 9) (hp : p < 2 ^ m) (l : List Int) (hl : okL m l) (g : Nat) (w : World) (hc : w.cell? ⟨g, 0, none⟩ = some (.int .i64 p)) :
    PredB 75 #[.pointer (some ⟨g, 0, none⟩)] (fun x => .int .i64 x) (fun x => inL m x p.testBit) l w := by
  intro W x hx hb
  have hcW := pw_cell_below hb hc
  have HB := Aside0.mk hb
  obtain ⟨h1, h2⟩ := hl x hx
  obtain ⟨k, rfl⟩ := Int.eq_ofNat_of_zero_le (show 0 ≤ x by omega)
  have hk : k < 2 ^ m := by exact_mod_cast h2
  have e : (bits .andNot .i64 (k : Int) (p : Int) == 0) = inL m (k : Int) p.testBit := by
    rw [andNot64 _ _ (lt62 hk (by omega)) (lt62 hp (by omega)), inL_iff hk]
    rw [Bool.eq_iff_iff]; simp
  have EV := Aside0.mk e
  clear hb hc e hl hx h1 h2 hk
  show Calls Try.prog 75 #[.int .i64 (k : Int), .pointer (some ⟨g, 0, none⟩)] W fun e w' => e = .returned (.bool (inL m (k : Int) p.testBit)) ∧ Below w.heap.size w w'
  rw [← EV.out]
  go_enter Try.func75, Try.ntmps75
  go_wp2
  go_ret
  exact ⟨by first | rfl | simp, HB.out⟩

set_option maxHeartbeats 400000 in
theorem won_calls (m p d : Nat) (h9 : m ≤ 9) (hp : p < 2 ^ m) (l : List Int) (hl : okL m l) (A : Option Addr) (n c : Nat) (w : World) (hr : Kd.C (Kd.int .i64) w A n l) :
    Calls Try.prog 63 #[.agg #[.int .i64 m, .slice A n c], .agg #[.int .i64 p, .int .i64 d]] w fun e w' => e = .returned (.bool (hasL l m p.testBit)) ∧ Below w.heap.size w w' := by
  have HR := Aside0.mk hr
  have HL := Aside0.mk hl
  clear hr hl
  go_enter Try.func63, Try.ntmps63
  go_wp2_with (go_at_call 59; refine (ContainsFunc_int 75 #[.pointer (some ⟨w.heap.size + 1, 0, none⟩)] (fun x => inL m x p.testBit) enters75 A n c l _ ?s1 ?s2).mono ?_; (case s1 => repeat (first | exact HR.out | refine Kd.C_alloc ?_ _)); (case s2 => refine won1_pred m p h9 hp l HL.out _ _ ?_; simp); rintro e w' ⟨rfl, hb'⟩; have HB := Aside0.mk (btrans2 hb'))
  go_ret
  exact ⟨rfl, HB.out⟩

set_option maxHeartbeats 400000 in
theorem free_calls (m p d : Nat) (h9 : m ≤ 9) (hp : p < 2 ^ m) (hd : d < 2 ^ m) (A : Option Addr) (n c : Nat) (w : World) :
    Calls Try.prog 46 #[.agg #[.int .i64 m, .slice A n c], .agg #[.int .i64 p, .int .i64 d]] w fun e w' => e = .returned (.int .i64 (less (2 ^ m - 1) (p ||| d) : Nat)) ∧ Below w.heap.size w w' := by
  have e := free_eq (show m ≤ 61 by omega) hp hd
  have e2 := wrap64_two (show m ≤ 61 by omega)
  have q0 := two_pow_pos' m
  have q1 := two_pow_le (show m ≤ 61 by omega)
  have e3 : wrap64 ((2 : Int) ^ m - 1) = 2 ^ m - 1 := wrap64_id (by omega) (by omega)
  have HE := Aside0.mk e
  have H2 := Aside0.mk e2
  have H3 := Aside0.mk e3
  clear e e2 e3
  go_enter Try.func46, Try.ntmps46
  go_wp2
  go_quiet (fail)
  go_wp2
  go_ret
  refine ⟨by rw [← HE.out]; rfl, pw_below_drewN (below_alloc (below_alloc (Below.refl _ _) _) _) _⟩

theorem or_two (p i : Nat) (hp : p < 2 ^ 9) (hi : i < 9) : bits .or .i64 (p : Int) (wrap64 (2 ^ i)) = ((p ||| 2 ^ i : Nat) : Int) := by
  rw [wrap64_two (by omega)]
  have e : ((2 : Int) ^ i) = ((2 ^ i : Nat) : Int) := by simp
  rw [e, or64 _ _ (lt62 hp (by omega)) (two_lt (by omega))]

set_option maxHeartbeats 400000 in
theorem after_w (p d i : Nat) (hp : p < 2 ^ 9) (hi : i < 9) (w : World) :
    Calls Try.prog 47 #[.agg #[.int .i64 p, .int .i64 d], .int .i64 1, .int .i64 i] w fun e w' => e = .returned (.agg #[.int .i64 (p ||| 2 ^ i : Nat), .int .i64 d]) ∧ Below w.heap.size w w' := by
  have HE := Aside0.mk (or_two p i hp hi)
  clear hp
  go_enter Try.func47, Try.ntmps47
  go_wp2
  go_region
  go_wp2
  refine bodyPost_ret (v := .agg #[.int .i64 (bits .or .i64 (p : Int) (wrap64 (2 ^ i))), .int .i64 d]) (by simp [results, Try.results47, go_sem]) rfl ⟨by rw [HE.out], ?_⟩
  exact (below_alloc (below_alloc (Below.refl _ _) _) _).drew

set_option maxHeartbeats 400000 in
theorem after_d (p d i : Nat) (hd : d < 2 ^ 9) (hi : i < 9) (w : World) :
    Calls Try.prog 47 #[.agg #[.int .i64 p, .int .i64 d], .int .i64 2, .int .i64 i] w fun e w' => e = .returned (.agg #[.int .i64 p, .int .i64 (d ||| 2 ^ i : Nat)]) ∧ Below w.heap.size w w' := by
  have HE := Aside0.mk (or_two d i hd hi)
  clear hd
  go_enter Try.func47, Try.ntmps47
  go_wp2
  go_region
  go_wp2
  refine bodyPost_ret (v := .agg #[.int .i64 p, .int .i64 (bits .or .i64 (d : Int) (wrap64 (2 ^ i)))]) (by simp [results, Try.results47, go_sem]) rfl ⟨by rw [HE.out], ?_⟩
  exact (below_alloc (below_alloc (Below.refl _ _) _) _).drew

set_option maxHeartbeats 400000 in
theorem other_calls (k : Int) (w : World) (h : k = 1 ∨ k = 2) :
    Calls Try.prog 64 #[.int .i64 k] w fun e w' => e = .returned (.int .i64 (3 - k)) ∧ w = w' := by
  have h1 : 1 ≤ k := by omega
  have h2 : k ≤ 2 := by omega
  clear h
  go_enter Try.func64, Try.ntmps64
  go_wp2
  go_ret
  exact ⟨rfl, rfl⟩
end Go.Proofs.Ytbjpjjokamaliaa.A
