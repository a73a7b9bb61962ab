/- Who is asked for, as the program reads it. -/
import Derived.Test.YtbjpjjokamaliaaA3
namespace Go.Proofs.Ytbjpjjokamaliaa.A
open Go.RowKit Go.Proofs.YtbjpjjokamaliaaW.PrintWords Go.Proofs.YtbjpjjokamaliaaW.PrintMore

def sW : ByteArray := ⟨#[119]⟩
def sD : ByteArray := ⟨#[100]⟩

set_option maxHeartbeats 400000 in
theorem letter_w (w : World) : Calls Try.prog 39 #[.int .i64 1] w fun e w' => e = .returned (.string sW) ∧ w = w' := by
  go_enter Try.func39, Try.ntmps39
  go_wp2
  go_ret
  exact ⟨rfl, rfl⟩
set_option maxHeartbeats 400000 in
theorem letter_d (w : World) : Calls Try.prog 39 #[.int .i64 2] w fun e w' => e = .returned (.string sD) ∧ w = w' := by
  go_enter Try.func39, Try.ntmps39
  go_wp2
  go_ret
  exact ⟨rfl, rfl⟩

/-- The errors of a question. -/
def okA (m : Int) (l : List Int) (s nx : ByteArray) : Int := if okP m l s ≠ 0 then okP m l s else if (nx.toList == sW.toList) = true then 0 else if (nx.toList == sD.toList) = true then 0 else 5

theorem cells3 {w : World} {g : Nat} {a b d : Value} {t : TypeId} (h : w.heap[g]? = some (.cells #[a, b, d] t (0, 0))) :
    w.cell? ⟨g, 0, none⟩ = some a ∧ w.cell? ⟨g, 1, none⟩ = some b ∧ w.cell? ⟨g, 2, none⟩ = some d ∧ w.frozen? ⟨g, 0, none⟩ = false ∧ w.frozen? ⟨g, 1, none⟩ = false ∧ w.frozen? ⟨g, 2, none⟩ = false :=
  ⟨blk_cell h 0, blk_cell h 1, blk_cell h 2, blk_frozen h 0, blk_frozen h 1, blk_frozen h 2⟩

set_option maxHeartbeats 400000 in
theorem asked_err (m : Int) (A : Option Addr) (c : Nat) (l : List Int) (s nx : ByteArray) (w : World) (hr : Kd.C (Kd.int .i64) w A l.length l) (he : okA m l s nx ≠ 0) :
    Calls Try.prog 38 #[.int .i64 m, .slice A l.length c, .string s, .string nx] w fun e w' => (∃ x A2 n2 c2, e = .returned (.tuple #[.agg #[.int .i64 x, .slice A2 n2 c2], .agg #[.int .i64 0, .int .i64 0, .int .i64 0], .int .i64 (okA m l s nx)])) ∧ Below w.heap.size w w' := by
  unfold okA at he ⊢
  have HR := Aside0.mk hr
  by_cases hP : okP m l s ≠ 0
  · rw [if_pos hP]
    have HE := Aside0.mk hP
    obtain ⟨E, hE⟩ : ∃ E, okP m l s = E := ⟨_, rfl⟩
    rw [hE] at hP
    have HV := Aside0.mk hE
    have hg : (E != 0) = true := by rw [bne_iff_ne]; exact hP
    rw [hE]
    clear hr hE he
    go_enter Try.func38, Try.ntmps38
    go_wp2_with (go_at_call 43; refine (placed_err m A c l s _ ?s1 HE.out).mono ?_; (case s1 => repeat (first | exact HR.out | refine Kd.C_alloc ?_ _)); rw [HV.out]; rintro e w' ⟨⟨x, A2, n2, c2, rfl⟩, hb'⟩; obtain ⟨hk0, hk1⟩ := blks2 hb'; obtain ⟨hc0, hc1, hf0, hf1⟩ := cells2 hk0; obtain ⟨hc2, hc3, hc4, hf2, hf3, hf4⟩ := cells3 hk1; obtain ⟨hz0, hz1⟩ := bsize2 hb'; have HB := Aside0.mk (btrans2 hb'))
    refine bodyPost_ret (v := .tuple #[.agg #[.int .i64 x, .slice A2 n2 c2], .agg #[.int .i64 0, .int .i64 0, .int .i64 0], .int .i64 E]) (by simp [results, Try.results38, go_sem, hc0, hc1, hc2, hc3, hc4, hz0, hz1]) rfl ⟨⟨x, A2, n2, c2, rfl⟩, ?_⟩
    repeat (first | (with_reducible exact HB.out) | (with_reducible refine Below.drew ?_) | (with_reducible refine below_alloc ?_ _) | (with_reducible refine Below.setCell ?_ (by simp) _))
  · rw [if_neg hP] at he ⊢
    have hP0 : okP m l s = 0 := by simpa using hP
    have HE := Aside0.mk hP0
    by_cases q1 : (nx.toList == sW.toList) = true
    · rw [if_pos q1] at he; exact absurd rfl he
    rw [if_neg q1] at he ⊢
    by_cases q2 : (nx.toList == sD.toList) = true
    · rw [if_pos q2] at he; exact absurd rfl he
    rw [if_neg q2] at he ⊢
    have q1 : (nx.toList == sW.toList) = false := by simpa using q1
    have q2 : (nx.toList == sD.toList) = false := by simpa using q2
    clear hr he hP hP0
    go_enter Try.func38, Try.ntmps38
    go_wp2_with (first | (go_at_call 43; refine (placed_good m A c l s _ ?s1 HE.out).mono ?_; (case s1 => repeat (first | exact HR.out | refine Kd.C_alloc ?_ _)); rintro e w' ⟨rfl, hb'⟩; obtain ⟨hk0, hk1⟩ := blks2 hb'; obtain ⟨hc0, hc1, hf0, hf1⟩ := cells2 hk0; obtain ⟨hc2, hc3, hc4, hf2, hf3, hf4⟩ := cells3 hk1; obtain ⟨hz0, hz1⟩ := bsize2 hb'; have HB := Aside0.mk (btrans2 hb'); clear hk0 hk1 hb') | (go_at_call_of 39 (Value.int IntKind.i64 1); refine (letter_w _).mono ?_; rintro e w' ⟨rfl, rfl⟩) | (go_at_call_of 39 (Value.int IntKind.i64 2); refine (letter_d _).mono ?_; rintro e w' ⟨rfl, rfl⟩))
    refine bodyPost_ret (v := .tuple #[.agg #[.int .i64 m, .slice A l.length c], .agg #[.int .i64 0, .int .i64 0, .int .i64 0], .int .i64 5]) (by simp [results, Try.results38, go_sem, hc0, hc1, hc2, hc3, hc4, hz0, hz1]) rfl ⟨⟨m, A, l.length, c, rfl⟩, ?_⟩
    repeat (first | (with_reducible exact HB.out) | (with_reducible refine Below.drew ?_) | (with_reducible refine below_alloc ?_ _) | (with_reducible refine Below.setCell ?_ (by simp) _))

set_option maxHeartbeats 400000 in
theorem asked_w (m : Int) (A : Option Addr) (c : Nat) (l : List Int) (s nx : ByteArray) (w : World) (hr : Kd.C (Kd.int .i64) w A l.length l) (hP0 : okP m l s = 0) (q1 : (nx.toList == sW.toList) = true) :
    Calls Try.prog 38 #[.int .i64 m, .slice A l.length c, .string s, .string nx] w fun e w' => e = .returned (.tuple #[.agg #[.int .i64 m, .slice A l.length c], .agg #[.int .i64 (msk 119 s s.size), .int .i64 (msk 100 s s.size), .int .i64 1], .int .i64 0]) ∧ Below w.heap.size w w' := by
  have HR := Aside0.mk hr
  have HE := Aside0.mk hP0
  clear hr hP0
  go_enter Try.func38, Try.ntmps38
  go_wp2_with (first | (go_at_call 43; refine (placed_good m A c l s _ ?s1 HE.out).mono ?_; (case s1 => repeat (first | exact HR.out | refine Kd.C_alloc ?_ _)); rintro e w' ⟨rfl, hb'⟩; obtain ⟨hk0, hk1⟩ := blks2 hb'; obtain ⟨hc0, hc1, hf0, hf1⟩ := cells2 hk0; obtain ⟨hc2, hc3, hc4, hf2, hf3, hf4⟩ := cells3 hk1; obtain ⟨hz0, hz1⟩ := bsize2 hb'; have HB := Aside0.mk (btrans2 hb'); clear hk0 hk1 hb') | (go_at_call_of 39 (Value.int IntKind.i64 1); refine (letter_w _).mono ?_; rintro e w' ⟨rfl, rfl⟩) | (go_at_call_of 39 (Value.int IntKind.i64 2); refine (letter_d _).mono ?_; rintro e w' ⟨rfl, rfl⟩))
  have n1 : ¬ (w.heap.size = w'.heap.size) := by omega
  have n2 : ¬ (w.heap.size = w'.heap.size + 1) := by omega
  have n3 : ¬ (w.heap.size + 1 = w'.heap.size) := by omega
  have n4 : ¬ (w'.heap.size = w.heap.size) := by omega
  have n5 : ¬ (w'.heap.size + 1 = w.heap.size) := by omega
  have n6 : ¬ (w'.heap.size = w.heap.size + 1) := by omega
  go_region
  go_wp2
  refine bodyPost_ret (v := .tuple #[.agg #[.int .i64 m, .slice A l.length c], .agg #[.int .i64 (msk 119 s s.size), .int .i64 (msk 100 s s.size), .int .i64 1], .int .i64 0]) (by simp [results, Try.results38, go_sem, hc0, hc1, hc2, hc3, hc4, hz0, hz1]) rfl ⟨rfl, ?_⟩
  repeat (first | (with_reducible exact HB.out) | (with_reducible refine Below.drew ?_) | (with_reducible refine below_alloc ?_ _) | (with_reducible refine Below.setCell ?_ (by simp) _))

set_option maxHeartbeats 400000 in
theorem asked_d (m : Int) (A : Option Addr) (c : Nat) (l : List Int) (s nx : ByteArray) (w : World) (hr : Kd.C (Kd.int .i64) w A l.length l) (hP0 : okP m l s = 0) (q1 : (nx.toList == sW.toList) = false) (q2 : (nx.toList == sD.toList) = true) :
    Calls Try.prog 38 #[.int .i64 m, .slice A l.length c, .string s, .string nx] w fun e w' => e = .returned (.tuple #[.agg #[.int .i64 m, .slice A l.length c], .agg #[.int .i64 (msk 119 s s.size), .int .i64 (msk 100 s s.size), .int .i64 2], .int .i64 0]) ∧ Below w.heap.size w w' := by
  have HR := Aside0.mk hr
  have HE := Aside0.mk hP0
  clear hr hP0
  go_enter Try.func38, Try.ntmps38
  go_wp2_with (first | (go_at_call 43; refine (placed_good m A c l s _ ?s1 HE.out).mono ?_; (case s1 => repeat (first | exact HR.out | refine Kd.C_alloc ?_ _)); rintro e w' ⟨rfl, hb'⟩; obtain ⟨hk0, hk1⟩ := blks2 hb'; obtain ⟨hc0, hc1, hf0, hf1⟩ := cells2 hk0; obtain ⟨hc2, hc3, hc4, hf2, hf3, hf4⟩ := cells3 hk1; obtain ⟨hz0, hz1⟩ := bsize2 hb'; have HB := Aside0.mk (btrans2 hb'); clear hk0 hk1 hb') | (go_at_call_of 39 (Value.int IntKind.i64 1); refine (letter_w _).mono ?_; rintro e w' ⟨rfl, rfl⟩) | (go_at_call_of 39 (Value.int IntKind.i64 2); refine (letter_d _).mono ?_; rintro e w' ⟨rfl, rfl⟩))
  have n1 : ¬ (w.heap.size = w'.heap.size) := by omega
  have n2 : ¬ (w.heap.size = w'.heap.size + 1) := by omega
  have n3 : ¬ (w.heap.size + 1 = w'.heap.size) := by omega
  have n4 : ¬ (w'.heap.size = w.heap.size) := by omega
  have n5 : ¬ (w'.heap.size + 1 = w.heap.size) := by omega
  have n6 : ¬ (w'.heap.size = w.heap.size + 1) := by omega
  go_region
  go_wp2
  refine bodyPost_ret (v := .tuple #[.agg #[.int .i64 m, .slice A l.length c], .agg #[.int .i64 (msk 119 s s.size), .int .i64 (msk 100 s s.size), .int .i64 2], .int .i64 0]) (by simp [results, Try.results38, go_sem, hc0, hc1, hc2, hc3, hc4, hz0, hz1]) rfl ⟨rfl, ?_⟩
  repeat (first | (with_reducible exact HB.out) | (with_reducible refine Below.drew ?_) | (with_reducible refine below_alloc ?_ _) | (with_reducible refine Below.setCell ?_ (by simp) _))
end Go.Proofs.Ytbjpjjokamaliaa.A
