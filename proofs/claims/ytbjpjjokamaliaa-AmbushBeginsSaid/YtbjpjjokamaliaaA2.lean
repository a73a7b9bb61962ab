/- The field, the position and who is next, as the program reads them. -/
import Derived.Test.YtbjpjjokamaliaaA0
import Derived.Test.YtbjpjjokamaliaaA1
namespace Go.Proofs.Ytbjpjjokamaliaa.A
open Go.RowKit Go.Proofs.YtbjpjjokamaliaaW.PrintWords Go.Proofs.YtbjpjjokamaliaaW.PrintMore

theorem wrap64_id {n : Int} (h0 : -9223372036854775808 ≤ n) (h1 : n ≤ 9223372036854775807) : wrap64 n = n := by unfold wrap64; omega
theorem two_pow_le {m : Nat} (h : m ≤ 61) : (2 : Int) ^ m ≤ 2305843009213693952 := by
  have := Nat.pow_le_pow_right (show 1 ≤ 2 by decide) h
  have e : ((2 ^ m : Nat) : Int) = (2 : Int) ^ m := by simp
  have e2 : (2 : Nat) ^ 61 = 2305843009213693952 := by decide
  omega
theorem two_pow_pos' (m : Nat) : (1 : Int) ≤ 2 ^ m := by
  have := Nat.two_pow_pos m
  have e : ((2 ^ m : Nat) : Int) = (2 : Int) ^ m := by simp
  omega
theorem wrap64_two {m : Nat} (h : m ≤ 61) : wrap64 (2 ^ m) = 2 ^ m := wrap64_id (by have := two_pow_pos' m; omega) (by have := two_pow_le h; omega)

theorem enters65 : ∀ args w, (callFunc 65 args).run Try.prog w = .ok (.enter 65 args) w := enters_of Try.func65 (by kernel_rfl) rfl
theorem enters75 : ∀ args w, (callFunc 75 args).run Try.prog w = .ok (.enter 75 args) w := enters_of Try.func75 (by kernel_rfl) rfl

set_option maxHeartbeats 400000 in
theorem read1_pred (m : Nat) (h1 : 1 ≤ m) (h9 : m ≤ 9) (g : Nat) (l : List Int) (w : World) (hc : w.cell? ⟨g, 0, none⟩ = some (.int .i64 m)) :
    PredB 65 #[.pointer (some ⟨g, 0, none⟩)] (fun x => .int .i64 x) (fun x => decide (x < 1) || decide (2 ^ m ≤ x)) l w := by
  intro W x _ hb
  have hcW := pw_cell_below hb hc
  have HB := Aside0.mk hb
  clear hb hc
  show Calls Try.prog 65 #[.int .i64 x, .pointer (some ⟨g, 0, none⟩)] W _
  obtain ⟨b, hbv⟩ : ∃ b, (decide (x < 1) || decide (2 ^ m ≤ x)) = b := ⟨_, rfl⟩
  have BV := Aside0.mk hbv
  show Calls Try.prog 65 #[.int .i64 x, .pointer (some ⟨g, 0, none⟩)] W fun e w' => e = .returned (.bool (decide (x < 1) || decide (2 ^ m ≤ x))) ∧ Below w.heap.size w w'
  rw [hbv]
  clear hbv
  by_cases hx : x < 1
  · go_enter Try.func65, Try.ntmps65
    go_wp2
    go_ret
    exact ⟨by rw [← BV.out]; simp [hx], HB.out⟩
  · go_enter Try.func65, Try.ntmps65
    go_wp2
    go_ret
    exact ⟨by rw [← BV.out]; simp [show ¬ x < 1 by omega, wrap64_two (show m ≤ 61 by omega)], HB.out⟩

/-- The errors of a field. -/
def okF (m : Int) (l : List Int) : Int := if m < 1 ∨ 9 < m then 2 else if 12 < l.length then 3 else if (l.any fun x => decide (x < 1) || decide (2 ^ m.toNat ≤ x)) = true then 2 else 0

theorem below_set0 {w W : World} (h : Below w.heap.size w W) (o : Obj) (j : Nat) (v : Value) : Below w.heap.size w ((W.alloc o).setCell ⟨W.heap.size, j, none⟩ v) := (below_alloc h o).setCell h.size v

theorem bcell {W w1 : World} (hb : Below W.heap.size W w1) : (∀ b o, b < W.heap.size → w1.cell? ⟨b, o, none⟩ = W.cell? ⟨b, o, none⟩) ∧ (∀ b o, b < W.heap.size → w1.frozen? ⟨b, o, none⟩ = W.frozen? ⟨b, o, none⟩) :=
  ⟨fun b o h => hb.cell (p := ⟨b, o, none⟩) h, fun b o h => hb.frozen (p := ⟨b, o, none⟩) h⟩

set_option maxHeartbeats 800000 in
theorem read_bad (m : Int) (A : Option Addr) (c : Nat) (l : List Int) (E : Int) (w : World) (hr : Kd.C (Kd.int .i64) w A l.length l) (he : okF m l = E) (h0 : E ≠ 0) :
    Calls Try.prog 41 #[.int .i64 m, .slice A l.length c] w fun e w' => e = .returned (.tuple #[.agg #[.int .i64 0, .slice none 0 0], .int .i64 E]) ∧ Below w.heap.size w w' := by
  unfold okF at he
  have HB := Aside0.mk (Below.refl w.heap.size w)
  by_cases h1 : m < 1
  · rw [if_pos (.inl h1)] at he
    subst he
    go_enter Try.func41, Try.ntmps41
    go_wp2
    exact bodyPost_ret (v := .tuple #[.agg #[.int .i64 0, .slice none 0 0], .int .i64 2]) (by simp [results, Try.results41, go_sem]) rfl ⟨rfl, below_alloc (below_alloc HB.out _) _⟩
  by_cases h9 : 9 < m
  · rw [if_pos (.inr h9)] at he
    subst he
    go_enter Try.func41, Try.ntmps41
    go_wp2
    exact bodyPost_ret (v := .tuple #[.agg #[.int .i64 0, .slice none 0 0], .int .i64 2]) (by simp [results, Try.results41, go_sem]) rfl ⟨rfl, below_alloc (below_alloc HB.out _) _⟩
  rw [if_neg (by omega)] at he
  by_cases hl : 12 < l.length
  · rw [if_pos hl] at he
    subst he
    go_enter Try.func41, Try.ntmps41
    go_wp2
    exact bodyPost_ret (v := .tuple #[.agg #[.int .i64 0, .slice none 0 0], .int .i64 3]) (by simp [results, Try.results41, go_sem]) rfl ⟨rfl, below_alloc (below_alloc HB.out _) _⟩
  rw [if_neg hl] at he
  obtain ⟨b, hb⟩ : ∃ b, (l.any fun x => decide (x < 1) || decide (2 ^ m.toNat ≤ x)) = b := ⟨_, rfl⟩
  rw [hb] at he
  cases b with
  | false => simp at he; exact absurd he.symm h0
  | true =>
    rw [if_pos rfl] at he
    subst he
    obtain ⟨k, rfl⟩ := Int.eq_ofNat_of_zero_le (show 0 ≤ m by omega)
    rw [Int.toNat_natCast] at hb
    have HR := Aside0.mk hr
    have HV := Aside0.mk hb
    clear hr hb
    go_enter Try.func41, Try.ntmps41
    go_wp2_with (go_at_call 59; refine (ContainsFunc_int 65 #[.pointer (some ⟨w.heap.size, 0, none⟩)] (fun x => decide (x < 1) || decide (2 ^ k ≤ x)) enters65 A l.length c l _ ?s1 ?s2).mono ?_; (case s1 => repeat (first | exact HR.out | refine Kd.C_alloc ?_ _)); (case s2 => refine read1_pred k (by omega) (by omega) _ _ _ ?_; simp); rw [HV.out]; rintro e w' ⟨rfl, hb'⟩; obtain ⟨hc, hf⟩ := bcell hb')
    have hz : w.heap.size + 1 < w'.heap.size := by have := hb'.size; simp at this; omega
    have hB : Below w.heap.size w w' := below_then (below_alloc (below_alloc HB.out _) _) (by simp; omega) hb'
    exact bodyPost_ret (v := .tuple #[.agg #[.int .i64 0, .slice none 0 0], .int .i64 2]) (by simp [results, Try.results41, go_sem, hc, hz]) rfl ⟨rfl, (hB.setCell (by simp) _).setCell (by simp) _⟩

set_option maxHeartbeats 800000 in
theorem read_ok (m : Int) (A : Option Addr) (c : Nat) (l : List Int) (w : World) (hr : Kd.C (Kd.int .i64) w A l.length l) (he : okF m l = 0) :
    Calls Try.prog 41 #[.int .i64 m, .slice A l.length c] w fun e w' => e = .returned (.tuple #[.agg #[.int .i64 m, .slice A l.length c], .int .i64 0]) ∧ Below w.heap.size w w' := by
  unfold okF at he
  have HB := Aside0.mk (Below.refl w.heap.size w)
  by_cases h19 : m < 1 ∨ 9 < m
  · rw [if_pos h19] at he; cases he
  rw [if_neg h19] at he
  by_cases hl : 12 < l.length
  · rw [if_pos hl] at he; cases he
  rw [if_neg hl] at he
  obtain ⟨b, hb⟩ : ∃ b, (l.any fun x => decide (x < 1) || decide (2 ^ m.toNat ≤ x)) = b := ⟨_, rfl⟩
  rw [hb] at he
  cases b with
  | true => simp at he
  | false =>
    obtain ⟨k, rfl⟩ := Int.eq_ofNat_of_zero_le (show 0 ≤ m by omega)
    rw [Int.toNat_natCast] at hb
    have HR := Aside0.mk hr
    have HV := Aside0.mk hb
    have h1 : ¬ (k : Int) < 1 := by omega
    have h9 : ¬ (9 : Int) < k := by omega
    clear hr hb he h19
    go_enter Try.func41, Try.ntmps41
    go_wp2_with (go_at_call 59; refine (ContainsFunc_int 65 #[.pointer (some ⟨w.heap.size, 0, none⟩)] (fun x => decide (x < 1) || decide (2 ^ k ≤ x)) enters65 A l.length c l _ ?s1 ?s2).mono ?_; (case s1 => repeat (first | exact HR.out | refine Kd.C_alloc ?_ _)); (case s2 => refine read1_pred k (by omega) (by omega) _ _ _ ?_; simp); rw [HV.out]; rintro e w' ⟨rfl, hb'⟩; obtain ⟨hc, hf⟩ := bcell hb')
    have hz : w.heap.size + 1 < w'.heap.size := by have := hb'.size; simp at this; omega
    have hB : Below w.heap.size w w' := below_then (below_alloc (below_alloc HB.out _) _) (by simp; omega) hb'
    exact bodyPost_ret (v := .tuple #[.agg #[.int .i64 k, .slice A l.length c], .int .i64 0]) (by simp [results, Try.results41, go_sem, hc, hz]) rfl ⟨rfl, (hB.setCell (by simp) _).setCell (by simp) _⟩
end Go.Proofs.Ytbjpjjokamaliaa.A
