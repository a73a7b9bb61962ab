/- The danger of a position. -/
import Derived.Test.YtbjpjjokamaliaaB0
namespace Go.Proofs.Ytbjpjjokamaliaa.A
open Go.RowKit Go.Proofs.YtbjpjjokamaliaaW.PrintWords Go.Proofs.YtbjpjjokamaliaaW.PrintMore

/-- What a line adds to the danger. -/
def dang1 (m p d : Nat) (x : Int) : Int := if x.toNat &&& d = 0 then 2 ^ (m - pop 9 (less x.toNat p)) else 0
def dangL (m p d : Nat) : List Int → Int
  | [] => 0
  | x :: l => dang1 m p d x + dangL m p d l
theorem pow_bd {k : Nat} (h : k ≤ 9) : (0 : Int) ≤ 2 ^ k ∧ (2 : Int) ^ k ≤ 512 := by
  have h : (2 : Nat) ^ k ≤ 512 := Nat.pow_le_pow_right (n := 2) (show 0 < 2 by decide) h
  have h2 : (((2 : Nat) ^ k : Nat) : Int) ≤ ((512 : Nat) : Int) := Int.ofNat_le.2 h
  have h3 : (0 : Int) ≤ (((2 : Nat) ^ k : Nat) : Int) := Int.natCast_nonneg _
  rw [Int.natCast_pow] at h2 h3
  exact ⟨h3, h2⟩
theorem dang1_bd {m p d : Nat} (h9 : m ≤ 9) (x : Int) : 0 ≤ dang1 m p d x ∧ dang1 m p d x ≤ 512 := by
  unfold dang1
  split
  · exact pow_bd (by omega)
  · omega
theorem dangL_bd {m p d : Nat} (h9 : m ≤ 9) : ∀ l : List Int, 0 ≤ dangL m p d l ∧ dangL m p d l ≤ 512 * l.length
  | [] => by simp [dangL]
  | x :: l => by
    have h1 := dang1_bd (p := p) (d := d) h9 x
    have h2 := dangL_bd (p := p) (d := d) h9 l
    simp only [dangL, List.length_cons]
    omega
theorem dangL_snoc (m p d : Nat) (x : Int) : ∀ l : List Int, dangL m p d (l ++ [x]) = dangL m p d l + dang1 m p d x
  | [] => by simp [dangL]
  | y :: l => by simp [dangL, dangL_snoc m p d x l]; omega
theorem take_snoc' {l : List Int} {k : Nat} (h : k < l.length) : l.take (k + 1) = l.take k ++ [l.getD k 0] := by
  rw [List.take_succ_eq_append_getElem h, List.getD_eq_getElem?_getD, List.getElem?_eq_getElem h]; rfl
theorem pop_le_table : (List.range 10).all (fun m => (List.range 512).all fun x => decide (2 ^ m ≤ x) || decide (pop 9 x ≤ m)) = true := by decide +kernel
theorem pop_le {m x : Nat} (hm : m ≤ 9) (hx : x < 2 ^ m) : pop 9 x ≤ m := by
  have h1 := List.all_eq_true.1 pop_le_table m (List.mem_range.2 (by omega))
  have h2 : x < 512 := Nat.lt_of_lt_of_le hx (Nat.pow_le_pow_right (show 0 < 2 by decide) hm)
  have h3 := List.all_eq_true.1 h1 x (List.mem_range.2 h2)
  simp at h3
  omega

theorem ones_quiet (x : Nat) (hx : x < 512) (w : World) : Calls Try.prog 42 #[.int .u64 x] w fun e w' => e = .returned (.int .i64 (pop 9 x)) ∧ ∃ n, w' = w.drewN n :=
  (ones_calls x hx w).mono fun _ _ ⟨h1, h2⟩ => ⟨h1, h2.out⟩

set_option maxRecDepth 100000 in
set_option maxHeartbeats 1600000 in
theorem danger_calls (m p d : Nat) (h9 : m ≤ 9) (hp : p < 2 ^ m) (hd : d < 2 ^ m) (l : List Int) (hl : okL m l) (h12 : l.length ≤ 12) (A : Option Addr) (c : Nat) (w : World) (hr : Kd.C (Kd.int .i64) w A l.length l) :
    Calls Try.prog 44 #[.agg #[.int .i64 m, .slice A l.length c], .agg #[.int .i64 p, .int .i64 d]] w fun e w' => e = .returned (.int .i64 (dangL m p d l)) ∧ Below w.heap.size w w' := by
  have HR := Aside0.mk hr
  have HL := Aside0.mk hl
  have HP := Aside0.mk hp
  have HD := Aside0.mk hd
  clear hr hl hp hd
  have hmax : l.length ≤ 9223372036854775807 := by omega
  go_enter Try.func44, Try.ntmps44
  go_wp2
  have HW : Aside0 (Below w.heap.size w ((w.alloc (.cells #[.int .i64 m, .slice A l.length c] 61)).alloc (.cells #[.int .i64 p, .int .i64 d] 63))) := ⟨below_alloc (below_alloc (Below.refl _ _) _) _⟩
  have HC := Aside0.mk (blks2 (Below.refl _ ((w.alloc (.cells #[.int .i64 m, .slice A l.length c] 61)).alloc (.cells #[.int .i64 p, .int .i64 d] 63))))
  go_loopg [5, 7, 11] l.length (fun gg v5 _ v11 wr => ∃ k : Nat, k ≤ l.length ∧ l.length - k ≤ gg ∧ v11 = .int .i64 k ∧ v5 = .int .i64 (dangL m p d (l.take k)) ∧ Aside0 (Below w.heap.size w wr ∧ wr.heap[w.heap.size]? = some (.cells #[.int .i64 m, .slice A l.length c] 61 (0, 0)) ∧ wr.heap[w.heap.size + 1]? = some (.cells #[.int .i64 p, .int .i64 d] 63 (0, 0))))
  case atStart => exact ⟨0, Nat.zero_le _, by omega, rfl, rfl, ⟨HW.out, HC.out.1, HC.out.2⟩⟩
  case round =>
    obtain ⟨k, hk, hgg, rfl, rfl, HB⟩ := hrel
    obtain ⟨hb, hk0, hk1⟩ := HB.out
    obtain ⟨c1, c2, _, _⟩ := cells2 hk0
    obtain ⟨c3, c4, _, _⟩ := cells2 hk1
    clear hk0 hk1 HW HC
    by_cases hlt : k < l.length
    · have hltz : (k : Int) < (l.length : Int) := by omega
      obtain ⟨ad, rfl, hcell⟩ := Kd.at_int (Kd.C_below HR.out hb) (k : Int) (by omega) (by omega)
      rw [Int.toNat_natCast] at hcell
      have hrd : rd l (k : Int) = l.getD k 0 := by simp [rd]
      rw [hrd] at hcell
      obtain ⟨x1, x2⟩ := HL.out _ (getD_mem 0 hlt)
      have HT := Aside0.mk (take_snoc' hlt)
      clear hrd hb
      generalize hy : l.getD k 0 = y at hcell x1 x2 HT
      obtain ⟨q, rfl⟩ := Int.eq_ofNat_of_zero_le (show 0 ≤ y by omega)
      have hq : q < 2 ^ m := by exact_mod_cast x2
      have HQ := Aside0.mk hq
      clear hy x1 x2
      have a1 := and64 q d (lt62 hq (by omega)) (lt62 HD.out (by omega))
      have a2 := andNot64 q p (lt62 hq (by omega)) (lt62 HP.out (by omega))
      clear hq
      by_cases hz : q &&& d = 0
      · have t1 : (((q &&& d : Nat) : Int) == 0) = true := by rw [hz]; rfl
        have HZ := Aside0.mk hz
        clear hz
        have hz2 : less q p < 512 := Nat.lt_of_lt_of_le (less_lt HQ.out) (Nat.pow_le_pow_right (show 0 < 2 by decide) h9)
        have hpl := pop_le h9 (less_lt (b := p) HQ.out)
        obtain ⟨z, hz⟩ : ∃ z, less q p = z := ⟨_, rfl⟩
        rw [hz] at a2 hz2 hpl
        have HLZ := Aside0.mk hz
        clear hz
        obtain ⟨o, ho⟩ : ∃ o, pop 9 z = o := ⟨_, rfl⟩
        rw [ho] at hpl
        have HPO := Aside0.mk ho
        clear ho
        have HO := fun W => ones_quiet z hz2 W
        rw [HPO.out] at HO
        have HO' := Aside0.mk HO
        clear HO
        have u1 : IntKind.u64.wrap (z : Int) = (z : Int) := by rw [IntKind.wrap_u64]; omega
        have u2 : IntKind.i64.wrap ((m : Int) - (o : Int)) = (m : Int) - (o : Int) := by rw [IntKind.wrap_i64]; omega
        have u3 : (0 : Int) ≤ (m : Int) - (o : Int) := by omega
        go_wp2
        go_quiet (((go_at_call 42; exact Calls.quiet_of (HO'.out _))))
        go_wp2
        go_roundg (l.length - (k + 1))
        case measure => omega
        case rel =>
          refine ⟨k + 1, by omega, by omega, by go_num, ?_, ⟨pw_below_drewN HB.out.1 _, HB.out.2.1, HB.out.2.2⟩⟩
          rw [HT.out, dangL_snoc, dang1, Int.toNat_natCast, if_pos HZ.out, HLZ.out, HPO.out]
          have b1 := dangL_bd (p := p) (d := d) h9 (l.take k)
          have b2 := pow_bd (show m - o ≤ 9 by omega)
          have b3 : (l.take k).length ≤ k := List.length_take_le _ _
          rw [wrap64_two (by omega), wrap64_id (by omega) (by omega)]
      · have t1 : (((q &&& d : Nat) : Int) == 0) = false := by rw [beq_eq_false_iff_ne]; omega
        have HZ := Aside0.mk hz
        clear hz
        go_wp2
        go_roundg (l.length - (k + 1))
        case measure => omega
        case rel =>
          refine ⟨k + 1, by omega, by omega, by go_num, ?_, HB⟩
          rw [HT.out, dangL_snoc, dang1, Int.toNat_natCast, if_neg HZ.out, Int.add_zero]
    · have : k = l.length := by omega
      subst this
      go_wp2
      go_ret
      refine ⟨?_, HB.out.1⟩
      rw [List.take_length]; rfl
end Go.Proofs.Ytbjpjjokamaliaa.A
