/- Guards, as it is called. -/
import Derived.Test.YtbjpjjokamaliaaB4
namespace Go.Proofs.Ytbjpjjokamaliaa.A
open Go.RowKit Go.Proofs.YtbjpjjokamaliaaW.PrintWords Go.Proofs.YtbjpjjokamaliaaW.PrintMore

/-- The spots among the first k by which the dogs win. -/
def guardL (l : List Int) (m : Nat) : Nat → List Int
  | 0 => []
  | k + 1 => if winZ l m 0 (2 ^ k) true = 2 then guardL l m k ++ [(k : Int)] else guardL l m k
theorem guardL_len (l : List Int) (m : Nat) : ∀ k, (guardL l m k).length ≤ k
  | 0 => Nat.le_refl _
  | k + 1 => by
    have := guardL_len l m k
    rw [guardL]
    split
    · rw [List.length_append]; simp; omega
    · omega
def ambush_Guards.f (a0 : Int) (l1 : List Int) : Option (List Int × Int) :=
  some (if okF a0 l1 = 0 then (guardL l1 a0.toNat a0.toNat, 0) else ([], okF a0 l1))
theorem beq_not_bne : ∀ a b : Bool, (a == b) = (!a != b) := by decide
theorem info3A : (Try.prog.info? 3).map (fun i => (i.zero, i.size, i.bytes)) = some (some (.int .i64 0), 1, 8) := by kernel_rfl

set_option maxRecDepth 100000 in
set_option maxHeartbeats 800000 in
theorem Guards_err (m : Int) (A : Option Addr) (c : Nat) (l : List Int) (w : World) (hr : Kd.C (Kd.int .i64) w A l.length l) (he : okF m l ≠ 0) :
    Calls Try.prog 19 #[.int .i64 m, .slice A l.length c] w fun e w' => (∃ v0_ : Value, e = .returned (.tuple #[v0_, .int .i64 (okF m l)]) ∧ Kd.R (Kd.int .i64) 3 w' w.heap.size (fun _ => True) v0_ []) ∧ Below w.heap.size w w' := by
  have HR := Aside0.mk hr
  have HE := Aside0.mk he
  obtain ⟨E, hE⟩ : ∃ E, okF m l = E := ⟨_, rfl⟩
  rw [hE] at he ⊢
  have HV := Aside0.mk hE
  have hg : (E != 0) = true := by rw [bne_iff_ne]; exact he
  clear hr hE he
  go_enter Try.func19, Try.ntmps19
  go_wp2_with (go_at_call 41; refine (read_bad m A c l _ _ HR.out rfl HE.out).mono ?_; rw [HV.out]; rintro e w' ⟨rfl, hb'⟩; have HB := Aside0.mk hb'; clear hb')
  go_ret2
  exact ⟨⟨_, rfl, Kd.R_nil _ _ _ _ _⟩, below_alloc HB.out _⟩

/-- What is held while the spots are gone through. -/
structure GuaS (l : List Int) (m : Nat) (A : Option Addr) (c : Nat) (w : World) (g : Nat) (v : Value) (xs : List Int) (W : World) : Prop where
  need : NeedI l m A c w g W
  row : Kd.R (Kd.int .i64) 3 W (g + 2) (fun _ => True) v xs
  two : g + 1 < W.heap.size
theorem GuaS.nextK {l : List Int} {m : Nat} {A : Option Addr} {c : Nat} {w : World} {g : Nat} {v : Value} {xs : List Int} {W W' : World} (h : GuaS l m A c w g v xs W) (hk : Keep (g + 1) W W') (hm : Memo l m W' (g + 1)) : GuaS l m A c w g v xs W' := by
  refine ⟨h.need.nextK hk hm, ?_, Nat.lt_of_lt_of_le h.two hk.size⟩
  exact Kd.R_mono (Kd.R_step (Kd.R_bound h.row) (fun k hk2 hlt => hk.block k hlt (by have := hk2.2.1; omega))) (fun _ _ => trivial)
theorem GuaS.nextD {l : List Int} {m : Nat} {A : Option Addr} {c : Nat} {w : World} {g : Nat} {v : Value} {xs : List Int} {W W' : World} (h : GuaS l m A c w g v xs W) (hb : Below W.heap.size W W') : GuaS l m A c w g v xs W' :=
  ⟨h.need.next hb, Kd.R_below h.row hb, Nat.lt_of_lt_of_le h.two hb.size⟩
theorem GuaS.put {l : List Int} {m : Nat} {A : Option Addr} {c : Nat} {w : World} {g : Nat} {v v1 : Value} {xs ys : List Int} {W W1 : World} (h : GuaS l m A c w g v xs W) (hg : W.grownBy W1 v.ownBlock) (hr : Kd.R (Kd.int .i64) 3 W1 (g + 2) (fun _ => True) v1 ys) : GuaS l m A c w g v1 ys W1 := by
  have hb : ∀ k, k < g + 2 → W1.heap[k]? = W.heap[k]? := fun k hk => hg.block k (by have := h.two; omega) (fun e => by have := Kd.R_base h.row k e.symm; omega)
  have hbig := h.need.big
  refine ⟨⟨h.need.below.grown hg h.need.below.size (fun k hk => by have := Kd.R_base h.row k hk; omega), ?_, ?_, ?_, h.need.big⟩, hr, Nat.lt_of_lt_of_le h.two hg.size⟩
  · obtain ⟨mm, ⟨es, clock, h1, h2⟩, h3⟩ := h.need.memo
    exact ⟨mm, ⟨es, clock, (hb (g + 1) (by omega)).trans h1, h2⟩, h3⟩
  · exact (World.cell?_of_block (w := W) (hb g (by omega))).trans h.need.c0
  · exact (World.cell?_of_block (w := W) (hb g (by omega))).trans h.need.c1
/-- As a region holds it. -/
theorem gua_hold {l : List Int} {m : Nat} {A : Option Addr} {c : Nat} {w : World} {g : Nat} {v : Value} {xs : List Int} {W : World} (h : GuaS l m A c w g v xs W) :
    W.cell? ⟨g, 0, none⟩ = some (.int .i64 m) ∧ W.cell? ⟨g, 1, none⟩ = some (.slice A l.length c) ∧ Aside0 (GuaS l m A c w g v xs W) := ⟨h.need.c0, h.need.c1, ⟨h⟩⟩
theorem gua_win {l : List Int} {m : Nat} (h9 : m ≤ 9) (hl : okL m l) {A : Option Addr} {c : Nat} {w : World} {g : Nat} {v : Value} {xs : List Int} {W : World} (h : GuaS l m A c w g v xs W) (hr : Kd.C (Kd.int .i64) w A l.length l) {k : Nat} (hk : k < m) :
    Calls Try.prog 40 #[.agg #[.int .i64 m, .slice A l.length c], .agg #[.int .i64 0, .int .i64 (2 ^ k : Nat), .int .i64 1], .map (some (g + 1))] W fun e w' => e = .returned (.int .i64 (winZ l m 0 (2 ^ k) true)) ∧ GuaS l m A c w g v xs w' :=
  (winner_at h9 hl (nx := true) rfl h.need.below (by have := h.need.big; omega) hr h.need.memo (p := 0) (Nat.two_pow_pos m) (Nat.pow_lt_pow_right (by decide) hk)).mono fun _ _ ⟨h1, h2, h3⟩ => ⟨h1, h.nextK h3 h2⟩

set_option maxRecDepth 100000 in
set_option maxHeartbeats 1600000 in
theorem Guards_good (m : Nat) (A : Option Addr) (c : Nat) (l : List Int) (w : World) (hr : Kd.C (Kd.int .i64) w A l.length l) (he : okF m l = 0) :
    Calls Try.prog 19 #[.int .i64 m, .slice A l.length c] w fun e w' => (∃ v0_ : Value, e = .returned (.tuple #[v0_, .int .i64 0]) ∧ Kd.R (Kd.int .i64) 3 w' w.heap.size (fun _ => True) v0_ (guardL l m m)) ∧ Below w.heap.size w w' := by
  have HR := Aside0.mk hr
  have HE := Aside0.mk he
  have h9 : m ≤ 9 := by have := okF_m he; omega
  clear hr he
  have hmm := @run_makeMap Try.prog
  go_enter Try.func19, Try.ntmps19
  go_wp2_with (go_at_call 41; refine (read_ok m A c l _ HR.out HE.out).mono ?_; rintro e w' ⟨rfl, hb'⟩; have HB := Aside0.mk hb'; clear hb')
  have HI : Aside0 (GuaS l m A c w w'.heap.size (.slice none 0 0) [] ((w'.alloc (.cells #[.int .i64 m, .slice A l.length c] 61)).alloc (.map #[] 0))) := by
    have h0 : ((w'.alloc (.cells #[.int .i64 m, .slice A l.length c] 61)).alloc (.map #[] 0)).heap[w'.heap.size]? = some (.cells #[.int .i64 m, .slice A l.length c] 61 (0, 0)) := (blks2 (Below.refl _ _)).1
    exact ⟨⟨⟨below_alloc (below_alloc HB.out _) _, Memo.new _ (by simp), (cells2 h0).1, (cells2 h0).2.1, HB.out.size⟩, Kd.R_nil _ _ _ _ _, by simp⟩⟩
  generalize hg : w'.heap.size = g at HI
  go_loopg [9, 10, 22] m (fun gg v9 _ v22 wr => ∃ (k : Nat) (v : Value), k ≤ m ∧ m - k ≤ gg ∧ v22 = .int .i64 k ∧ v9 = v ∧ Aside0 (GuaS l m A c w g v (guardL l m k) wr))
  case atStart => exact ⟨0, _, Nat.zero_le _, by omega, rfl, rfl, HI⟩
  case round =>
    clear HI HB
    clear hg
    obtain ⟨k, v, hk, hgg, rfl, rfl, HI⟩ := hrel
    obtain ⟨A2, c2, hv2, hc2, _⟩ := Kd.R_reads HI.out.row
    subst hv2
    by_cases hlt : k < m
    · have hltz : (k : Int) < (m : Int) := by omega
      have EP : Aside0 ((2 : Int) ^ k = ((2 ^ k : Nat) : Int)) := ⟨by rw [Int.natCast_pow]; rfl⟩
      have e1 : IntKind.i64.wrap (2 ^ k) = (2 : Int) ^ k := by
        have h2 := two_pow_pos' k
        have h3 := two_pow_le (show k ≤ 61 by omega)
        rw [wrap64_nat _ (by omega) (by omega)]
      have c0 := HI.out.need.c0
      have c1 := HI.out.need.c1
      obtain ⟨n2, hn2⟩ : ∃ n2, (guardL l m k).length = n2 := ⟨_, rfl⟩
      have HN := Aside0.mk hn2
      rw [hn2] at HI ⊢
      clear hn2
      go_wp2_with fail
      go_region_held3 (fun w' => w'.cell? ⟨g, 0, none⟩ = some (.int .i64 m) ∧ w'.cell? ⟨g, 1, none⟩ = some (.slice A l.length c) ∧ Aside0 (GuaS l m A c w g (.slice A2 n2 c2) (guardL l m k) w')) (first | exact gua_hold (HI.out.nextD (below_drew (Below.refl _ _))) | exact gua_hold hb3) (first | (go_at_call 40; rw [EP.out]; refine (gua_win h9 (okF_L HE.out) (by assumption : _ ∧ _ ∧ Aside0 (GuaS _ _ _ _ _ _ _ _ _)).2.2.out HR.out hlt).mono ?_; rintro e w3 ⟨rfl, hb3⟩))
      all_goals
        have HB3 := Aside0.mk hb3
        have hwb : (∃ z : Int, winZ l m 0 (2 ^ k) true = z) := ⟨_, rfl⟩
        obtain ⟨z, hz⟩ := hwb
        have HZ := Aside0.mk hz
        rw [hz]
        clear hz hb3 c0 c1 EP e1
        by_cases h2 : z = 2
        · subst h2
          have hn9 : n2 ≤ 9 := by have := guardL_len l m k; rw [HN.out] at this; omega
          go_wp2_with (at_builtin; refine Kd.R_append (Kd.int .i64) (w0 := w3) (g + 2) rfl (.tmp 33) (.tmp 35) 22 3 (.int .i64 0) 8 rfl Try.underlying22 info3A rfl (by decide) (by omega) (.slice A2 n2 c2) (guardL l m k) (k : Int) [.int .i64 (k : Int)] (fun _ => True) (fun _ => False) rfl rfl rfl (fun _ hk => hk.elim) (fun _ _ => trivial) HB3.out.row (Below.refl _ _) (by have := HB3.out.two; omega) (by rw [HN.out]; omega) ?_; intro v4 w4 ho hbb hg4 hat; have HA := Aside0.mk (HB3.out.put hg4 ho); clear ho hbb hg4 hat)
          go_roundg (m - (k + 1))
          case measure => omega
          case rel =>
            refine ⟨k + 1, _, by omega, by omega, by go_num, rfl, ?_⟩
            rw [guardL, if_pos HZ.out]
            exact HA
        · go_wp2_with fail
          go_roundg (m - (k + 1))
          case measure => omega
          case rel =>
            refine ⟨k + 1, _, by omega, by omega, by go_num, rfl, ?_⟩
            rw [guardL, if_neg (by rw [HZ.out]; exact h2)]
            exact HB3
    · have hltz : ¬ (k : Int) < (m : Int) := by omega
      have HK := Aside0.mk (show k = m by omega)
      clear hlt
      go_wp2_with fail
      go_ret2
      have hkm := HK.out
      subst hkm
      exact ⟨⟨_, rfl, Kd.R_lower HI.out.row (by have := HI.out.need.big; omega)⟩, HI.out.need.below⟩

theorem ambush_Guards.calls (a0 : Int) (A1 : Option Addr) (c1 : Nat) (l1 : List Int) (r1 : List Int) (r2 : Int) (w : World) (hr1 : Kd.C (Kd.int .i64) w A1 l1.length l1) (_hc1 : l1.length ≤ c1) (h : ambush_Guards.f a0 l1 = some (r1, r2)) :
    Calls Try.prog 19 #[.int .i64 a0, .slice A1 l1.length c1] w fun e w' => ∃ v0_ : Value, e = .returned (.tuple #[v0_, .int .i64 r2]) ∧ Kd.R (Kd.int .i64) 3 w' w.heap.size (fun _ => True) v0_ r1 ∧ Below w.heap.size w w' := by
  unfold ambush_Guards.f at h
  by_cases h0 : okF a0 l1 = 0
  · rw [if_pos h0] at h
    have h1 := (okF_m h0).1
    obtain ⟨m, rfl⟩ : ∃ m : Nat, a0 = m := ⟨a0.toNat, by omega⟩
    cases h
    exact (Guards_good m A1 c1 l1 w hr1 h0).mono fun _ _ ⟨⟨v, e, hR⟩, hB⟩ => ⟨v, e, hR, hB⟩
  · rw [if_neg h0] at h
    cases h
    exact (Guards_err a0 A1 c1 l1 w hr1 h0).mono fun _ _ ⟨⟨v, e, hR⟩, hB⟩ => ⟨v, e, hR, hB⟩
end Go.Proofs.Ytbjpjjokamaliaa.A
