/- Who wins: the walk of the program's recursion. -/
import Derived.Test.YtbjpjjokamaliaaA7
import Derived.Test.YtbjpjjokamaliaaH0
namespace Go.Proofs.Ytbjpjjokamaliaa.A
open Go.RowKit Go.Proofs.YtbjpjjokamaliaaW.PrintWords Go.Proofs.YtbjpjjokamaliaaW.PrintMore

def WinSaid (l : List Int) (m : Nat) (A : Option Addr) (c b n : Nat) : Prop :=
  ∀ (p d : Nat) (nx : Bool) (w : World), cntF m p.testBit d.testBit < n → p < 2 ^ m → d < 2 ^ m → (∀ W, Keep b w W → Kd.C (Kd.int .i64) W A l.length l) → Memo l m w b →
    Calls Try.prog 40 #[.agg #[.int .i64 m, .slice A l.length c], .agg #[.int .i64 p, .int .i64 d, .int .i64 (who nx)], .map (some b)] w fun e w' => e = .returned (.int .i64 (winZ l m p d nx)) ∧ Memo l m w' b ∧ Keep b w w'

theorem Memo.lt {l : List Int} {m : Nat} {w : World} {b : Nat} (h : Memo l m w b) : b < w.heap.size := by
  obtain ⟨mm, ⟨es, clock, h1, h2⟩, h3⟩ := h
  exact (Array.getElem?_eq_some_iff.1 h1).1

theorem held_start {l : List Int} {m p d b : Nat} {nx : Int} {A : Option Addr} {c : Nat} {w : World} (hm : Memo l m w b) :
    let W := (w.alloc (.cells #[.int .i64 m, .slice A l.length c] 61)).alloc (.cells #[.int .i64 p, .int .i64 d, .int .i64 nx] 65)
    let g := w.heap.size
    W.cell? ⟨g, 0, none⟩ = some (.int .i64 m) ∧ W.cell? ⟨g, 1, none⟩ = some (.slice A l.length c) ∧ W.cell? ⟨g + 1, 0, none⟩ = some (.int .i64 p) ∧ W.cell? ⟨g + 1, 1, none⟩ = some (.int .i64 d) ∧ W.cell? ⟨g + 1, 2, none⟩ = some (.int .i64 nx) ∧ Aside0 (WInv l m b w W g) := by
  intro W g
  have hb : Below w.heap.size w W := below_alloc (below_alloc (Below.refl _ _) _) _
  have hk0 : W.heap[g]? = some (.cells #[.int .i64 m, .slice A l.length c] 61 (0, 0)) := (blks2 (Below.refl _ W)).1
  have hk1 : W.heap[g + 1]? = some (.cells #[.int .i64 p, .int .i64 d, .int .i64 nx] 65 (0, 0)) := (blks2 (Below.refl _ W)).2
  obtain ⟨a1, a2, _, _⟩ := cells2 hk0
  obtain ⟨b1, b2, b3, _, _, _⟩ := cells3 hk1
  exact ⟨a1, a2, b1, b2, b3, ⟨⟨Keep.of_below hb, hm.keep hb, by show g + 1 < W.heap.size; simp [W, g], hm.lt⟩⟩⟩

theorem winZ_has {l : List Int} {m p d : Nat} {nx : Bool} (h : hasL l m p.testBit = true) : winZ l m p d nx = 1 := by
  unfold winZ
  cases nx
  · rw [wins_d, h]; rfl
  · rw [wins_w, h]; rfl
theorem winZ_full {l : List Int} {m p d : Nat} {nx : Bool} (h : hasL l m p.testBit = false) (hf : less (2 ^ m - 1) (p ||| d) = 0) : winZ l m p d nx = 2 := by
  have hf := free_zero.1 hf
  unfold winZ
  cases nx
  · rw [wins_d, h, hf]; rfl
  · rw [wins_w, h]
    have : ((List.range m).any fun i => fr p.testBit d.testBit i && wins l m (up p.testBit i) d.testBit false) = false := by
      rw [List.any_eq_false] at hf ⊢
      intro i hi
      simp [hf i hi]
    rw [this]; rfl

theorem free_bit {m p d F k : Nat} (hF : less (2 ^ m - 1) (p ||| d) = F) (hk : k < m) (hm : m ≤ 9) : (bits .and .i64 ((F : Int) / 2 ^ k) 1 == 1) = fr p.testBit d.testBit k := by
  have hlt : F < 2 ^ 62 := by
    rw [← hF]
    exact lt62 (less_lt (Nat.sub_lt (Nat.two_pow_pos m) (by decide))) (by omega)
  rw [bit_ask hlt, ← tb_free hk, hF]
  cases F.testBit k <;> rfl

/-- Who wins behind a move. -/
def aftZ (l : List Int) (m p d : Nat) (nx : Bool) (i : Nat) : Int := if nx then winZ l m (p ||| 2 ^ i) d false else winZ l m p (d ||| 2 ^ i) true

def pW (nx : Bool) (p k : Nat) : Nat := if nx then p ||| 2 ^ k else p
def dD (nx : Bool) (d k : Nat) : Nat := if nx then d else d ||| 2 ^ k
theorem after_any (nx : Bool) (x : Int) (hx : who nx = x) (p d i : Nat) (hp : p < 2 ^ 9) (hd : d < 2 ^ 9) (hi : i < 9) (w : World) :
    Calls Try.prog 47 #[.agg #[.int .i64 p, .int .i64 d], .int .i64 x, .int .i64 i] w fun e w' => e = .returned (.agg #[.int .i64 (pW nx p i), .int .i64 (dD nx d i)]) ∧ Below w.heap.size w w' := by
  subst hx
  cases nx
  · exact after_d p d i hd hi w
  · exact after_w p d i hp hi w
theorem other_any (nx : Bool) (x : Int) (hx : who nx = x) (w : World) : Calls Try.prog 64 #[.int .i64 x] w fun e w' => e = .returned (.int .i64 (who (!nx))) ∧ w = w' := by
  subst hx
  have h := other_calls (who nx) w (who_12 nx)
  have e : 3 - who nx = who (!nx) := by cases nx <;> rfl
  rw [e] at h
  exact h
theorem pow9 {p m : Nat} (h : p < 2 ^ m) (hm : m ≤ 9) : p < 2 ^ 9 := Nat.lt_of_lt_of_le h (Nat.pow_le_pow_right (by decide) hm)
theorem pW_lt {nx : Bool} {p k m : Nat} (h : p < 2 ^ m) (hk : k < m) : pW nx p k < 2 ^ m := by
  unfold pW; split
  · exact or_lt h (Nat.pow_lt_pow_right (by decide) hk)
  · exact h
theorem dD_lt {nx : Bool} {d k m : Nat} (h : d < 2 ^ m) (hk : k < m) : dD nx d k < 2 ^ m := by
  unfold dD; split
  · exact h
  · exact or_lt h (Nat.pow_lt_pow_right (by decide) hk)
theorem cnt_pd {nx : Bool} {p d k m : Nat} (hk : k < m) (hf : fr p.testBit d.testBit k = true) : cntF m (pW nx p k).testBit (dD nx d k).testBit < cntF m p.testBit d.testBit := by
  unfold pW dD
  cases nx
  · simp only [Bool.false_eq_true, if_false]; rw [tb_up]; exact cnt_upD hk hf
  · simp only [if_true]; rw [tb_up]; exact cnt_upW hk hf
theorem aft_eq (l : List Int) (m p d : Nat) (nx : Bool) (k : Nat) : winZ l m (pW nx p k) (dD nx d k) (!nx) = aftZ l m p d nx k := by
  unfold aftZ pW dD; cases nx <;> rfl

theorem winZ_hit {l : List Int} {m p d : Nat} {nx : Bool} {k : Nat} (hw : hasL l m p.testBit = false) (hk : k < m) (hf : fr p.testBit d.testBit k = true) (h : aftZ l m p d nx k = who nx) : winZ l m p d nx = who nx := by
  unfold winZ
  cases nx
  · have h1 : wins l m p.testBit (up d.testBit k) true = false := by
      unfold aftZ winZ at h
      simp only [Bool.false_eq_true, if_false] at h
      have := who_inj h
      rwa [tb_up] at this
    have h2 : wins l m p.testBit d.testBit false = false := by
      rw [wins_d, hw, Bool.false_or, Bool.and_eq_false_iff]
      right
      rw [List.all_eq_false]
      exact ⟨k, List.mem_range.2 hk, by rw [hf, h1]; simp⟩
    rw [h2]
  · have h1 : wins l m (up p.testBit k) d.testBit false = true := by
      unfold aftZ winZ at h
      simp only [if_true] at h
      have := who_inj h
      rwa [tb_up] at this
    have h2 : wins l m p.testBit d.testBit true = true := by
      rw [wins_w, hw, Bool.false_or, List.any_eq_true]
      exact ⟨k, List.mem_range.2 hk, by rw [hf, h1]; rfl⟩
    rw [h2]
theorem aft_two (l : List Int) (m p d : Nat) (nx : Bool) (k : Nat) (h : aftZ l m p d nx k ≠ who nx) : aftZ l m p d nx k = 3 - who nx := by
  rw [← aft_eq] at h ⊢
  unfold winZ at h ⊢
  have := who_12 (wins l m (pW nx p k).testBit (dD nx d k).testBit (!nx))
  have := who_12 nx
  omega
theorem winZ_miss {l : List Int} {m p d : Nat} {nx : Bool} (hw : hasL l m p.testBit = false) (hF : less (2 ^ m - 1) (p ||| d) ≠ 0) (h : ∀ i, i < m → fr p.testBit d.testBit i = true → aftZ l m p d nx i ≠ who nx) : winZ l m p d nx = 3 - who nx := by
  have hne : (List.range m).any (fr p.testBit d.testBit) = true := by
    cases hq : (List.range m).any (fr p.testBit d.testBit) with
    | true => rfl
    | false => exact absurd (free_zero.2 hq) hF
  unfold winZ
  cases nx
  · have h2 : wins l m p.testBit d.testBit false = true := by
      rw [wins_d, hw, hne, Bool.false_or, Bool.true_and, List.all_eq_true]
      intro i hi
      cases hf : fr p.testBit d.testBit i with
      | false => rfl
      | true =>
        have := aft_two l m p d false i (h i (List.mem_range.1 hi) hf)
        unfold aftZ winZ at this
        simp only [Bool.false_eq_true, if_false] at this
        have := who_inj (b := true) this
        rw [tb_up] at this
        rw [this]; rfl
    rw [h2]; rfl
  · have h2 : wins l m p.testBit d.testBit true = false := by
      rw [wins_w, hw, Bool.false_or, List.any_eq_false]
      intro i hi
      cases hf : fr p.testBit d.testBit i with
      | false => simp
      | true =>
        have := aft_two l m p d true i (h i (List.mem_range.1 hi) hf)
        unfold aftZ winZ at this
        simp only [if_true] at this
        have := who_inj (b := false) this
        rw [tb_up] at this
        rw [this]; simp
    rw [h2]; rfl

/-- One call of the recursion, where what is held is held. -/
theorem win_call {l : List Int} {m : Nat} {A : Option Addr} {c b n : Nat} (ih : WinSaid l m A c b n) {p d k g : Nat} {nx : Bool} {x : Int} {w W : World} (hx : who nx = x) (hn : cntF m p.testBit d.testBit < n + 1) (hp : p < 2 ^ m) (hd : d < 2 ^ m) (hk : k < m) (hf : fr p.testBit d.testBit k = true)
    (hr : ∀ W, Keep b w W → Kd.C (Kd.int .i64) W A l.length l) (hw : WInv l m b w W g) :
    Calls Try.prog 40 #[.agg #[.int .i64 m, .slice A l.length c], .agg #[.int .i64 (pW nx p k), .int .i64 (dD nx d k), .int .i64 (who (!nx))], .map (some b)] W fun e w' => e = .returned (.int .i64 (aftZ l m p d nx k)) ∧ Memo l m w' b ∧ Keep b W w' := by
  have h := ih (pW nx p k) (dD nx d k) (!nx) W (by have := cnt_pd (nx := nx) hk hf; omega) (pW_lt hp hk) (dD_lt hd hk) (fun W' hW' => hr W' (hw.keep.trans hW')) hw.memo
  rw [aft_eq] at h
  exact h

set_option maxRecDepth 100000 in
set_option maxHeartbeats 1600000 in
theorem winner_step (l : List Int) (m : Nat) (h9 : m ≤ 9) (hl : okL m l) (A : Option Addr) (c b n : Nat) (ih : WinSaid l m A c b n) : WinSaid l m A c b (n + 1) := by
  intro p d nx w hn hp hd hr hm
  have HI := Aside0.mk ih
  have HL := Aside0.mk hl
  have HN := Aside0.mk hn
  have HP := Aside0.mk hp
  have HD := Aside0.mk hd
  have HR := Aside0.mk hr
  have HM := Aside0.mk hm
  obtain ⟨z, hz⟩ : ∃ z, winZ l m p d nx = z := ⟨_, rfl⟩
  have HZ := Aside0.mk hz
  have HS := Aside0.mk (held_start (p := p) (d := d) (nx := who nx) (A := A) (c := c) hm)
  rw [hz]
  obtain ⟨x, hx⟩ : ∃ x, who nx = x := ⟨_, rfl⟩
  have HX := Aside0.mk hx
  rw [hx] at HS ⊢
  clear ih hl hn hp hd hr hm hz hx
  go_enter Try.func40, Try.ntmps40
  go_wp2_with fail
  refine (won_calls m p d h9 HP.out l HL.out A l.length c _ (HR.out _ HS.out.2.2.2.2.2.out.keep)).mono ?_
  rintro e w1 ⟨rfl, hb1⟩
  have HS1 := Aside0.mk (held_below HS.out hb1)
  clear HS hb1
  obtain ⟨c1, c2, c3, c4, c5, -⟩ := HS1.out
  cases hw : hasL l m p.testBit with
  | true =>
    have HW := Aside0.mk hw
    clear hw
    go_wp2_with fail
    go_ret
    exact ⟨by rw [← HZ.out, winZ_has HW.out]; rfl, HS1.out.2.2.2.2.2.out.memo, HS1.out.2.2.2.2.2.out.keep⟩
  | false =>
    have HW := Aside0.mk hw
    clear hw
    go_wp2_with fail
    refine (free_calls m p d h9 HP.out HD.out A l.length c _).mono ?_
    rintro e w2 ⟨rfl, hb2⟩
    have HS2 := Aside0.mk (held_below HS1.out hb2)
    clear HS1 hb2 c1 c2 c3 c4 c5
    obtain ⟨c1, c2, c3, c4, c5, -⟩ := HS2.out
    obtain ⟨F, hF⟩ : ∃ F, less (2 ^ m - 1) (p ||| d) = F := ⟨_, rfl⟩
    have HF := Aside0.mk hF
    rw [hF]
    clear hF
    by_cases hF0 : F = 0
    · have t1 : ((F : Int) == 0) = true := by rw [hF0]; rfl
      have HF0 := Aside0.mk hF0
      clear hF0
      go_wp2_with fail
      go_ret
      exact ⟨by rw [← HZ.out, winZ_full HW.out (HF.out.trans HF0.out)]; rfl, HS2.out.2.2.2.2.2.out.memo, HS2.out.2.2.2.2.2.out.keep⟩
    · have t1 : ((F : Int) == 0) = false := by rw [beq_eq_false_iff_ne]; omega
      have HF1 := Aside0.mk hF0
      clear hF0
      obtain ⟨v, hlk, hv⟩ := HS2.out.2.2.2.2.2.out.memo.look p d nx
      rw [HX.out] at hlk
      have HV := Aside0.mk hv
      clear hv
      by_cases hv0 : v = 0
      · subst hv0
        clear HV
        go_wp2_with fail
        refine (other_calls x _ (by rw [← HX.out]; exact who_12 nx)).mono ?_
        rintro e w3 ⟨rfl, rfl⟩
        clear hlk
        go_wp2_with fail
        go_loopg [8, 9, 30] m (fun gg v8 _ v30 wr => ∃ k : Nat, k ≤ m ∧ m - k ≤ gg ∧ v30 = .int .i64 k ∧ v8 = .int .i64 (3 - x) ∧ Aside0 (wr.cell? ⟨w.heap.size, 0, none⟩ = some (.int .i64 m) ∧ wr.cell? ⟨w.heap.size, 1, none⟩ = some (.slice A l.length c) ∧ wr.cell? ⟨w.heap.size + 1, 0, none⟩ = some (.int .i64 p) ∧ wr.cell? ⟨w.heap.size + 1, 1, none⟩ = some (.int .i64 d) ∧ wr.cell? ⟨w.heap.size + 1, 2, none⟩ = some (.int .i64 x) ∧ Aside0 (WInv l m b w wr w.heap.size)) ∧ Aside0 (∀ i, i < k → fr p.testBit d.testBit i = true → aftZ l m p d nx i ≠ x))
        case atStart => exact ⟨0, Nat.zero_le _, by omega, rfl, rfl, HS2, ⟨fun i hi => absurd hi (Nat.not_lt_zero _)⟩⟩
        case round =>
          clear HS2 c1 c2 c3 c4 c5
          obtain ⟨k, hk, hgg, rfl, rfl, HSr, HNo⟩ := hrel
          obtain ⟨c1, c2, c3, c4, c5, c6⟩ := HSr.out
          by_cases hlt : k < m
          · have hltz : (k : Int) < (m : Int) := by omega
            cases hfb : fr p.testBit d.testBit k with
            | false =>
              have HFB := Aside0.mk hfb
              have hgd := free_bit HF.out hlt h9
              rw [hfb] at hgd
              clear hfb
              go_wp2_with fail
              refine wp_region_noPanic ?_
              refine wp_region_held_drew (S := (fun w' => w'.cell? ⟨w.heap.size, 0, none⟩ = some (.int .i64 m) ∧ w'.cell? ⟨w.heap.size, 1, none⟩ = some (.slice A l.length c) ∧ w'.cell? ⟨w.heap.size + 1, 0, none⟩ = some (.int .i64 p) ∧ w'.cell? ⟨w.heap.size + 1, 1, none⟩ = some (.int .i64 d) ∧ w'.cell? ⟨w.heap.size + 1, 2, none⟩ = some (.int .i64 x) ∧ Aside0 (WInv l m b w w' w.heap.size))) (by kernel_rfl) (held_below HSr.out (below_drew (Below.refl _ _))) (fun hHeld => ?_)
              refine H_on 0 33 ?vf0 rfl rfl (by kernel_rfl) (by kernel_rfl) (by kernel_rfl) (by rfl) ?hf0 hHeld ?rf0
              case hf0 => (intro w hSw; (try dsimp only at hSw); go_simp <;> with_reducible rfl)
              simp only [Act.put, List.setIfInBounds_toArray, List.set_cons_zero, List.set_cons_succ]
              refine H_on 1 34 ?vf1 rfl rfl (by kernel_rfl) (by kernel_rfl) (by kernel_rfl) (by rfl) ?hf1 hHeld ?rf1
              case hf1 => (intro w hSw; (try dsimp only at hSw); go_simp <;> with_reducible rfl)
              simp only [Act.put, List.setIfInBounds_toArray, List.set_cons_zero, List.set_cons_succ]
              refine H_on 2 35 ?vf2 rfl rfl (by kernel_rfl) (by kernel_rfl) (by kernel_rfl) (by rfl) ?hf2 hHeld ?rf2
              case hf2 => (intro w hSw; (try dsimp only at hSw); go_simp <;> with_reducible rfl)
              simp only [Act.put, List.setIfInBounds_toArray, List.set_cons_zero, List.set_cons_succ]
              refine H_on 4 37 ?vf4 rfl rfl (by kernel_rfl) (by kernel_rfl) (by kernel_rfl) (by rfl) ?hf4 hHeld ?rf4
              case hf4 => (intro w hSw; (try dsimp only at hSw); go_simp <;> with_reducible rfl)
              simp only [Act.put, List.setIfInBounds_toArray, List.set_cons_zero, List.set_cons_succ]
              refine wpAnyH_ready (rs := [3]) (by kernel_rfl) (by simp) ?_
              refine AllReadyH.cons rfl (fun K hK => ?_) AllReadyH.nil
              go_simp
              (refine (free_calls m p d h9 HP.out HD.out A l.length c _).mono ?_; rw [HF.out]; rintro e w2 ⟨rfl, hb2⟩)
              go_wp2_with fail
              refine hK.out _ _ (held_below hHeld hb2) (fun hHeld => ?_)
              clear hK K
              try simp only [Act.put, List.setIfInBounds_toArray, List.set_cons_zero, List.set_cons_succ]
              refine H_on 5 38 ?vf5 rfl rfl (by kernel_rfl) (by kernel_rfl) (by kernel_rfl) (by rfl) ?hf5 hHeld ?rf5
              case hf5 => (intro w hSw; (try dsimp only at hSw); go_simp <;> with_reducible rfl)
              simp only [Act.put, List.setIfInBounds_toArray, List.set_cons_zero, List.set_cons_succ]
              refine H_on 6 39 ?vf6 rfl rfl (by kernel_rfl) (by kernel_rfl) (by kernel_rfl) (by rfl) ?hf6 hHeld ?rf6
              case hf6 => (intro w hSw; (try dsimp only at hSw); go_simp <;> with_reducible rfl)
              simp only [Act.put, List.setIfInBounds_toArray, List.set_cons_zero, List.set_cons_succ]
              refine H_on 7 40 ?vf7 rfl rfl (by kernel_rfl) (by kernel_rfl) (by kernel_rfl) (by rfl) ?hf7 hHeld ?rf7
              case hf7 => (intro w hSw; (try dsimp only at hSw); go_simp <;> with_reducible rfl)
              simp only [Act.put, List.setIfInBounds_toArray, List.set_cons_zero, List.set_cons_succ]
              refine H_on 8 41 ?vf8 rfl rfl (by kernel_rfl) (by kernel_rfl) (by kernel_rfl) (by rfl) ?hf8 hHeld ?rf8
              case hf8 => (intro w hSw; (try dsimp only at hSw); go_simp <;> with_reducible rfl)
              simp only [Act.put, List.setIfInBounds_toArray, List.set_cons_zero, List.set_cons_succ]
              refine H_off 9 42 rfl rfl (by kernel_rfl) (by kernel_rfl) (by kernel_rfl) (by rfl) hHeld ?_
              simp only [Act.put, List.setIfInBounds_toArray, List.set_cons_zero, List.set_cons_succ]
              refine H_off 10 43 rfl rfl (by kernel_rfl) (by kernel_rfl) (by kernel_rfl) (by rfl) hHeld ?_
              simp only [Act.put, List.setIfInBounds_toArray, List.set_cons_zero, List.set_cons_succ]
              refine H_off 11 44 rfl rfl (by kernel_rfl) (by kernel_rfl) (by kernel_rfl) (by rfl) hHeld ?_
              simp only [Act.put, List.setIfInBounds_toArray, List.set_cons_zero, List.set_cons_succ]
              refine H_off 12 45 rfl rfl (by kernel_rfl) (by kernel_rfl) (by kernel_rfl) (by rfl) hHeld ?_
              simp only [Act.put, List.setIfInBounds_toArray, List.set_cons_zero, List.set_cons_succ]
              refine H_off 13 46 rfl rfl (by kernel_rfl) (by kernel_rfl) (by kernel_rfl) (by rfl) hHeld ?_
              simp only [Act.put, List.setIfInBounds_toArray, List.set_cons_zero, List.set_cons_succ]
              refine H_off 14 47 rfl rfl (by kernel_rfl) (by kernel_rfl) (by kernel_rfl) (by rfl) hHeld ?_
              simp only [Act.put, List.setIfInBounds_toArray, List.set_cons_zero, List.set_cons_succ]
              refine H_off 15 48 rfl rfl (by kernel_rfl) (by kernel_rfl) (by kernel_rfl) (by rfl) hHeld ?_
              simp only [Act.put, List.setIfInBounds_toArray, List.set_cons_zero, List.set_cons_succ]
              refine H_off 16 49 rfl rfl (by kernel_rfl) (by kernel_rfl) (by kernel_rfl) (by rfl) hHeld ?_
              simp only [Act.put, List.setIfInBounds_toArray, List.set_cons_zero, List.set_cons_succ]
              refine H_off 17 50 rfl rfl (by kernel_rfl) (by kernel_rfl) (by kernel_rfl) (by rfl) hHeld ?_
              simp only [Act.put, List.setIfInBounds_toArray, List.set_cons_zero, List.set_cons_succ]
              refine H_off 18 51 rfl rfl (by kernel_rfl) (by kernel_rfl) (by kernel_rfl) (by rfl) hHeld ?_
              simp only [Act.put, List.setIfInBounds_toArray, List.set_cons_zero, List.set_cons_succ]
              refine H_off 19 52 rfl rfl (by kernel_rfl) (by kernel_rfl) (by kernel_rfl) (by rfl) hHeld ?_
              simp only [Act.put, List.setIfInBounds_toArray, List.set_cons_zero, List.set_cons_succ]
              refine H_off 20 53 rfl rfl (by kernel_rfl) (by kernel_rfl) (by kernel_rfl) (by rfl) hHeld ?_
              simp only [Act.put, List.setIfInBounds_toArray, List.set_cons_zero, List.set_cons_succ]
              refine H_off 21 54 rfl rfl (by kernel_rfl) (by kernel_rfl) (by kernel_rfl) (by rfl) hHeld ?_
              simp only [Act.put, List.setIfInBounds_toArray, List.set_cons_zero, List.set_cons_succ]
              refine H_off 22 55 rfl rfl (by kernel_rfl) (by kernel_rfl) (by kernel_rfl) (by rfl) hHeld ?_
              simp only [Act.put, List.setIfInBounds_toArray, List.set_cons_zero, List.set_cons_succ]
              refine H_off 23 56 rfl rfl (by kernel_rfl) (by kernel_rfl) (by kernel_rfl) (by rfl) hHeld ?_
              simp only [Act.put, List.setIfInBounds_toArray, List.set_cons_zero, List.set_cons_succ]
              refine H_off 24 57 rfl rfl (by kernel_rfl) (by kernel_rfl) (by kernel_rfl) (by rfl) hHeld ?_
              simp only [Act.put, List.setIfInBounds_toArray, List.set_cons_zero, List.set_cons_succ]
              refine H_on 25 58 ?vf25 rfl rfl (by kernel_rfl) (by kernel_rfl) (by kernel_rfl) (by rfl) ?hf25 hHeld ?rf25
              case hf25 => (intro w hSw; (try dsimp only at hSw); go_simp <;> with_reducible rfl)
              simp only [Act.put, List.setIfInBounds_toArray, List.set_cons_zero, List.set_cons_succ]
              refine wpAnyH_done (by kernel_rfl) ?_ _
              refine NoPanic.normal ?_
              go_wp2_with fail
              go_roundg (m - (k + 1))
              case measure => omega
              case rel =>
                refine ⟨k + 1, by omega, by omega, by go_num, rfl, ⟨by assumption⟩, ⟨fun i hi hfi => ?_⟩⟩
                by_cases e : i = k
                · subst e; rw [HFB.out] at hfi; cases hfi
                · exact HNo.out i (by omega) hfi
            | true =>
              have HFB := Aside0.mk hfb
              have hgd := free_bit HF.out hlt h9
              rw [hfb] at hgd
              clear hfb
              go_wp2_with fail
              go_region_held3 (fun w' => w'.cell? ⟨w.heap.size, 0, none⟩ = some (.int .i64 m) ∧ w'.cell? ⟨w.heap.size, 1, none⟩ = some (.slice A l.length c) ∧ w'.cell? ⟨w.heap.size + 1, 0, none⟩ = some (.int .i64 p) ∧ w'.cell? ⟨w.heap.size + 1, 1, none⟩ = some (.int .i64 d) ∧ w'.cell? ⟨w.heap.size + 1, 2, none⟩ = some (.int .i64 x) ∧ Aside0 (WInv l m b w w' w.heap.size)) (first | exact held_below HSr.out (below_drew (Below.refl _ _)) | exact held_below (by assumption) hb2 | exact held_below (by assumption) (Below.refl _ _) | exact held_keep (by assumption) hk2 hm2) (first | (go_at_call 46; refine (free_calls m p d h9 HP.out HD.out A l.length c _).mono ?_; rw [HF.out]; rintro e w2 ⟨rfl, hb2⟩) | (go_at_call 47; refine (after_any nx x HX.out p d k (pow9 HP.out h9) (pow9 HD.out h9) (by omega) _).mono ?_; rintro e w2 ⟨rfl, hb2⟩) | (go_at_call 64; refine (other_any nx x HX.out _).mono ?_; rintro e w2 ⟨rfl, rfl⟩) | (go_at_call 40; refine (win_call HI.out HX.out HN.out HP.out HD.out hlt HFB.out HR.out (by assumption : _ ∧ _ ∧ _ ∧ _ ∧ _ ∧ Aside0 (WInv _ _ _ _ _ _)).2.2.2.2.2.out).mono ?_; rintro e w2 ⟨rfl, hm2, hk2⟩))
              all_goals
                have HH := Aside0.mk (show _ ∧ _ ∧ _ ∧ _ ∧ _ ∧ Aside0 (WInv l m b w w2 w.heap.size) by assumption)
                have e1 := HH.out.1
                have e2 := HH.out.2.1
                have e3 := HH.out.2.2.1
                have e4 := HH.out.2.2.2.1
                have e5 := HH.out.2.2.2.2.1
                by_cases hax : aftZ l m p d nx k = x
                · have hwz : x = winZ l m p d nx := by rw [winZ_hit HW.out hlt HFB.out (hax.trans HX.out.symm)]; exact HX.out.symm
                  obtain ⟨w4, hst, hm4, hk4⟩ := HH.out.2.2.2.2.2.out.memo.store p d nx x hwz
                  rw [HX.out] at hst
                  have HK4 := Aside0.mk (held_keep HH.out hk4 hm4)
                  have HWZ := Aside0.mk hwz
                  have hab : (aftZ l m p d nx k == x) = true := beq_iff_eq.2 hax
                  clear hwz hax hm4 hk4
                  go_wp2_with fail
                  go_ret
                  exact ⟨by rw [← HZ.out, ← HWZ.out]; rfl, HK4.out.2.2.2.2.2.out.memo, HK4.out.2.2.2.2.2.out.keep⟩
                · have hab : (aftZ l m p d nx k == x) = false := beq_eq_false_iff_ne.2 hax
                  have HAX := Aside0.mk hax
                  clear hax
                  go_wp2_with fail
                  go_roundg (m - (k + 1))
                  case measure => omega
                  case rel =>
                    refine ⟨k + 1, by omega, by omega, by go_num, rfl, HH, ⟨fun i hi hfi => ?_⟩⟩
                    by_cases e : i = k
                    · subst e; exact HAX.out
                    · exact HNo.out i (by omega) hfi
          · have hltz : ¬ (k : Int) < (m : Int) := by omega
            have hwz : 3 - x = winZ l m p d nx := by rw [winZ_miss HW.out (by rw [HF.out]; exact HF1.out) (fun i hi hfi => by rw [HX.out]; exact HNo.out i (by omega) hfi), HX.out]
            obtain ⟨w4, hst, hm4, hk4⟩ := c6.out.memo.store p d nx (3 - x) hwz
            rw [HX.out] at hst
            have HK4 := Aside0.mk (held_keep HSr.out hk4 hm4)
            have HWZ := Aside0.mk hwz
            clear hwz hm4 hk4
            go_wp2_with fail
            go_ret
            exact ⟨by rw [← HZ.out, ← HWZ.out]; rfl, HK4.out.2.2.2.2.2.out.memo, HK4.out.2.2.2.2.2.out.keep⟩
      · have t2 : (v != 0) = true := by rw [bne_iff_ne]; exact hv0
        have HV0 := Aside0.mk hv0
        clear hv0
        go_wp2_with fail
        go_ret
        exact ⟨by rw [← HZ.out, ← HV.out.resolve_left HV0.out]; rfl, HS2.out.2.2.2.2.2.out.memo, HS2.out.2.2.2.2.2.out.keep⟩

theorem winner_calls (l : List Int) (m : Nat) (h9 : m ≤ 9) (hl : okL m l) (A : Option Addr) (c b n : Nat) : WinSaid l m A c b n := by
  induction n with
  | zero => intro p d nx w hn; omega
  | succ n ih => exact winner_step l m h9 hl A c b n ih
end Go.Proofs.Ytbjpjjokamaliaa.A
