/- Pairing, as it is called. -/
import Derived.Test.YtbjpjjokamaliaaB5
import Derived.Laws.EntriesVeiled
namespace Go.Proofs.Ytbjpjjokamaliaa.A
open Go.RowKit Go.Proofs.YtbjpjjokamaliaaW.PrintWords Go.Proofs.YtbjpjjokamaliaaW.PrintMore

/-- The first pairing with the fewest pairs. -/
def pairF (l : List Int) (m : Nat) : Option (List S59) := firstN (fun k => srch l m k 0 []) (m / 2 + 1)

/-- The error of a search. -/
def errS (S : Option (List S59)) : Int := if S.isSome then 0 else 10

theorem on_all (l : List Int) (w0 : World) (bm g m : Nat) (h9 : m ≤ 9) (hl : okL m l) (A : Option Addr) (c : Nat) (hr : Kd.C (Kd.int .i64) w0 A l.length l) : ∀ k, OnSaid l w0 bm g m A c k
  | 0 => on_zero l w0 bm g m h9 hl A c hr
  | k + 1 => on_step l w0 bm g m h9 A c k (on_all l w0 bm g m h9 hl A c hr k)

theorem on_all0 {l : List Int} {w0 : World} {bm g m : Nat} (h9 : m ≤ 9) (hl : okL m l) {A : Option Addr} {c : Nat} (hr : Kd.C (Kd.int .i64) w0 A l.length l) {k : Nat} (hk : k ≤ 9) {v : Value} {W : World} (hP : PSt w0 bm g m A l.length c v [] W) :
    Calls Try.prog 48 #[.int .i64 k, .int .i64 0, .pointer (some ⟨g, 0, none⟩), .pointer (some ⟨g + 1, 0, none⟩), .pointer (some ⟨bm, 0, none⟩), .pointer (some ⟨g + 2, 0, none⟩)] W (OnPost w0 bm g m A l.length c W v [] (srch l m k 0 [])) :=
  on_all l w0 bm g m h9 hl A c hr k 0 [] v W hP (Nat.two_pow_pos m) (by simpa using hk) (fun q hq => by cases hq)

set_option maxRecDepth 100000 in
set_option maxHeartbeats 800000 in
theorem Pairing_err (m : Int) (A : Option Addr) (c : Nat) (l : List Int) (w : World) (hr : Kd.C (Kd.int .i64) w A l.length l) (he : okF m l ≠ 0) :
    Calls Try.prog 26 #[.int .i64 m, .slice A l.length c] w fun e w' => e = .returned (.tuple #[.slice none 0 0, .int .i64 (okF m l)]) ∧ Below w.heap.size w w' := by
  have HR := Aside0.mk hr
  obtain ⟨E, hE⟩ : ∃ E, okF m l = E := ⟨_, rfl⟩
  rw [hE] at he ⊢
  have HV := Aside0.mk hE
  have hg : (E != 0) = true := by rw [bne_iff_ne]; exact he
  clear hr hE
  go_enter Try.func26, Try.ntmps26
  go_wp2_with (go_at_call 41; refine (read_bad m A c l E _ (Kd.C_alloc HR.out _) HV.out he).mono ?_; rintro e w' ⟨rfl, hb'⟩; have HB := Aside0.mk (below_then (below_alloc (Below.refl _ _) _) (below_alloc (Below.refl _ _) _).size hb'); clear hb')
  go_ret2
  exact ⟨rfl, below_alloc HB.out _⟩

set_option maxRecDepth 100000 in
set_option maxHeartbeats 1600000 in
theorem Pairing_good (m : Nat) (A : Option Addr) (c : Nat) (l : List Int) (w : World) (hr : Kd.C (Kd.int .i64) w A l.length l) (he : okF m l = 0) :
    Calls Try.prog 26 #[.int .i64 m, .slice A l.length c] w fun e w' => (∃ v : Value, e = .returned (.tuple #[v, .int .i64 (errS (pairF l m))]) ∧ Kd.R k59 59 w' w.heap.size (fun _ => True) v ((pairF l m).getD [])) ∧ Below w.heap.size w w' := by
  have HR := Aside0.mk hr
  have HE := Aside0.mk he
  have H9 := Aside0.mk (okF_m he)
  obtain ⟨S, hS⟩ : ∃ S, pairF l m = S := ⟨_, rfl⟩
  have HS := Aside0.mk hS
  rw [hS]
  have e2 : Int.tdiv (m : Int) 2 = ((m / 2 : Nat) : Int) := by rw [Int.tdiv_eq_ediv_of_nonneg (by omega)]; simp
  have h9 : m ≤ 9 := by have := okF_m he; omega
  have eg := enters48
  clear hr he hS
  go_enter Try.func26, Try.ntmps26
  go_wp2_with (go_at_call 41; refine (read_ok m A c l _ (Kd.C_alloc HR.out _) HE.out).mono ?_; rintro e w' ⟨rfl, hb'⟩; have hk := (hb'.block _ (by simp)).trans (heap_alloc_new w (.cells #[.int .i64 m] 3)); have HK := Aside0.mk hk; obtain ⟨m0, _⟩ := cells1 hk; have hsz : w.heap.size < w'.heap.size := blk_lt hk; have hsz1 : w.heap.size < w'.heap.size + 1 := Nat.lt_succ_of_lt hsz; have hsz2 : w.heap.size < w'.heap.size + 1 + 1 := Nat.lt_succ_of_lt hsz1; have HB := Aside0.mk (below_then (below_alloc (Below.refl w.heap.size w) _) (below_alloc (Below.refl _ _) _).size hb'); clear hb' hk)
  have hP : Aside0 (PSt w w.heap.size w'.heap.size m A l.length c (.slice none 0 0) [] (((w'.alloc (.cells #[.int .i64 m, .slice A l.length c] 61)).alloc (.cells #[.slice none 0 0] 46)).alloc (.cells #[.func (.func 48) #[] #[.pointer (some ⟨w'.heap.size, 0, none⟩), .pointer (some ⟨w'.heap.size + 1, 0, none⟩), .pointer (some ⟨w.heap.size, 0, none⟩), .pointer (some ⟨w'.heap.size + 1 + 1, 0, none⟩)]] 80))) := by
    refine ⟨⟨below_alloc (below_alloc (below_alloc HB.out _) _) _, ?_, ?_, ?_, ?_, Kd.R_nil _ _ _ _ _, hsz, Nat.le_refl _⟩⟩
    · exact blk_alloc (blk_alloc (blk_alloc HK.out _) _) _
    · exact blk_alloc (blk_alloc (heap_alloc_new w' _) _) _
    · refine blk_alloc ?_ _
      have := heap_alloc_new (w'.alloc (.cells #[.int .i64 m, .slice A l.length c] 61)) (.cells #[.slice none 0 0] 46)
      simpa using this
    · have := heap_alloc_new ((w'.alloc (.cells #[.int .i64 m, .slice A l.length c] 61)).alloc (.cells #[.slice none 0 0] 46)) (.cells #[.func (.func 48) #[] #[.pointer (some ⟨w'.heap.size, 0, none⟩), .pointer (some ⟨w'.heap.size + 1, 0, none⟩), .pointer (some ⟨w.heap.size, 0, none⟩), .pointer (some ⟨w'.heap.size + 1 + 1, 0, none⟩)]] 80)
      simpa using this
  clear hsz hsz1 hsz2 m0 HB HK
  go_loopg [10, 24] (m / 2 + 1) (fun gg _ v24 wr => ∃ (k : Nat) (v : Value), k ≤ m / 2 + 1 ∧ m / 2 + 1 - k ≤ gg ∧ v24 = .int .i64 k ∧ Aside0 (PSt w w.heap.size w'.heap.size m A l.length c v [] wr) ∧ Aside0 (firstN (fun k => srch l m k 0 []) k = none))
  case atStart => exact ⟨0, _, Nat.zero_le _, by omega, rfl, hP, ⟨rfl⟩⟩
  case round =>
    clear hP
    obtain ⟨k, v, hk, hgg, rfl, HP, HF⟩ := hrel
    generalize w'.heap.size = g at *
    by_cases hlt : k < m / 2 + 1
    · have hltz : (k : Int) < (m : Int) / 2 + 1 := by omega
      have co : wr.cell? ⟨g + 1 + 1, 0, none⟩ = some (.func (.func 48) #[] #[.pointer (some ⟨g, 0, none⟩), .pointer (some ⟨g + 1, 0, none⟩), .pointer (some ⟨w.heap.size, 0, none⟩), .pointer (some ⟨g + 2, 0, none⟩)]) := (cells1 HP.out.co).1
      obtain ⟨R, hR⟩ : ∃ R, srch l m k 0 [] = R := ⟨_, rfl⟩
      have HRR := Aside0.mk hR
      have HC : Aside0 (Calls Try.prog 48 #[.int .i64 k, .int .i64 0, .pointer (some ⟨g, 0, none⟩), .pointer (some ⟨g + 1, 0, none⟩), .pointer (some ⟨w.heap.size, 0, none⟩), .pointer (some ⟨g + 2, 0, none⟩)] wr (OnPost w w.heap.size g m A l.length c wr v [] R)) := ⟨by rw [← hR]; exact on_all0 h9 (okF_L HE.out) HR.out (by omega) HP.out⟩
      clear hR
      cases R with
      | none =>
        go_wp2_with (go_at_call 48; refine HC.out.mono ?_; rintro e w7 ⟨v7, rfl, hP7, hF7⟩; have HP7 := Aside0.mk hP7; clear hP7 hF7)
        go_roundg (m / 2 + 1 - (k + 1))
        case measure => omega
        case rel =>
          refine ⟨k + 1, v7, by omega, by omega, by go_num, HP7, ⟨?_⟩⟩
          rw [firstN_succ_none HF.out]
          exact HRR.out
      | some r =>
        go_wp2_with (go_at_call 48; refine HC.out.mono ?_; rintro e w7 ⟨v7, rfl, hP7, hF7⟩; have HP7 := Aside0.mk hP7; obtain ⟨A7, c7, hv7, hc7, _⟩ := Kd.R_reads hP7.row; subst hv7; obtain ⟨l7, lf7⟩ := cells1 HP7.out.cl; clear hP7 hF7)
        go_ret2
        have hfin : S = some r := by
          rw [← HS.out]
          exact firstN_some hlt HF.out HRR.out
        subst hfin
        exact ⟨⟨_, rfl, Kd.R_lower (Kd.R_mono HP7.out.row (fun _ _ => trivial)) (by have := HP7.out.lt; omega)⟩, HP7.out.below⟩
    · have hltz : ¬ (k : Int) < (m : Int) / 2 + 1 := by omega
      have hke : k = m / 2 + 1 := by omega
      have hfin : S = none := by
        rw [← HS.out, pairF, ← hke]
        exact HF.out
      subst hfin
      clear hke
      go_wp2
      go_ret2
      exact ⟨⟨_, rfl, Kd.R_nil _ _ _ _ _⟩, HP.out.below⟩

def ambush_Pairing.f (a0 : Int) (l1 : List Int) : Option (List S59 × Int) :=
  some (if okF a0 l1 = 0 then ((pairF l1 a0.toNat).getD [], errS (pairF l1 a0.toNat)) else ([], okF a0 l1))
theorem ambush_Pairing.calls (a0 : Int) (A1 : Option Addr) (c1 : Nat) (l1 : List Int) (r1 : List S59) (r2 : Int) (w : World) (hr1 : Kd.C (Kd.int .i64) w A1 l1.length l1) (_hc1 : l1.length ≤ c1) (h : ambush_Pairing.f a0 l1 = some (r1, r2)) :
    Calls Try.prog 26 #[.int .i64 a0, .slice A1 l1.length c1] w fun e w' => ∃ v0_ : Value, e = .returned (.tuple #[v0_, .int .i64 r2]) ∧ Kd.R k59 59 w' w.heap.size (fun _ => True) v0_ r1 ∧ Below w.heap.size w w' := by
  unfold ambush_Pairing.f at h
  by_cases h0 : okF a0 l1 = 0
  · rw [if_pos h0] at h
    obtain ⟨m, rfl⟩ := Int.eq_ofNat_of_zero_le (show 0 ≤ a0 by have := okF_m h0; omega)
    rw [Int.toNat_natCast] at h
    cases h
    exact (Pairing_good m A1 c1 l1 w hr1 h0).mono fun e w' ⟨⟨v, h1, h2⟩, h3⟩ => ⟨v, h1, h2, h3⟩
  · rw [if_neg h0] at h
    cases h
    exact (Pairing_err a0 A1 c1 l1 w hr1 h0).mono fun e w' ⟨h1, h2⟩ => ⟨_, h1, Kd.R_nil _ _ _ _ _, h2⟩
end Go.Proofs.Ytbjpjjokamaliaa.A
