/- Winner, as it is called. -/
import Derived.Test.YtbjpjjokamaliaaA8
namespace Go.Proofs.Ytbjpjjokamaliaa.A
open Go.RowKit Go.Proofs.YtbjpjjokamaliaaW.PrintWords Go.Proofs.YtbjpjjokamaliaaW.PrintMore

theorem Memo.new {l : List Int} {m b : Nat} (w : World) (h : w.heap.size = b) : Memo l m (w.alloc (.map #[] 0)) b := by
  subst h
  exact ⟨[], ⟨#[], 0, heap_alloc_new w _, rfl⟩, fun q hq => by cases hq⟩

theorem okP_parts {m : Int} {l : List Int} {s : ByteArray} (h : okP m l s = 0) : okF m l = 0 ∧ (s.size : Int) = m := by
  unfold okP at h
  by_cases h1 : okF m l ≠ 0
  · rw [if_pos h1] at h; exact absurd h h1
  · rw [if_neg h1] at h
    by_cases h2 : (s.size : Int) ≠ m
    · rw [if_pos h2] at h; cases h
    · exact ⟨by simpa using h1, by simpa using h2⟩

/-- Who wins in a position that is written. -/
def winS (l : List Int) (s : ByteArray) (nx : Bool) : Bool := wins l s.size (msk 119 s s.size).testBit (msk 100 s s.size).testBit nx
def letS (b : Bool) : ByteArray := if b then sW else sD

set_option maxRecDepth 100000 in
set_option maxHeartbeats 800000 in
theorem Winner_err (m : Int) (A : Option Addr) (c : Nat) (l : List Int) (s nx : ByteArray) (w : World) (hr : Kd.C (Kd.int .i64) w A l.length l) (he : okA m l s nx ≠ 0) :
    Calls Try.prog 14 #[.int .i64 m, .slice A l.length c, .string s, .string nx] w fun e w' => e = .returned (.tuple #[.string ⟨#[]⟩, .int .i64 (okA m l s nx)]) ∧ Below w.heap.size w w' := by
  have HR := Aside0.mk hr
  have HE := Aside0.mk he
  obtain ⟨E, hE⟩ : ∃ E, okA m l s nx = E := ⟨_, rfl⟩
  rw [hE] at he ⊢
  have HV := Aside0.mk hE
  have hg : (E != 0) = true := by rw [bne_iff_ne]; exact he
  clear hr hE he
  go_enter Try.func14, Try.ntmps14
  go_wp2_with (go_at_call 38; refine (asked_err m A c l s nx _ HR.out HE.out).mono ?_; rw [HV.out]; rintro e w' ⟨⟨x, A2, n2, c2, rfl⟩, hb'⟩; have HB := Aside0.mk hb'; clear hb')
  go_ret2
  exact ⟨rfl, below_alloc (below_alloc HB.out _) _⟩

/-- Who is next. -/
def nxW (nx : ByteArray) : Option Bool := if (nx.toList == sW.toList) = true then some true else if (nx.toList == sD.toList) = true then some false else none
theorem okA_parts {m : Int} {l : List Int} {s nx : ByteArray} (h : okA m l s nx = 0) : okP m l s = 0 ∧ ∃ b, nxW nx = some b := by
  unfold okA at h
  by_cases h1 : okP m l s ≠ 0
  · rw [if_pos h1] at h; exact absurd h h1
  · rw [if_neg h1] at h
    refine ⟨by simpa using h1, ?_⟩
    unfold nxW
    by_cases q1 : (nx.toList == sW.toList) = true
    · exact ⟨true, by rw [if_pos q1]⟩
    · rw [if_neg q1] at h ⊢
      by_cases q2 : (nx.toList == sD.toList) = true
      · exact ⟨false, by rw [if_pos q2]⟩
      · rw [if_neg q2] at h; cases h
theorem asked_good (m : Int) (A : Option Addr) (c : Nat) (l : List Int) (s nx : ByteArray) (b : Bool) (w : World) (hr : Kd.C (Kd.int .i64) w A l.length l) (hP0 : okP m l s = 0) (hb : nxW nx = some b) :
    Calls Try.prog 38 #[.int .i64 m, .slice A l.length c, .string s, .string nx] w fun e w' => e = .returned (.tuple #[.agg #[.int .i64 m, .slice A l.length c], .agg #[.int .i64 (msk 119 s s.size), .int .i64 (msk 100 s s.size), .int .i64 (who b)], .int .i64 0]) ∧ Below w.heap.size w w' := by
  unfold nxW at hb
  by_cases q1 : (nx.toList == sW.toList) = true
  · rw [if_pos q1] at hb
    cases hb
    exact asked_w m A c l s nx w hr hP0 q1
  · rw [if_neg q1] at hb
    by_cases q2 : (nx.toList == sD.toList) = true
    · rw [if_pos q2] at hb
      cases hb
      exact asked_d m A c l s nx w hr hP0 (by simpa using q1) q2
    · rw [if_neg q2] at hb; cases hb

theorem letter_any (x : Int) (b : Bool) (hx : who b = x) (w : World) : Calls Try.prog 39 #[.int .i64 x] w fun e w' => e = .returned (.string (letS b)) ∧ w = w' := by
  subst hx
  cases b
  · exact letter_d w
  · exact letter_w w

theorem keep_off {b : Nat} {l : List Int} {A : Option Addr} {w0 w W : World} (h : Below w0.heap.size w0 w) (hb : w0.heap.size ≤ b) (hr : Kd.C (Kd.int .i64) w0 A l.length l) (hk : Keep b w W) : Kd.C (Kd.int .i64) W A l.length l :=
  Kd.C_below hr (h.trans (hk.below hb h.size))

theorem winner_at {l : List Int} {m : Nat} (h9 : m ≤ 9) (hl : okL m l) {A : Option Addr} {c b p d : Nat} {nx : Bool} {x : Int} (hx : who nx = x) {w0 w : World} (hB : Below w0.heap.size w0 w) (hb : w0.heap.size ≤ b) (hr : Kd.C (Kd.int .i64) w0 A l.length l) (hm : Memo l m w b) (hp : p < 2 ^ m) (hd : d < 2 ^ m) :
    Calls Try.prog 40 #[.agg #[.int .i64 m, .slice A l.length c], .agg #[.int .i64 p, .int .i64 d, .int .i64 x], .map (some b)] w fun e w' => e = .returned (.int .i64 (winZ l m p d nx)) ∧ Memo l m w' b ∧ Keep b w w' := by
  subst hx
  exact winner_calls l m h9 hl A c b (m + 1) p d nx w (by have := cnt_le m p.testBit d.testBit; omega) hp hd (fun W hW => keep_off hB hb hr hW) hm

set_option maxRecDepth 100000 in
set_option maxHeartbeats 800000 in
theorem Winner_good (m : Int) (A : Option Addr) (c : Nat) (l : List Int) (s nx : ByteArray) (b : Bool) (w : World) (hr : Kd.C (Kd.int .i64) w A l.length l) (hP : okP m l s = 0) (hb : nxW nx = some b) :
    Calls Try.prog 14 #[.int .i64 m, .slice A l.length c, .string s, .string nx] w fun e w' => e = .returned (.tuple #[.string (letS (winS l s b)), .int .i64 0]) ∧ Below w.heap.size w w' := by
  have HR := Aside0.mk hr
  have HE := Aside0.mk hP
  have HN := Aside0.mk hb
  obtain ⟨hF, hs⟩ := okP_parts hP
  subst hs
  have HF := Aside0.mk hF
  have H9 := Aside0.mk (okF_m hF)
  obtain ⟨x, hx⟩ : ∃ x, who b = x := ⟨_, rfl⟩
  have HX := Aside0.mk hx
  clear hr hP hb hx hF
  have hmm := @run_makeMap Try.prog
  go_enter Try.func14, Try.ntmps14
  go_wp2_with (first
    | (go_at_call 38; refine (asked_good s.size A c l s nx b _ HR.out HE.out HN.out).mono ?_; rw [HX.out]; rintro e w' ⟨rfl, hb'⟩; have HB := Aside0.mk hb'; clear hb')
    | (go_at_call 40; refine (winner_at (m := s.size) (by have := H9.out; omega) (okF_L HF.out) HX.out (below_alloc (below_alloc (below_alloc HB.out _) _) _) (by have := HB.out.size; omega) HR.out (Memo.new _ (by simp)) (msk_lt _ _ _) (msk_lt _ _ _)).mono ?_; rintro e w2 ⟨rfl, hm2, hk2⟩)
    | (go_at_call 39; refine (letter_any _ (wins l s.size (msk 119 s s.size).testBit (msk 100 s s.size).testBit b) rfl _).mono ?_; rintro e w3 ⟨rfl, rfl⟩))
  go_ret2
  refine ⟨rfl, ?_⟩
  exact (below_alloc (below_alloc (below_alloc HB.out _) _) _).trans (hk2.below (by have := HB.out.size; omega) (by have := HB.out.size; simp; omega))

def ambush_Winner.f (a0 : Int) (l1 : List Int) (a2 a3 : ByteArray) : Option (ByteArray × Int) :=
  some (if okA a0 l1 a2 a3 = 0 then (letS (winS l1 a2 ((nxW a3).getD false)), 0) else (⟨#[]⟩, okA a0 l1 a2 a3))
theorem ambush_Winner.calls (a0 : Int) (A1 : Option Addr) (c1 : Nat) (l1 : List Int) (a2 : ByteArray) (a3 : ByteArray) (r1 : ByteArray) (r2 : Int) (w : World) (hr1 : Kd.C (Kd.int .i64) w A1 l1.length l1) (_hc1 : l1.length ≤ c1) (h : ambush_Winner.f a0 l1 a2 a3 = some (r1, r2)) :
    Calls Try.prog 14 #[.int .i64 a0, .slice A1 l1.length c1, .string a2, .string a3] w fun e w' => e = .returned (.tuple #[.string r1, .int .i64 r2]) ∧ Below w.heap.size w w' := by
  unfold ambush_Winner.f at h
  by_cases h0 : okA a0 l1 a2 a3 = 0
  · rw [if_pos h0] at h
    obtain ⟨hP, b, hb⟩ := okA_parts h0
    rw [hb] at h
    cases h
    exact Winner_good a0 A1 c1 l1 a2 a3 b w hr1 hP hb
  · rw [if_neg h0] at h
    cases h
    exact Winner_err a0 A1 c1 l1 a2 a3 w hr1 h0
end Go.Proofs.Ytbjpjjokamaliaa.A
