/- AmbushPaired holds: its code returns true and leaves what it was given as it was. Conditions: those of the given statement, none besides. -/
import Derived.Test.YtbjpjjokamaliaaZAmbushPaired2
import Derived.Deep.Slices
import Derived.ChangeSame
import Derived.Test.YtbjpjjokamaliaaRows
import Derived.WalkKit
import Derived.ProofKit
import Derived.OpenShut
import Derived.ShutString
import Derived.ChangeOld
import Derived.Below
import Derived.SizedLaws
import Derived.Test.YtbjpjjokamaliaaWSized
/- IsPairing and Answer, as they are called. -/
namespace Go.Proofs.Ytbjpjjokamaliaa.B
open Go.Proofs.Ytbjpjjokamaliaa.A
open Go.RowKit Go.Proofs.YtbjpjjokamaliaaW.PrintWords Go.Proofs.YtbjpjjokamaliaaW.PrintLast Go.Proofs.YtbjpjjokamaliaaW.PrintMore

/-- Are pairs good, given what is used and the spot before? -/
def goodP (m : Nat) : Nat → Int → List S59 → Bool
  | _, _, [] => true
  | used, prev, q :: ps => decide (0 ≤ q.f0) && decide (q.f0 < q.f1) && decide (q.f1 < m) && decide (used &&& setN q = 0) && decide (prev < q.f0) && goodP m (used ||| setN q) q.f0 ps
def isPB (m : Nat) (l : List Int) (ps : List S59) : Bool := goodP m 0 (-1) ps && metB l ps

theorem rdT (ps : List S59) (i : Nat) (h : i < ps.length) : rd_T59 ps (i : Int) = ps[i] := by
  unfold rd_T59
  simp [List.getD_eq_getElem?_getD, h]
theorem isP_l0 {m : Nat} {l : List Int} (hF : okF m l = 0) (ps : List S59) (h40 : ps.length ≤ 1000) : ∀ n i (used : Nat) (prev : Int), ps.length - i = n → i ≤ ps.length → used < 2 ^ m →
    ((i = 0 ∧ prev = -1) ∨ (0 < i ∧ prev = (rd_T59 ps ((i - 1 : Nat) : Int)).f0)) → (∀ j, (h : j < i) → (h2 : j < ps.length) → okQ m ps[j] = true) →
    Ev (fun k => ambush_field_isPairing.l0 k ps used ps (ps.length : Int) (i : Int) m l) (goodP m used prev (ps.drop i) && metB l ps) := by
  have h9 : m ≤ 9 := by have := okF_m hF; omega
  intro n
  induction n with
  | zero =>
    intro i used prev hn hi hu hp hall
    have e : i = ps.length := by omega
    have hd : ps.drop i = [] := List.drop_eq_nil_of_le (by omega)
    rw [hd]
    have hm : ambush_field_met.f m l ps = some (metB l ps) := by
      unfold ambush_field_met.f
      rw [if_pos]
      refine ⟨hF, List.all_eq_true.2 fun q hq => ?_⟩
      obtain ⟨j, hj, rfl⟩ := List.getElem_of_mem hq
      exact hall j (by omega) hj
    refine Ev.step (f := fun _ => some (metB l ps)) (fun k => ?_) (by simpa [goodP] using Ev.now (metB l ps))
    rw [ambush_field_isPairing.l0, if_neg (by omega), hm]
    rfl
  | succ n ih =>
    intro i used prev hn hi hu hp hall
    have hlt : i < ps.length := by omega
    have ew : wrap64 ((i : Int) + 1) = ((i + 1 : Nat) : Int) := by rw [wrap64_id] <;> omega
    have ed : ps.drop i = ps[i] :: ps.drop (i + 1) := List.drop_eq_getElem_cons hlt
    have g1 : (i : Int) < (ps.length : Int) := by omega
    have g2 : (0 : Int) ≤ (i : Int) := by omega
    rw [ed, goodP]
    have er := rdT ps i hlt
    have hin : ∀ j, (h : j < i + 1) → (h2 : j < ps.length) → okQ m ps[i] = true → okQ m ps[j] = true := by
      intro j h h2 hq
      by_cases e : j = i
      · subst e; exact hq
      · exact hall j (by omega) h2
    have ihn := fun used' (hu' : used' < 2 ^ m) (hq : okQ m ps[i] = true) => ih (i + 1) used' (ps[i]).f0 (by omega) (by omega) hu' (.inr ⟨by omega, by rw [Nat.add_sub_cancel, er]⟩) (fun j h h2 => hin j h h2 hq)
    clear ih hin hall
    have hpv : (i : Int) > 0 → 0 ≤ wrap64 ((i : Int) - 1) ∧ wrap64 ((i : Int) - 1) < (ps.length : Int) ∧ (rd_T59 ps (wrap64 ((i : Int) - 1))).f0 = prev := by
      intro h0
      rcases hp with ⟨h, _⟩ | ⟨h, hh⟩
      · omega
      · have e : wrap64 ((i : Int) - 1) = ((i - 1 : Nat) : Int) := by rw [wrap64_id] <;> omega
        rw [e]
        exact ⟨by omega, by omega, hh.symm⟩
    have hpz : ¬ (i : Int) > 0 → prev = -1 := by
      intro h0
      rcases hp with ⟨_, h⟩ | ⟨h, _⟩
      · exact h
      · omega
    clear hp
    generalize ps.drop (i + 1) = rest at *
    generalize hq : ps[i] = q at *
    by_cases c1 : q.f0 < 0
    · refine Ev.step (f := fun _ => some false) (fun k => ?_) ?_
      · rw [ambush_field_isPairing.l0, if_pos g1, if_pos g2, if_pos g1, er, if_pos c1]
      · have : decide (0 ≤ q.f0) = false := decide_eq_false (by omega)
        rw [this]; exact Ev.now _
    · have d1 : decide (0 ≤ q.f0) = true := decide_eq_true (by omega)
      by_cases c2 : q.f0 ≥ q.f1
      · refine Ev.step (f := fun _ => some false) (fun k => ?_) ?_
        · rw [ambush_field_isPairing.l0, if_pos g1, if_pos g2, if_pos g1, er, if_neg c1, if_pos c2]
        · have : decide (q.f0 < q.f1) = false := decide_eq_false (by omega)
          rw [this, d1]; exact Ev.now _
      · have d2 : decide (q.f0 < q.f1) = true := decide_eq_true (by omega)
        by_cases c3 : q.f1 ≥ (m : Int)
        · refine Ev.step (f := fun _ => some false) (fun k => ?_) ?_
          · rw [ambush_field_isPairing.l0, if_pos g1, if_pos g2, if_pos g1, er, if_neg c1, if_neg c2, if_pos c3]
          · have : decide (q.f1 < (m : Int)) = false := decide_eq_false (by omega)
            rw [this, d1, d2]; exact Ev.now _
        · have d3 : decide (q.f1 < (m : Int)) = true := decide_eq_true (by omega)
          have hok : okQ m q = true := okQ_iff.2 ⟨by omega, by omega, by omega, by omega⟩
          have hsn := setN_lt (okQ_iff.1 hok)
          have hset : ambush_set.f q.f0 q.f1 = some (setN q : Int) := by
            unfold ambush_set.f
            rw [if_pos (by omega)]
          have h62 : m ≤ 62 := by omega
          have ea : bits .and .i64 (used : Int) (setN q : Int) = ((used &&& setN q : Nat) : Int) := and64 used (setN q) (lt62 hu h62) (lt62 hsn h62)
          have eo : bits .or .i64 (used : Int) (setN q : Int) = ((used ||| setN q : Nat) : Int) := or64 used (setN q) (lt62 hu h62) (lt62 hsn h62)
          have ihn' := ihn (used ||| setN q) (or_lt hu hsn) hok
          clear ihn
          have hun : ∀ k, ambush_field_isPairing.l0 (k + 1) ps used ps (ps.length : Int) (i : Int) m l = (if ((used &&& setN q : Nat) : Int) = 0 then (if (i : Int) > 0 then (if 0 ≤ (wrap64 ((i : Int) - 1)) then (if (wrap64 ((i : Int) - 1)) < (ps.length : Int) then (if q.f0 ≤ ((rd_T59 ps (wrap64 ((i : Int) - 1))).f0) then (some false) else (ambush_field_isPairing.l0 k ps ((used ||| setN q : Nat) : Int) ps (ps.length : Int) ((i + 1 : Nat) : Int) m l)) else (none)) else (none)) else (ambush_field_isPairing.l0 k ps ((used ||| setN q : Nat) : Int) ps (ps.length : Int) ((i + 1 : Nat) : Int) m l)) else (some false)) := by
            intro k
            rw [ambush_field_isPairing.l0, if_pos g1, if_pos g2, if_pos g1, er, if_neg c1, if_neg c2, if_neg c3, hset]
            simp only [Option.bind_some]
            rw [ea, eo, ew]
          by_cases c4 : used &&& setN q = 0
          · have d4 : decide (used &&& setN q = 0) = true := decide_eq_true c4
            have c4z : ((used &&& setN q : Nat) : Int) = 0 := by rw [c4]; rfl
            by_cases c5 : (i : Int) > 0
            · obtain ⟨p1, p2, p3⟩ := hpv c5
              by_cases c6 : q.f0 ≤ prev
              · refine Ev.step (f := fun _ => some false) (fun k => ?_) ?_
                · rw [hun, if_pos c4z, if_pos c5, if_pos p1, if_pos p2, p3, if_pos c6]
                · have : decide (prev < q.f0) = false := decide_eq_false (by omega)
                  rw [this, d1, d2, d3, d4]; exact Ev.now _
              · have d5 : decide (prev < q.f0) = true := decide_eq_true (by omega)
                rw [d1, d2, d3, d4, d5]
                refine Ev.step (fun k => ?_) ihn'
                rw [hun, if_pos c4z, if_pos c5, if_pos p1, if_pos p2, p3, if_neg c6]
            · have d5 : decide (prev < q.f0) = true := decide_eq_true (by have := hpz c5; omega)
              rw [d1, d2, d3, d4, d5]
              refine Ev.step (fun k => ?_) ihn'
              rw [hun, if_pos c4z, if_neg c5]
          · have d4 : decide (used &&& setN q = 0) = false := decide_eq_false c4
            have c4z : ¬ ((used &&& setN q : Nat) : Int) = 0 := fun h => c4 (Int.ofNat.inj h)
            refine Ev.step (f := fun _ => some false) (fun k => ?_) ?_
            · rw [hun, if_neg c4z]
            · rw [d1, d2, d3, d4]; exact Ev.now _
theorem isP_ev {m : Nat} {l : List Int} (hF : okF m l = 0) (ps : List S59) (h40 : ps.length ≤ 1000) : Ev (fun k => ambush_field_isPairing.f k m l ps) (isPB m l ps) :=
  isP_l0 hF ps h40 _ 0 0 (-1) rfl (Nat.zero_le _) (Nat.two_pow_pos m) (.inl ⟨rfl, rfl⟩) (fun j h => by omega)

def ambush_IsPairing.f (m : Int) (l : List Int) (ps : List S59) : Option (Bool × Int) := if ps.length ≤ 1000 then some (if okF m l = 0 then (isPB m.toNat l ps, 0) else (false, okF m l)) else none

set_option maxRecDepth 100000 in
set_option maxHeartbeats 800000 in
theorem IsPairing_err (m : Int) (A : Option Addr) (c : Nat) (l : List Int) (A2 : Option Addr) (n2 c2 : Nat) (w : World) (hr : Kd.C (Kd.int .i64) w A l.length l) (he : okF m l ≠ 0) :
    Calls Try.prog 29 #[.int .i64 m, .slice A l.length c, .slice A2 n2 c2] w fun e w' => e = .returned (.tuple #[.bool false, .int .i64 (okF m l)]) ∧ Below w.heap.size w w' := by
  have HR := Aside0.mk hr
  have HE := Aside0.mk he
  obtain ⟨E, hE⟩ : ∃ E, okF m l = E := ⟨_, rfl⟩
  rw [hE] at he ⊢
  have HV := Aside0.mk hE
  have hg : (E != 0) = true := by rw [bne_iff_ne]; exact he
  clear hr hE he
  go_enter Try.func29, Try.ntmps29
  go_wp2_with (go_at_call 41; refine (read_bad m A c l _ _ HR.out rfl HE.out).mono ?_; rw [HV.out]; rintro e w' ⟨rfl, hb'⟩; have HB := Aside0.mk hb'; clear hb')
  go_ret2
  exact ⟨rfl, below_alloc HB.out _⟩

set_option maxRecDepth 100000 in
set_option maxHeartbeats 800000 in
theorem IsPairing_good (m : Nat) (A : Option Addr) (c : Nat) (l : List Int) (A2 : Option Addr) (c2 : Nat) (ps : List S59) (w : World) (hr : Kd.C (Kd.int .i64) w A l.length l) (hc : l.length ≤ c) (hr2 : Kd.C k59 w A2 ps.length ps) (hc2 : ps.length ≤ c2) (he : okF m l = 0) (h40 : ps.length ≤ 1000) :
    Calls Try.prog 29 #[.int .i64 m, .slice A l.length c, .slice A2 ps.length c2] w fun e w' => e = .returned (.tuple #[.bool (isPB m l ps), .int .i64 0]) ∧ Below w.heap.size w w' := by
  have HR := Aside0.mk hr
  have HC := Aside0.mk hc
  have HR2 := Aside0.mk hr2
  have HC2 := Aside0.mk hc2
  have HE := Aside0.mk he
  obtain ⟨k, hk⟩ := (isP_ev he ps h40).rounds
  have HK := Aside0.mk hk
  generalize isPB m l ps = b at *
  clear hr hc hr2 hc2 he hk
  go_enter Try.func29, Try.ntmps29
  go_wp2_with (first
    | (go_at_call 41; refine (read_ok m A c l _ HR.out HE.out).mono ?_; rintro e w' ⟨rfl, hb'⟩; have HB := Aside0.mk (below_alloc hb' (.cells #[.int .i64 m, .slice A l.length c] 61)); clear hb')
    | (go_at_call 52; refine (ambush_field_isPairing.calls k m A c l A2 c2 ps _ _ (Kd.C_below HR.out HB.out) HC.out (Kd.C_below HR2.out HB.out) HC2.out HK.out).mono ?_; rintro e w2 ⟨rfl, hb2⟩; have HB2 := Aside0.mk (below_then HB.out HB.out.size hb2); clear hb2))
  go_ret2
  exact ⟨rfl, HB2.out⟩
theorem ambush_IsPairing.calls (a0 : Int) (A1 : Option Addr) (c1 : Nat) (l1 : List Int) (A2 : Option Addr) (c2 : Nat) (l2 : List S59) (r1 : Bool) (r2 : Int) (w : World) (hr1 : Kd.C (Kd.int .i64) w A1 l1.length l1) (hc1 : l1.length ≤ c1) (hr2 : Kd.C k59 w A2 l2.length l2) (hc2 : l2.length ≤ c2) (h : ambush_IsPairing.f a0 l1 l2 = some (r1, r2)) :
    Calls Try.prog 29 #[.int .i64 a0, .slice A1 l1.length c1, .slice A2 l2.length c2] w fun e w' => e = .returned (.tuple #[.bool r1, .int .i64 r2]) ∧ Below w.heap.size w w' := by
  unfold ambush_IsPairing.f at h
  by_cases h40 : l2.length ≤ 1000
  · rw [if_pos h40] at h
    by_cases h0 : okF a0 l1 = 0
    · rw [if_pos h0] at h
      have h1 := (okF_m h0).1
      obtain ⟨m, rfl⟩ : ∃ m : Nat, a0 = m := ⟨a0.toNat, by omega⟩
      cases h
      exact IsPairing_good m A1 c1 l1 A2 c2 l2 w hr1 hc1 hr2 hc2 h0 h40
    · rw [if_neg h0] at h
      cases h
      exact IsPairing_err a0 A1 c1 l1 A2 _ c2 w hr1 h0
  · rw [if_neg h40] at h; cases h

/-! ### Answer -/
def ansL (spot : Int) : List S59 → Int
  | [] => -1
  | q :: ps => if spot = q.f0 then q.f1 else if spot = q.f1 then q.f0 else ansL spot ps
def ambush_Answer.f (m : Int) (l : List Int) (ps : List S59) (spot : Int) : Option (Int × Int) :=
  if ps.length ≤ 1000 then some (if okF m l = 0 then (if isPB m.toNat l ps = true ∧ 0 ≤ spot ∧ spot < m then (ansL spot ps, 0) else (0, 2)) else (0, okF m l)) else none

set_option maxRecDepth 100000 in
set_option maxHeartbeats 800000 in
theorem Answer_err (m : Int) (A : Option Addr) (c : Nat) (l : List Int) (A2 : Option Addr) (n2 c2 : Nat) (spot : Int) (w : World) (hr : Kd.C (Kd.int .i64) w A l.length l) (he : okF m l ≠ 0) :
    Calls Try.prog 31 #[.int .i64 m, .slice A l.length c, .slice A2 n2 c2, .int .i64 spot] w fun e w' => e = .returned (.tuple #[.int .i64 0, .int .i64 (okF m l)]) ∧ Below w.heap.size w w' := by
  have HR := Aside0.mk hr
  have HE := Aside0.mk he
  obtain ⟨E, hE⟩ : ∃ E, okF m l = E := ⟨_, rfl⟩
  rw [hE] at he ⊢
  have HV := Aside0.mk hE
  have hg : (E != 0) = true := by rw [bne_iff_ne]; exact he
  clear hr hE he
  go_enter Try.func31, Try.ntmps31
  go_wp2_with (go_at_call 41; refine (read_bad m A c l _ _ HR.out rfl HE.out).mono ?_; rw [HV.out]; rintro e w' ⟨rfl, hb'⟩; have HB := Aside0.mk hb'; clear hb')
  go_ret2
  exact ⟨rfl, below_alloc HB.out _⟩

set_option maxRecDepth 100000 in
set_option maxHeartbeats 800000 in
theorem Answer_arg (m : Nat) (A : Option Addr) (c : Nat) (l : List Int) (A2 : Option Addr) (c2 : Nat) (ps : List S59) (spot : Int) (w : World) (hr : Kd.C (Kd.int .i64) w A l.length l) (hc : l.length ≤ c) (hr2 : Kd.C k59 w A2 ps.length ps) (hc2 : ps.length ≤ c2) (he : okF m l = 0) (h40 : ps.length ≤ 1000) (hno : ¬ (isPB m l ps = true ∧ 0 ≤ spot ∧ spot < m)) :
    Calls Try.prog 31 #[.int .i64 m, .slice A l.length c, .slice A2 ps.length c2, .int .i64 spot] w fun e w' => e = .returned (.tuple #[.int .i64 0, .int .i64 2]) ∧ Below w.heap.size w w' := by
  have HR := Aside0.mk hr
  have HC := Aside0.mk hc
  have HR2 := Aside0.mk hr2
  have HC2 := Aside0.mk hc2
  have HE := Aside0.mk he
  obtain ⟨k, hk⟩ := (isP_ev he ps h40).rounds
  have HK := Aside0.mk hk
  generalize isPB m l ps = b at *
  have HN := Aside0.mk hno
  clear hr hc hr2 hc2 he hk hno
  cases b with
  | false =>
    go_enter Try.func31, Try.ntmps31
    go_wp2_with (first
      | (go_at_call 41; refine (read_ok m A c l _ HR.out HE.out).mono ?_; rintro e w' ⟨rfl, hb'⟩; have HB := Aside0.mk (below_alloc hb' (.cells #[.int .i64 m, .slice A l.length c] 61)); clear hb')
      | (go_at_call 52; refine (ambush_field_isPairing.calls k m A c l A2 c2 ps _ _ (Kd.C_below HR.out HB.out) HC.out (Kd.C_below HR2.out HB.out) HC2.out HK.out).mono ?_; rintro e w2 ⟨rfl, hb2⟩; have HB2 := Aside0.mk (below_then HB.out HB.out.size hb2); clear hb2))
    go_ret2
    exact ⟨rfl, HB2.out⟩
  | true =>
    by_cases h0 : spot < 0
    · go_enter Try.func31, Try.ntmps31
      go_wp2_with (first
        | (go_at_call 41; refine (read_ok m A c l _ HR.out HE.out).mono ?_; rintro e w' ⟨rfl, hb'⟩; have HB := Aside0.mk (below_alloc hb' (.cells #[.int .i64 m, .slice A l.length c] 61)); clear hb')
        | (go_at_call 52; refine (ambush_field_isPairing.calls k m A c l A2 c2 ps _ _ (Kd.C_below HR.out HB.out) HC.out (Kd.C_below HR2.out HB.out) HC2.out HK.out).mono ?_; rintro e w2 ⟨rfl, hb2⟩; have HB2 := Aside0.mk (below_then HB.out HB.out.size hb2); clear hb2))
      go_ret2
      exact ⟨rfl, HB2.out⟩
    · have h1 : (m : Int) ≤ spot := by
        have := HN.out
        rcases Int.lt_or_le spot m with q | q
        · exact (this ⟨rfl, by omega, q⟩).elim
        · exact q
      go_enter Try.func31, Try.ntmps31
      go_wp2_with (first
        | (go_at_call 41; refine (read_ok m A c l _ HR.out HE.out).mono ?_; rintro e w' ⟨rfl, hb'⟩; have HB := Aside0.mk (below_alloc hb' (.cells #[.int .i64 m, .slice A l.length c] 61)); clear hb')
        | (go_at_call 52; refine (ambush_field_isPairing.calls k m A c l A2 c2 ps _ _ (Kd.C_below HR.out HB.out) HC.out (Kd.C_below HR2.out HB.out) HC2.out HK.out).mono ?_; rintro e w2 ⟨rfl, hb2⟩; have HB2 := Aside0.mk (below_then HB.out HB.out.size hb2); clear hb2))
      go_ret2
      exact ⟨rfl, HB2.out⟩

set_option maxRecDepth 100000 in
set_option maxHeartbeats 1600000 in
theorem Answer_good (m : Nat) (A : Option Addr) (c : Nat) (l : List Int) (A2 : Option Addr) (c2 : Nat) (ps : List S59) (spot : Int) (w : World) (hr : Kd.C (Kd.int .i64) w A l.length l) (hc : l.length ≤ c) (hr2 : Kd.C k59 w A2 ps.length ps) (hc2 : ps.length ≤ c2) (he : okF m l = 0) (h40 : ps.length ≤ 1000) (hp : isPB m l ps = true) (h0 : 0 ≤ spot) (h1 : spot < m) :
    Calls Try.prog 31 #[.int .i64 m, .slice A l.length c, .slice A2 ps.length c2, .int .i64 spot] w fun e w' => e = .returned (.tuple #[.int .i64 (ansL spot ps), .int .i64 0]) ∧ Below w.heap.size w w' := by
  have hu59 := Try.underlying59
  have HR := Aside0.mk hr
  have HC := Aside0.mk hc
  have HR2 := Aside0.mk hr2
  have HC2 := Aside0.mk hc2
  have HE := Aside0.mk he
  obtain ⟨k, hk⟩ := (isP_ev he ps h40).rounds
  rw [hp] at hk
  have HK := Aside0.mk hk
  have hd0 : decide (spot < 0) = false := decide_eq_false (by omega)
  have hd1 : decide ((m : Int) ≤ spot) = false := decide_eq_false (by omega)
  obtain ⟨Z, hz⟩ : ∃ Z, ansL spot ps = Z := ⟨_, rfl⟩
  have HZ := Aside0.mk hz
  rw [hz]
  have H40 := Aside0.mk h40
  clear hr hc hr2 hc2 he hk hz hp h0 h1 h40
  go_enter Try.func31, Try.ntmps31
  go_wp2_with (first
    | (go_at_call 41; refine (read_ok m A c l _ HR.out HE.out).mono ?_; rintro e w' ⟨rfl, hb'⟩; have HB := Aside0.mk (below_alloc hb' (.cells #[.int .i64 m, .slice A l.length c] 61)); clear hb')
    | (go_at_call 52; refine (ambush_field_isPairing.calls k m A c l A2 c2 ps _ _ (Kd.C_below HR.out HB.out) HC.out (Kd.C_below HR2.out HB.out) HC2.out HK.out).mono ?_; rintro e w2 ⟨rfl, hb2⟩; have HB2 := Aside0.mk (below_then HB.out HB.out.size hb2); clear hb2))
  go_loopg [40] ps.length (fun gg v40 wr => ∃ i : Nat, i ≤ ps.length ∧ ps.length - i ≤ gg ∧ v40 = .int .i64 i ∧ Aside0 (Below w.heap.size w wr) ∧ Aside0 (ansL spot (ps.drop i) = Z))
  case atStart => exact ⟨0, Nat.zero_le _, by omega, rfl, HB2, HZ⟩
  case round =>
    obtain ⟨i, hi, hgg, rfl, BW, HA⟩ := hrel
    clear HB HB2
    by_cases hlt : i < ps.length
    · have hltz : (i : Int) < (ps.length : Int) := by omega
      obtain ⟨ad, rfl, hcell0, hcell1⟩ := at_T59 (Kd.C_below HR2.out BW.out) (i : Int) (by omega) (by omega)
      simp only [Int.toNat_natCast] at hcell0 hcell1
      have er := rdT ps i hlt
      have ed : ps.drop i = ps[i] :: ps.drop (i + 1) := List.drop_eq_getElem_cons hlt
      have hA := HA.out
      rw [ed, ansL, ← er] at hA
      have HA2 := Aside0.mk hA
      clear hA ed er
      generalize rd_T59 ps (i : Int) = q at *
      by_cases e0 : spot = q.f0
      · have b0 : (spot == q.f0) = true := beq_iff_eq.mpr e0
        have hz : q.f1 = Z := by rw [← HA2.out, if_pos e0]
        clear e0
        go_wp2
        repeat (go_quiet (fail); try go_wp2)
        go_ret2
        exact ⟨rfl, below_alloc BW.out _⟩
      · have b0 : (spot == q.f0) = false := beq_eq_false_iff_ne.mpr e0
        by_cases e1 : spot = q.f1
        · have b1 : (spot == q.f1) = true := beq_iff_eq.mpr e1
          have hz : q.f0 = Z := by rw [← HA2.out, if_neg e0, if_pos e1]
          clear e0 e1
          go_wp2
          repeat (go_quiet (fail); try go_wp2)
          go_ret2
          exact ⟨rfl, below_alloc BW.out _⟩
        · have b1 : (spot == q.f1) = false := beq_eq_false_iff_ne.mpr e1
          have hz : ansL spot (ps.drop (i + 1)) = Z := by rw [← HA2.out, if_neg e0, if_neg e1]
          have HZ2 := Aside0.mk hz
          clear e0 e1 hz
          have ew : wrap64 ((i : Int) + 1) = ((i + 1 : Nat) : Int) := by have := H40.out; rw [wrap64_id] <;> omega
          have EW := Aside0.mk ew
          clear ew
          go_wp2
          repeat (go_quiet (fail); try go_wp2)
          go_roundg (ps.length - (i + 1))
          case measure => omega
          case rel => exact ⟨i + 1, by omega, by omega, by rw [EW.out], ⟨below_alloc BW.out _⟩, HZ2⟩
    · have hltz : ¬ (i : Int) < (ps.length : Int) := by omega
      have hd : ps.drop i = [] := List.drop_eq_nil_of_le (by omega)
      have hz : (-1 : Int) = Z := by rw [← HA.out, hd]; rfl
      have HZ2 := Aside0.mk hz
      clear hd hz
      go_wp2
      go_ret2
      exact ⟨by have h := HZ2.out; subst h; rfl, BW.out⟩
theorem ambush_Answer.calls (a0 : Int) (A1 : Option Addr) (c1 : Nat) (l1 : List Int) (A2 : Option Addr) (c2 : Nat) (l2 : List S59) (a3 : Int) (r1 : Int) (r2 : Int) (w : World) (hr1 : Kd.C (Kd.int .i64) w A1 l1.length l1) (hc1 : l1.length ≤ c1) (hr2 : Kd.C k59 w A2 l2.length l2) (hc2 : l2.length ≤ c2) (h : ambush_Answer.f a0 l1 l2 a3 = some (r1, r2)) :
    Calls Try.prog 31 #[.int .i64 a0, .slice A1 l1.length c1, .slice A2 l2.length c2, .int .i64 a3] w fun e w' => e = .returned (.tuple #[.int .i64 r1, .int .i64 r2]) ∧ Below w.heap.size w w' := by
  unfold ambush_Answer.f at h
  by_cases h40 : l2.length ≤ 1000
  · rw [if_pos h40] at h
    by_cases h0 : okF a0 l1 = 0
    · rw [if_pos h0] at h
      have h1 := (okF_m h0).1
      obtain ⟨m, rfl⟩ : ∃ m : Nat, a0 = m := ⟨a0.toNat, by omega⟩
      by_cases hy : isPB m l1 l2 = true ∧ 0 ≤ a3 ∧ a3 < m
      · have hy2 : isPB (m : Int).toNat l1 l2 = true ∧ 0 ≤ a3 ∧ a3 < m := hy
        rw [if_pos hy2] at h
        cases h
        exact Answer_good m A1 c1 l1 A2 c2 l2 a3 w hr1 hc1 hr2 hc2 h0 h40 hy.1 hy.2.1 hy.2.2
      · have hy2 : ¬ (isPB (m : Int).toNat l1 l2 = true ∧ 0 ≤ a3 ∧ a3 < m) := hy
        rw [if_neg hy2] at h
        cases h
        exact Answer_arg m A1 c1 l1 A2 c2 l2 a3 w hr1 hc1 hr2 hc2 h0 h40 hy
    · rw [if_neg h0] at h
      cases h
      exact Answer_err a0 A1 c1 l1 A2 _ c2 a3 w hr1 h0
  · rw [if_neg h40] at h; cases h
end Go.Proofs.Ytbjpjjokamaliaa.B

/- Careful, as it is called. -/
namespace Go.Proofs.Ytbjpjjokamaliaa.A
open Go.RowKit Go.Proofs.YtbjpjjokamaliaaW.PrintWords Go.Proofs.YtbjpjjokamaliaaW.PrintMore

/-- The best spot and its danger, after the first k spots. -/
def carL (l : List Int) (m p d : Nat) : Nat → Int × Int
  | 0 => (-1, 0)
  | k + 1 => if fr p.testBit d.testBit k = true ∧ ((carL l m p d k).1 < 0 ∨ dangL m p (d ||| 2 ^ k) l < (carL l m p d k).2) then ((k : Int), dangL m p (d ||| 2 ^ k) l) else carL l m p d k
def carS (l : List Int) (s : ByteArray) : Int := (carL l s.size (msk 119 s s.size) (msk 100 s s.size) s.size).1
def ambush_Careful.f (a0 : Int) (l1 : List Int) (a2 : ByteArray) : Option (Int × Int) :=
  some (if okP a0 l1 a2 = 0 then (if carS l1 a2 < 0 then (0, 9) else (carS l1 a2, 0)) else (0, okP a0 l1 a2))

set_option maxRecDepth 100000 in
set_option maxHeartbeats 800000 in
theorem Careful_err (m : Int) (A : Option Addr) (c : Nat) (l : List Int) (s : ByteArray) (w : World) (hr : Kd.C (Kd.int .i64) w A l.length l) (he : okP m l s ≠ 0) :
    Calls Try.prog 23 #[.int .i64 m, .slice A l.length c, .string s] w fun e w' => e = .returned (.tuple #[.int .i64 0, .int .i64 (okP m l s)]) ∧ Below w.heap.size w w' := by
  have HR := Aside0.mk hr
  have HE := Aside0.mk he
  obtain ⟨E, hE⟩ : ∃ E, okP m l s = E := ⟨_, rfl⟩
  rw [hE] at he ⊢
  have HV := Aside0.mk hE
  have hg : (E != 0) = true := by rw [bne_iff_ne]; exact he
  clear hr hE he
  go_enter Try.func23, Try.ntmps23
  go_wp2_with (go_at_call 43; refine (placed_err m A c l s _ HR.out HE.out).mono ?_; rw [HV.out]; rintro e w' ⟨⟨x, A2, n2, c2, rfl⟩, hb'⟩; have HB := Aside0.mk hb'; clear hb')
  go_ret2
  exact ⟨rfl, below_alloc (below_alloc HB.out _) _⟩

theorem free_bit0 {m p d F k : Nat} (hF : less (2 ^ m - 1) (p ||| d) = F) (hk : k < m) (hm : m ≤ 9) : (bits .and .i64 ((F : Int) / 2 ^ k) 1 == 0) = !fr p.testBit d.testBit k := by
  have hlt : F < 2 ^ 62 := by
    rw [← hF]
    exact lt62 (less_lt (Nat.sub_lt (Nat.two_pow_pos m) (by decide))) (by omega)
  rw [bit_ask hlt, ← tb_free hk, hF]
  cases F.testBit k <;> rfl

/-- What is held while the spots are gone through. -/
def CarI (m : Nat) (A : Option Addr) (n c : Nat) (p d : Nat) (w : World) (g : Nat) (W : World) : Prop :=
  W.cell? ⟨g, 0, none⟩ = some (.int .i64 m) ∧ W.cell? ⟨g, 1, none⟩ = some (.slice A n c) ∧ W.cell? ⟨g + 1, 0, none⟩ = some (.int .i64 p) ∧ W.cell? ⟨g + 1, 1, none⟩ = some (.int .i64 d) ∧ Aside0 (Below w.heap.size w W)
theorem car_next {m : Nat} {A : Option Addr} {n c p d : Nat} {w : World} {g : Nat} {W W' : World}
    (h : W.cell? ⟨g, 0, none⟩ = some (.int .i64 m) ∧ W.cell? ⟨g, 1, none⟩ = some (.slice A n c) ∧ W.cell? ⟨g + 1, 0, none⟩ = some (.int .i64 p) ∧ W.cell? ⟨g + 1, 1, none⟩ = some (.int .i64 d) ∧ Aside0 (Below w.heap.size w W))
    (hb : Below W.heap.size W W') :
    W'.cell? ⟨g, 0, none⟩ = some (.int .i64 m) ∧ W'.cell? ⟨g, 1, none⟩ = some (.slice A n c) ∧ W'.cell? ⟨g + 1, 0, none⟩ = some (.int .i64 p) ∧ W'.cell? ⟨g + 1, 1, none⟩ = some (.int .i64 d) ∧ Aside0 (Below w.heap.size w W') := by
  obtain ⟨h1, h2, h3, h4, ⟨h5⟩⟩ := h
  exact ⟨pw_cell_below hb h1, pw_cell_below hb h2, pw_cell_below hb h3, pw_cell_below hb h4, ⟨below_then h5 h5.size hb⟩⟩

set_option maxRecDepth 100000 in
set_option maxHeartbeats 1600000 in
theorem Careful_good (m : Nat) (A : Option Addr) (c : Nat) (l : List Int) (s : ByteArray) (w : World) (hr : Kd.C (Kd.int .i64) w A l.length l) (hs : s.size = m) (hP : okP m l s = 0) (r1 r2 : Int) (hres : (if carS l s < 0 then ((0 : Int), (9 : Int)) else (carS l s, 0)) = (r1, r2)) :
    Calls Try.prog 23 #[.int .i64 m, .slice A l.length c, .string s] w fun e w' => e = .returned (.tuple #[.int .i64 r1, .int .i64 r2]) ∧ Below w.heap.size w w' := by
  have HR := Aside0.mk hr
  have HE := Aside0.mk hP
  obtain ⟨hF, -⟩ := okP_parts hP
  have HF := Aside0.mk hF
  have h9 : m ≤ 9 := by have := okF_m hF; omega
  have hp := msk_lt 119 s s.size
  have hd := msk_lt 100 s s.size
  unfold carS at hres
  obtain ⟨p, hpe⟩ : ∃ p, msk 119 s s.size = p := ⟨_, rfl⟩
  obtain ⟨d, hde⟩ : ∃ d, msk 100 s s.size = d := ⟨_, rfl⟩
  have HPE := Aside0.mk hpe
  have HDE := Aside0.mk hde
  rw [hpe] at hp hres
  rw [hde] at hd hres
  rw [hs] at hp hd hres
  have HP := Aside0.mk hp
  have HD := Aside0.mk hd
  have HRES := Aside0.mk hres
  clear hr hP hF hs hp hd hpe hde hres
  go_enter Try.func23, Try.ntmps23
  go_wp2_with (go_at_call 43; refine (placed_good m A c l s _ HR.out HE.out).mono ?_; rw [HPE.out, HDE.out]; rintro e w' ⟨rfl, hb'⟩; have HB := Aside0.mk hb'; clear hb')
  have HI : Aside0 (CarI m A l.length c p d w w'.heap.size ((w'.alloc (.cells #[.int .i64 m, .slice A l.length c] 61)).alloc (.cells #[.int .i64 p, .int .i64 d] 63))) := by
    have hbk := blks2 (o1 := .cells #[.int .i64 m, .slice A l.length c] 61) (o2 := .cells #[.int .i64 p, .int .i64 d] 63) (w := w') (Below.refl _ _)
    exact ⟨(cells2 hbk.1).1, (cells2 hbk.1).2.1, (cells2 hbk.2).1, (cells2 hbk.2).2.1, ⟨below_alloc (below_alloc HB.out _) _⟩⟩
  generalize hg : w'.heap.size = g at HI
  go_loopg [11, 12, 27] m (fun gg v11 v12 v27 wr => ∃ k : Nat, k ≤ m ∧ m - k ≤ gg ∧ v27 = .int .i64 k ∧ v11 = .int .i64 (carL l m p d k).1 ∧ v12 = .int .i64 (carL l m p d k).2 ∧ Aside0 (CarI m A l.length c p d w g wr))
  case atStart => exact ⟨0, Nat.zero_le _, by omega, rfl, rfl, rfl, HI⟩
  case round =>
    clear HI HB
    clear hg
    obtain ⟨k, hk, hgg, rfl, rfl, rfl, HI⟩ := hrel
    obtain ⟨c0, c1, c2, c3, -⟩ := HI.out
    obtain ⟨F, hF⟩ : ∃ F, less (2 ^ m - 1) (p ||| d) = F := ⟨_, rfl⟩
    have HFF := Aside0.mk hF
    clear hF
    by_cases hlt : k < m
    · have hltz : (k : Int) < (m : Int) := by omega
      cases hfb : fr p.testBit d.testBit k with
      | false =>
        have HFB := Aside0.mk hfb
        have hgd := free_bit0 HFF.out hlt h9
        rw [hfb] at hgd
        clear hfb
        go_wp2_with (go_at_call 46; refine (free_calls m p d h9 HP.out HD.out A l.length c _).mono ?_; rw [HFF.out]; rintro e w2 ⟨rfl, hb2⟩; have HI2 := Aside0.mk (car_next HI.out hb2); clear hb2)
        go_roundg (m - (k + 1))
        case measure => omega
        case rel =>
          refine ⟨k + 1, by omega, by omega, by go_num, ?_, ?_, HI2⟩ <;> (rw [carL, if_neg (fun h => by rw [HFB.out] at h; cases h.1)])
      | true =>
        have HFB := Aside0.mk hfb
        have hgd := free_bit0 HFF.out hlt h9
        rw [hfb] at hgd
        clear hfb
        go_wp2_with (go_at_call 46; refine (free_calls m p d h9 HP.out HD.out A l.length c _).mono ?_; rw [HFF.out]; rintro e w2 ⟨rfl, hb2⟩; have HI2 := Aside0.mk (car_next HI.out hb2); clear hb2 c0 c1 c2 c3; obtain ⟨c0, c1, c2, c3, -⟩ := HI2.out)
        go_region_held3 (fun w' => w'.cell? ⟨g, 0, none⟩ = some (.int .i64 m) ∧ w'.cell? ⟨g, 1, none⟩ = some (.slice A l.length c) ∧ w'.cell? ⟨g + 1, 0, none⟩ = some (.int .i64 p) ∧ w'.cell? ⟨g + 1, 1, none⟩ = some (.int .i64 d) ∧ Aside0 (Below w.heap.size w w')) (first | exact car_next HI2.out (below_drew (Below.refl _ _)) | exact car_next (by assumption) hb3 | exact car_next (by assumption) (Below.refl _ _)) (first | (go_at_call 47; refine (after_d p d k (pow9 HD.out h9) (by omega) _).mono ?_; rintro e w3 ⟨rfl, hb3⟩) | (go_at_call 44; refine (danger_calls m p (d ||| 2 ^ k) h9 HP.out (or_lt HD.out (Nat.pow_lt_pow_right (by decide) hlt)) l (okF_L HF.out) (okF_len HF.out) A c _ (Kd.C_below HR.out (by assumption : _ ∧ _ ∧ _ ∧ _ ∧ Aside0 (Below w.heap.size w _)).2.2.2.2.out)).mono ?_; rintro e w3 ⟨rfl, hb3⟩))
        all_goals
          have HH := Aside0.mk (show _ ∧ _ ∧ _ ∧ _ ∧ Aside0 (Below w.heap.size w w3) by assumption)
          clear c0 c1 c2 c3
          by_cases hb : (carL l m p d k).1 < 0
          · go_wp2_with fail
            go_roundg (m - (k + 1))
            case measure => omega
            case rel =>
              refine ⟨k + 1, by omega, by omega, by go_num, ?_, ?_, HH⟩ <;> (rw [carL, if_pos ⟨HFB.out, .inl hb⟩])
          · have HNB := Aside0.mk hb
            by_cases hx : dangL m p (d ||| 2 ^ k) l < (carL l m p d k).2
            · go_wp2_with fail
              go_roundg (m - (k + 1))
              case measure => omega
              case rel =>
                refine ⟨k + 1, by omega, by omega, by go_num, ?_, ?_, HH⟩ <;> (rw [carL, if_pos ⟨HFB.out, .inr hx⟩])
            · have HNX := Aside0.mk hx
              go_wp2_with fail
              go_roundg (m - (k + 1))
              case measure => omega
              case rel =>
                refine ⟨k + 1, by omega, by omega, by go_num, ?_, ?_, HH⟩ <;> (rw [carL, if_neg (fun h => by have := HNB.out; have := HNX.out; omega)])
    · have hltz : ¬ (k : Int) < (m : Int) := by omega
      have HK := Aside0.mk (show k = m by omega)
      clear hlt
      have hz := HRES.out
      have hkm := HK.out
      have hc : carL l m p d m = carL l m p d k := by rw [hkm]
      rw [hc] at hz
      clear hkm hc
      by_cases hb : (carL l m p d k).1 < 0
      · rw [if_pos hb] at hz
        cases hz
        go_wp2_with fail
        go_ret2
        exact ⟨rfl, HI.out.2.2.2.2.out⟩
      · rw [if_neg hb] at hz
        cases hz
        go_wp2_with fail
        go_ret2
        exact ⟨rfl, HI.out.2.2.2.2.out⟩
theorem ambush_Careful.calls (a0 : Int) (A1 : Option Addr) (c1 : Nat) (l1 : List Int) (a2 : ByteArray) (r1 : Int) (r2 : Int) (w : World) (hr1 : Kd.C (Kd.int .i64) w A1 l1.length l1) (_hc1 : l1.length ≤ c1) (h : ambush_Careful.f a0 l1 a2 = some (r1, r2)) :
    Calls Try.prog 23 #[.int .i64 a0, .slice A1 l1.length c1, .string a2] w fun e w' => e = .returned (.tuple #[.int .i64 r1, .int .i64 r2]) ∧ Below w.heap.size w w' := by
  unfold ambush_Careful.f at h
  by_cases h0 : okP a0 l1 a2 = 0
  · rw [if_pos h0] at h
    obtain ⟨_, hs⟩ := okP_parts h0
    subst hs
    exact Careful_good _ A1 c1 l1 a2 w hr1 rfl h0 r1 r2 (by simpa using h)
  · rw [if_neg h0] at h
    cases h
    exact Careful_err a0 A1 c1 l1 a2 w hr1 h0
end Go.Proofs.Ytbjpjjokamaliaa.A

/- The plain game: the danger decides (the dogs win by taking the spot that makes the danger least). -/
namespace Go.Proofs.Ytbjpjjokamaliaa.A
open Go.RowKit Go.Proofs.YtbjpjjokamaliaaW.PrintWords Go.Proofs.YtbjpjjokamaliaaW.PrintMore

theorem pop_bit_table : (List.range 512).all (fun y => (List.range 9).all fun j => !y.testBit j || decide (pop 9 y = pop 9 (y ^^^ 2 ^ j) + 1)) = true := by decide +kernel
theorem pop_bit {y j : Nat} (hy : y < 512) (hj : j < 9) (h : y.testBit j = true) : pop 9 y = pop 9 (y ^^^ 2 ^ j) + 1 := by
  have h1 := List.all_eq_true.1 pop_bit_table y (List.mem_range.2 hy)
  have h2 := List.all_eq_true.1 h1 j (List.mem_range.2 hj)
  rw [h] at h2
  simpa using h2
theorem less_up {x p j : Nat} (hp : p.testBit j = false) : less x (p ||| 2 ^ j) = if x.testBit j = true then less x p ^^^ 2 ^ j else less x p := by
  refine Nat.eq_of_testBit_eq fun k => ?_
  split <;> rename_i h
  · rw [tb_less, Nat.testBit_xor, tb_less, Nat.testBit_or, tb_two]
    by_cases e : k = j
    · subst e; simp [h, hp]
    · have : (k == j) = false := by simp [e]
      rw [this]; simp
  · rw [tb_less, tb_less, Nat.testBit_or, tb_two]
    by_cases e : k = j
    · subst e
      have : x.testBit k = false := by simpa using h
      simp [this]
    · have : (k == j) = false := by simp [e]
      rw [this]; simp

/-- What a line counts when the wolves take a spot. -/
theorem dang1_w {m p d j : Nat} {x : Int} (h9 : m ≤ 9) (h0 : 0 ≤ x) (hx : x < 2 ^ m) (hj : j < m) (hp : p.testBit j = false) :
    dang1 m (p ||| 2 ^ j) d x = if x.toNat.testBit j = true then 2 * dang1 m p d x else dang1 m p d x := by
  have hxn : x.toNat < 2 ^ m := by
    have : ((2 ^ m : Nat) : Int) = 2 ^ m := Int.natCast_pow 2 m
    omega
  have hl : less x.toNat p < 2 ^ m := less_lt hxn
  have hle := pop_le h9 hl
  have h5 : less x.toNat p < 512 := Nat.lt_of_lt_of_le hl (Nat.pow_le_pow_right (n := 2) (by decide) h9)
  unfold dang1
  rw [less_up hp]
  by_cases hb : x.toNat.testBit j = true
  · rw [if_pos hb, if_pos hb]
    by_cases hd : x.toNat &&& d = 0
    · rw [if_pos hd, if_pos hd]
      have hlb : (less x.toNat p).testBit j = true := by rw [tb_less, hb, hp]; rfl
      have e := pop_bit h5 (by omega) hlb
      have e2 : m - pop 9 (less x.toNat p ^^^ 2 ^ j) = (m - pop 9 (less x.toNat p)) + 1 := by omega
      rw [e2, Int.pow_succ]
      omega
    · rw [if_neg hd, if_neg hd]; rfl
  · rw [if_neg hb, if_neg hb]
theorem and_up {x d i : Nat} : x &&& (d ||| 2 ^ i) = 0 ↔ x &&& d = 0 ∧ x.testBit i = false := by
  constructor
  · intro h
    have hk : ∀ k, (x &&& (d ||| 2 ^ i)).testBit k = false := fun k => by rw [h]; exact Nat.zero_testBit k
    constructor
    · refine Nat.eq_of_testBit_eq fun k => ?_
      have := hk k
      rw [Nat.testBit_and, Nat.testBit_or] at this
      rw [Nat.testBit_and, Nat.zero_testBit]
      cases e : x.testBit k <;> cases e2 : d.testBit k <;> simp_all
    · have := hk i
      rw [Nat.testBit_and, Nat.testBit_or, tb_two] at this
      simpa using this
  · rintro ⟨h1, h2⟩
    refine Nat.eq_of_testBit_eq fun k => ?_
    have hk : (x &&& d).testBit k = false := by rw [h1]; exact Nat.zero_testBit k
    rw [Nat.testBit_and] at hk
    rw [Nat.testBit_and, Nat.testBit_or, tb_two, Nat.zero_testBit]
    by_cases e : k = i
    · subst e; simp [h2]
    · have : (k == i) = false := by simp [e]
      rw [this]; simpa using hk
/-- What a line counts when the dogs take a spot. -/
theorem dang1_d {m p d i : Nat} {x : Int} : dang1 m p (d ||| 2 ^ i) x = if x.toNat.testBit i = true then 0 else dang1 m p d x := by
  unfold dang1
  by_cases hb : x.toNat.testBit i = true
  · rw [if_pos hb, if_neg]
    rw [and_up, hb]; simp
  · rw [if_neg hb]
    have e : x.toNat &&& (d ||| 2 ^ i) = 0 ↔ x.toNat &&& d = 0 := by
      rw [and_up]
      exact ⟨fun h => h.1, fun h => ⟨h, by simpa using hb⟩⟩
    by_cases h : x.toNat &&& d = 0
    · rw [if_pos h, if_pos (e.2 h)]
    · rw [if_neg h, if_neg (fun q => h (e.1 q))]
theorem dang1_nn {m p d : Nat} {x : Int} (h9 : m ≤ 9) : 0 ≤ dang1 m p d x := (dang1_bd h9 x).1
theorem dang_double {m p d j : Nat} (h9 : m ≤ 9) (hj : j < m) (hp : p.testBit j = false) : ∀ l : List Int, okL m l → dangL m (p ||| 2 ^ j) d l ≤ 2 * dangL m p d l
  | [], _ => by simp [dangL]
  | x :: l, hl => by
    have ih := dang_double (d := d) h9 hj hp l fun y hy => hl y (List.mem_cons_of_mem _ hy)
    have hx := hl x (List.mem_cons_self ..)
    have e := dang1_w (d := d) h9 (by omega) hx.2 hj hp
    have hn := dang1_nn (p := p) (d := d) (x := x) h9
    simp only [dangL]
    rw [e]
    split <;> omega
theorem dang_less {m p d i : Nat} (h9 : m ≤ 9) : ∀ l : List Int, dangL m p (d ||| 2 ^ i) l ≤ dangL m p d l
  | [] => by simp [dangL]
  | x :: l => by
    have ih := dang_less (p := p) (d := d) (i := i) h9 l
    have hn := dang1_nn (p := p) (d := d) (x := x) h9
    simp only [dangL]
    rw [dang1_d]
    split <;> omega
theorem dang_trade {m p d i j : Nat} (h9 : m ≤ 9) (hj : j < m) (hp : p.testBit j = false) : ∀ l : List Int, okL m l →
    dangL m (p ||| 2 ^ j) (d ||| 2 ^ i) l + dangL m p (d ||| 2 ^ j) l ≤ dangL m p d l + dangL m p (d ||| 2 ^ i) l
  | [], _ => by simp [dangL]
  | x :: l, hl => by
    have ih := dang_trade (d := d) (i := i) h9 hj hp l fun y hy => hl y (List.mem_cons_of_mem _ hy)
    have hx := hl x (List.mem_cons_self ..)
    have e := dang1_w (d := d ||| 2 ^ i) h9 (by omega) hx.2 hj hp
    have hn := dang1_nn (p := p) (d := d) (x := x) h9
    simp only [dangL]
    rw [e, dang1_d, dang1_d]
    split <;> split <;> omega

/-- No spot is taken twice. -/
def Apart (p d : Nat) : Prop := ∀ k, p.testBit k = true → d.testBit k = false
theorem dang_line {m p d : Nat} (h9 : m ≤ 9) (hA : Apart p d) : ∀ l : List Int, okL m l → hasL l m p.testBit = true → 2 ^ m ≤ dangL m p d l
  | [], _, h => by simp [hasL] at h
  | x :: l, hl, h => by
    have hx := hl x (List.mem_cons_self ..)
    have hn := dang1_nn (p := p) (d := d) (x := x) h9
    have hn2 := (dangL_bd (p := p) (d := d) h9 l).1
    simp only [dangL]
    unfold hasL at h
    rw [List.any_cons, Bool.or_eq_true] at h
    rcases h with h | h
    · have hxn : x.toNat < 2 ^ m := by
        have : ((2 ^ m : Nat) : Int) = 2 ^ m := Int.natCast_pow 2 m
        omega
      have hex : x = (x.toNat : Int) := by omega
      have h1 : less x.toNat p = 0 := by
        rw [hex] at h
        have := inL_iff (w := p) hxn
        rw [h] at this
        simpa using this.symm
      have h2 : x.toNat &&& d = 0 := by
        refine Nat.eq_of_testBit_eq fun k => ?_
        have hk : (less x.toNat p).testBit k = false := by rw [h1]; exact Nat.zero_testBit k
        rw [tb_less] at hk
        rw [Nat.testBit_and, Nat.zero_testBit]
        cases e : x.toNat.testBit k with
        | false => rfl
        | true =>
          rw [e] at hk
          have : p.testBit k = true := by simpa using hk
          rw [hA k this]; rfl
      have : dang1 m p d x = 2 ^ m := by
        unfold dang1
        rw [if_pos h2, h1]; rfl
      omega
    · have := dang_line h9 hA l (fun y hy => hl y (List.mem_cons_of_mem _ hy)) h
      omega

/-- The dogs are safe, being next (D) or not (W). -/
def SafeD (l : List Int) (m p d : Nat) : Prop := Apart p d ∧ dangL m p d l < 2 ^ m
def SafeW (l : List Int) (m p d : Nat) : Prop := SafeD l m p d ∧ ∀ j, j < m → fr p.testBit d.testBit j = true → SafeD l m (p ||| 2 ^ j) d
theorem SafeD.no {l : List Int} {m p d : Nat} (h9 : m ≤ 9) (hl : okL m l) (h : SafeD l m p d) : hasL l m p.testBit = false := by
  cases e : hasL l m p.testBit with
  | false => rfl
  | true => have := dang_line h9 h.1 l hl e; have := h.2; omega
theorem Apart.up_w {p d j : Nat} (h : Apart p d) (hd : d.testBit j = false) : Apart (p ||| 2 ^ j) d := by
  intro k hk
  rw [Nat.testBit_or, tb_two, Bool.or_eq_true] at hk
  rcases hk with hk | hk
  · exact h k hk
  · have : k = j := by simpa using hk
    rw [this]; exact hd
theorem Apart.up_d {p d i : Nat} (h : Apart p d) (hp : p.testBit i = false) : Apart p (d ||| 2 ^ i) := by
  intro k hk
  rw [Nat.testBit_or, tb_two, h k hk]
  by_cases e : k = i
  · subst e; rw [hp] at hk; cases hk
  · simp [e]
theorem SafeW.first {l : List Int} {m p d : Nat} (h9 : m ≤ 9) (hl : okL m l) (hA : Apart p d) (h : 2 * dangL m p d l < 2 ^ m) : SafeW l m p d := by
  have hn := (dangL_bd (p := p) (d := d) h9 l).1
  refine ⟨⟨hA, by omega⟩, fun j hj hf => ?_⟩
  obtain ⟨f1, f2⟩ := (fr_iff _ _ _).1 hf
  have := dang_double (d := d) h9 hj f1 l hl
  exact ⟨hA.up_w f2, by omega⟩
theorem SafeD.move {l : List Int} {m p d i : Nat} (h9 : m ≤ 9) (hl : okL m l) (h : SafeD l m p d) (hf : fr p.testBit d.testBit i = true)
    (hb : ∀ j, j < m → fr p.testBit d.testBit j = true → dangL m p (d ||| 2 ^ i) l ≤ dangL m p (d ||| 2 ^ j) l) : SafeW l m p (d ||| 2 ^ i) := by
  obtain ⟨f1, f2⟩ := (fr_iff _ _ _).1 hf
  have hle := dang_less (p := p) (d := d) (i := i) h9 l
  have h2 := h.2
  have hA := h.1.up_d f1
  refine ⟨⟨hA, by omega⟩, fun j hj hfj => ?_⟩
  obtain ⟨g1, g2⟩ := (fr_iff _ _ _).1 hfj
  have g3 : d.testBit j = false := by
    rw [Nat.testBit_or, Bool.or_eq_false_iff] at g2
    exact g2.1
  have ht := dang_trade (d := d) (i := i) h9 hj g1 l hl
  have hbj := hb j hj ((fr_iff _ _ _).2 ⟨g1, g3⟩)
  exact ⟨hA.up_w g2, by omega⟩

/-- Careful's spot: free, and the danger is least. -/
theorem carL_spec (l : List Int) (m p d : Nat) (h9 : m ≤ 9) : ∀ k,
    ((carL l m p d k).1 = -1 ∧ ∀ j, j < k → fr p.testBit d.testBit j = false) ∨
    ∃ i, i < k ∧ (carL l m p d k).1 = (i : Int) ∧ (carL l m p d k).2 = dangL m p (d ||| 2 ^ i) l ∧ fr p.testBit d.testBit i = true ∧ ∀ j, j < k → fr p.testBit d.testBit j = true → dangL m p (d ||| 2 ^ i) l ≤ dangL m p (d ||| 2 ^ j) l
  | 0 => .inl ⟨rfl, fun j hj => by omega⟩
  | k + 1 => by
    rw [carL]
    have ih := carL_spec l m p d h9 k
    by_cases hf : fr p.testBit d.testBit k = true
    · rcases ih with ⟨e, hno⟩ | ⟨i, hi, e1, e2, hfi, hb⟩
      · rw [if_pos ⟨hf, .inl (by omega)⟩]
        refine .inr ⟨k, by omega, rfl, rfl, hf, fun j hj hfj => ?_⟩
        by_cases ej : j = k
        · subst ej; omega
        · have := hno j (by omega)
          rw [hfj] at this; cases this
      · by_cases hlt : dangL m p (d ||| 2 ^ k) l < (carL l m p d k).2
        · rw [if_pos ⟨hf, .inr hlt⟩]
          refine .inr ⟨k, by omega, rfl, rfl, hf, fun j hj hfj => ?_⟩
          by_cases ej : j = k
          · subst ej; omega
          · have := hb j (by omega) hfj
            show dangL m p (d ||| 2 ^ k) l ≤ _
            omega
        · rw [if_neg (by rintro ⟨_, h | h⟩ <;> omega)]
          refine .inr ⟨i, by omega, e1, e2, hfi, fun j hj hfj => ?_⟩
          by_cases ej : j = k
          · subst ej; omega
          · exact hb j (by omega) hfj
    · rw [if_neg (fun h => hf h.1)]
      rcases ih with ⟨e, hno⟩ | ⟨i, hi, e1, e2, hfi, hb⟩
      · refine .inl ⟨e, fun j hj => ?_⟩
        by_cases ej : j = k
        · subst ej; simpa using hf
        · exact hno j (by omega)
      · refine .inr ⟨i, by omega, e1, e2, hfi, fun j hj hfj => ?_⟩
        by_cases ej : j = k
        · subst ej; exact (hf hfj).elim
        · exact hb j (by omega) hfj

/-- Who is safe doesn't lose. -/
theorem safe_n (l : List Int) (m : Nat) (h9 : m ≤ 9) (hl : okL m l) : ∀ n p d, cntF m p.testBit d.testBit ≤ n →
    (SafeD l m p d → wins l m p.testBit d.testBit false = false) ∧ (SafeW l m p d → wins l m p.testBit d.testBit true = false) := by
  intro n
  induction n with
  | zero =>
    intro p d hn
    have hno : ∀ i, i < m → fr p.testBit d.testBit i = true → False := fun i hi hf => by have := cnt_pos hi hf; omega
    constructor
    · intro h
      refine Bool.eq_false_iff.2 fun e => ?_
      rcases (wins_d_iff l m _ _).1 e with e | ⟨⟨i, hi, hf⟩, _⟩
      · rw [h.no h9 hl] at e; cases e
      · exact hno i hi hf
    · intro h
      refine Bool.eq_false_iff.2 fun e => ?_
      rcases (wins_w_iff l m _ _).1 e with e | ⟨i, hi, hf, _⟩
      · rw [h.1.no h9 hl] at e; cases e
      · exact hno i hi hf
  | succ n ih =>
    intro p d hn
    constructor
    · intro h
      refine Bool.eq_false_iff.2 fun e => ?_
      rcases (wins_d_iff l m _ _).1 e with e | ⟨⟨i, hi, hf⟩, hall⟩
      · rw [h.no h9 hl] at e; cases e
      · rcases carL_spec l m p d h9 m with ⟨_, hno⟩ | ⟨j, hj, _, _, hfj, hb⟩
        · have := hno i hi
          rw [hf] at this; cases this
        · have hw := hall j hj hfj
          rw [← tb_up] at hw
          have := (ih p (d ||| 2 ^ j) (by rw [tb_up]; have := cnt_upD hj hfj; omega)).2 (h.move h9 hl hfj hb)
          rw [this] at hw; cases hw
    · intro h
      refine Bool.eq_false_iff.2 fun e => ?_
      rcases (wins_w_iff l m _ _).1 e with e | ⟨i, hi, hf, hw⟩
      · rw [h.1.no h9 hl] at e; cases e
      · rw [← tb_up] at hw
        have := (ih (p ||| 2 ^ i) d (by rw [tb_up]; have := cnt_upW hi hf; omega)).1 (h.2 i hi hf)
        rw [this] at hw; cases hw
theorem SafeD.wins {l : List Int} {m p d : Nat} (h9 : m ≤ 9) (hl : okL m l) (h : SafeD l m p d) : A.wins l m p.testBit d.testBit false = false := (safe_n l m h9 hl _ p d (Nat.le_refl _)).1 h
theorem SafeW.wins {l : List Int} {m p d : Nat} (h9 : m ≤ 9) (hl : okL m l) (h : SafeW l m p d) : A.wins l m p.testBit d.testBit true = false := (safe_n l m h9 hl _ p d (Nat.le_refl _)).2 h
end Go.Proofs.Ytbjpjjokamaliaa.A

/- The plain game: pairs that are good keep the wolves from every line. -/
namespace Go.Proofs.Ytbjpjjokamaliaa.A
open Go.RowKit Go.Proofs.YtbjpjjokamaliaaW.PrintWords Go.Proofs.YtbjpjjokamaliaaW.PrintMore

/-- Two spots belong together. -/
def Mate (ps : List S59) (i j : Nat) : Prop := ∃ q ∈ ps, (q.f0 = i ∧ q.f1 = j) ∨ (q.f0 = j ∧ q.f1 = i)
/-- Whatever the wolves have of a pair, the dogs have the rest. -/
def Kept (ps : List S59) (p d : Nat) : Prop := Apart p d ∧ ∀ i j, Mate ps i j → p.testBit i = true → d.testBit j = true
theorem Mate.symm {ps : List S59} {i j : Nat} (h : Mate ps i j) : Mate ps j i := by
  obtain ⟨q, hq, h⟩ := h
  exact ⟨q, hq, h.symm⟩
theorem Kept.empty (ps : List S59) : Kept ps 0 0 := ⟨fun k h => by (rw [Nat.zero_testBit] at h; cases h), fun i j _ h => by (rw [Nat.zero_testBit] at h; cases h)⟩
/-- Every line has a pair. -/
def Meets (m : Nat) (l : List Int) (ps : List S59) : Prop := ∀ x ∈ l, ∃ q ∈ ps, okPr m q ∧ x.toNat.testBit q.f0.toNat = true ∧ x.toNat.testBit q.f1.toNat = true
theorem hasL_sets {m p : Nat} {l : List Int} (hl : okL m l) (h : hasL l m p.testBit = true) : ∃ x ∈ l, ∀ k, x.toNat.testBit k = true → p.testBit k = true := by
  unfold hasL at h
  rw [List.any_eq_true] at h
  obtain ⟨x, hx, hi⟩ := h
  have hb := hl x hx
  have hpw : ((2 ^ m : Nat) : Int) = 2 ^ m := Int.natCast_pow 2 m
  have hex : x = (x.toNat : Int) := by omega
  rw [hex, inL_iff (by omega)] at hi
  have h0 : less x.toNat p = 0 := by simpa using hi
  refine ⟨x, hx, fun k hk => ?_⟩
  have : (less x.toNat p).testBit k = false := by rw [h0]; exact Nat.zero_testBit k
  rw [tb_less, hk] at this
  simpa using this
theorem Kept.no_up {m p d j : Nat} {l : List Int} {ps : List S59} (hl : okL m l) (hm : Meets m l ps) (hne : ∀ q ∈ ps, q.f0 ≠ q.f1) (h : Kept ps p d) (hj : d.testBit j = false) : hasL l m (p ||| 2 ^ j).testBit = false := by
  refine Bool.eq_false_iff.2 fun e => ?_
  obtain ⟨x, hx, hs⟩ := hasL_sets hl e
  obtain ⟨q, hq, ho, h0, h1⟩ := hm x hx
  have e0 := hs _ h0
  have e1 := hs _ h1
  have hne' := hne q hq
  have m01 : Mate ps q.f0.toNat q.f1.toNat := ⟨q, hq, .inl ⟨by have := ho.1; omega, by have := ho.2.2.1; omega⟩⟩
  rw [Nat.testBit_or, tb_two, Bool.or_eq_true] at e0 e1
  rcases e0 with e0 | e0
  · have d1 := h.2 _ _ m01 e0
    rcases e1 with e1 | e1
    · rw [h.1 _ e1] at d1; cases d1
    · have : q.f1.toNat = j := by simpa using e1
      rw [this, hj] at d1; cases d1
  · have j0 : q.f0.toNat = j := by simpa using e0
    rcases e1 with e1 | e1
    · have d0 := h.2 _ _ m01.symm e1
      rw [j0, hj] at d0; cases d0
    · have j1 : q.f1.toNat = j := by simpa using e1
      have a0 := ho.1
      have a1 := ho.2.2.1
      exact hne' (by omega)
theorem Kept.no {m p d : Nat} {l : List Int} {ps : List S59} (hl : okL m l) (hm : Meets m l ps) (h : Kept ps p d) : hasL l m p.testBit = false := by
  refine Bool.eq_false_iff.2 fun e => ?_
  obtain ⟨x, hx, hs⟩ := hasL_sets hl e
  obtain ⟨q, hq, ho, h0, h1⟩ := hm x hx
  have m01 : Mate ps q.f0.toNat q.f1.toNat := ⟨q, hq, .inl ⟨by have := ho.1; omega, by have := ho.2.2.1; omega⟩⟩
  have d1 := h.2 _ _ m01 (hs _ h0)
  rw [h.1 _ (hs _ h1)] at d1; cases d1
/-- Who mates is one. -/
def Single (ps : List S59) : Prop := ∀ i j k, Mate ps i j → Mate ps i k → j = k
/-- The wolves take a spot; its mate, if free, is taken. -/
theorem Kept.mate {p d i j : Nat} {ps : List S59} (h1 : Single ps) (h : Kept ps p d) (hi : d.testBit i = false) (hm : Mate ps i j) (hj : p.testBit j = false) (hij : i ≠ j) : Kept ps (p ||| 2 ^ i) (d ||| 2 ^ j) := by
  refine ⟨(h.1.up_w hi).up_d ?_, fun a b hab ha => ?_⟩
  · rw [Nat.testBit_or, tb_two, hj]
    simpa using Ne.symm hij
  · rw [Nat.testBit_or, tb_two, Bool.or_eq_true] at ha
    rw [Nat.testBit_or, tb_two, Bool.or_eq_true]
    rcases ha with ha | ha
    · exact .inl (h.2 a b hab ha)
    · have : a = i := by simpa using ha
      subst this
      right
      have := h1 a b j hab hm
      simpa using this
/-- The wolves take a spot that has no mate, or whose mate the dogs have. -/
theorem Kept.other {p d i : Nat} {ps : List S59} (h : Kept ps p d) (hi : d.testBit i = false) (hm : ∀ j, Mate ps i j → d.testBit j = true) : Kept ps (p ||| 2 ^ i) d := by
  refine ⟨h.1.up_w hi, fun a b hab ha => ?_⟩
  rw [Nat.testBit_or, tb_two, Bool.or_eq_true] at ha
  rcases ha with ha | ha
  · exact h.2 a b hab ha
  · have : a = i := by simpa using ha
    subst this
    exact hm b hab
theorem Kept.more {p d k : Nat} {ps : List S59} (h : Kept ps p d) (hk : p.testBit k = false) : Kept ps p (d ||| 2 ^ k) :=
  ⟨h.1.up_d hk, fun a b hab ha => by rw [Nat.testBit_or, h.2 a b hab ha]; rfl⟩
/-- A spot of the wolves has no free mate but one that they don't have. -/
theorem Kept.taken {p d i j : Nat} {ps : List S59} (h : Kept ps p d) (hi : d.testBit i = false) (hm : Mate ps i j) : p.testBit j = false := by
  refine Bool.eq_false_iff.2 fun e => ?_
  have := h.2 j i hm.symm e
  rw [hi] at this; cases this

theorem kept_n (l : List Int) (m : Nat) (hl : okL m l) (ps : List S59) (hm : Meets m l ps) (hne : ∀ q ∈ ps, q.f0 ≠ q.f1) (h1 : Single ps) (hlt : ∀ i j, Mate ps i j → i < m) : ∀ n p d, cntF m p.testBit d.testBit ≤ n →
    Kept ps p d → wins l m p.testBit d.testBit true = false := by
  intro n
  induction n with
  | zero =>
    intro p d hn h
    refine Bool.eq_false_iff.2 fun e => ?_
    rcases (wins_w_iff l m _ _).1 e with e | ⟨i, hi, hf, _⟩
    · rw [h.no hl hm] at e; cases e
    · have := cnt_pos hi hf; omega
  | succ n ih =>
    intro p d hn h
    refine Bool.eq_false_iff.2 fun e => ?_
    rcases (wins_w_iff l m _ _).1 e with e | ⟨i, hi, hf, hw⟩
    · rw [h.no hl hm] at e; cases e
    · obtain ⟨f1, f2⟩ := (fr_iff _ _ _).1 hf
      rw [← tb_up] at hw
      rcases (wins_d_iff l m _ _).1 hw with e | ⟨⟨k, hk, hfk⟩, hall⟩
      · rw [h.no_up hl hm hne f2] at e; cases e
      · have hc := cnt_upW hi hf
        rw [← tb_up] at hc
        have hcont : ∀ r, r < m → fr (p ||| 2 ^ i).testBit d.testBit r = true → Kept ps (p ||| 2 ^ i) (d ||| 2 ^ r) → False := by
          intro r hr hfr hk
          have hw2 := hall r hr hfr
          rw [← tb_up] at hw2
          have := ih (p ||| 2 ^ i) (d ||| 2 ^ r) (by rw [tb_up d r]; have := cnt_upD hr hfr; omega) hk
          rw [this] at hw2; cases hw2
        by_cases hex : ∃ j, Mate ps i j ∧ d.testBit j = false
        · obtain ⟨j, hmj, hdj⟩ := hex
          have hpj := h.taken f2 hmj
          have hij : i ≠ j := by
            intro e
            subst e
            obtain ⟨q, hq, hh⟩ := hmj
            rcases hh with hh | hh <;> exact hne q hq (by omega)
          refine hcont j (hlt j i hmj.symm) ?_ (h.mate h1 f2 hmj hpj hij)
          refine (fr_iff _ _ _).2 ⟨?_, hdj⟩
          rw [Nat.testBit_or, tb_two, hpj]
          simpa using Ne.symm hij
        · have ho := h.other f2 (fun j hmj => by
            cases e : d.testBit j with
            | true => rfl
            | false => exact (hex ⟨j, hmj, e⟩).elim)
          exact hcont k hk hfk (ho.more ((fr_iff _ _ _).1 hfk).1)
end Go.Proofs.Ytbjpjjokamaliaa.A

/- What good pairs are, in the words of the plain game. -/
namespace Go.Proofs.Ytbjpjjokamaliaa.B
open Go.Proofs.Ytbjpjjokamaliaa.A
open Go.RowKit Go.Proofs.YtbjpjjokamaliaaW.PrintWords Go.Proofs.YtbjpjjokamaliaaW.PrintMore

theorem setN_bit (q : S59) (i : Nat) : (setN q).testBit i = true ↔ i = q.f0.toNat ∨ i = q.f1.toNat := by
  unfold setN
  rw [Nat.testBit_or, tb_two, tb_two]
  simp
theorem and_zero {a b : Nat} : a &&& b = 0 ↔ ∀ i, a.testBit i = true → b.testBit i = false := by
  constructor
  · intro h i hi
    have : (a &&& b).testBit i = false := by rw [h]; exact Nat.zero_testBit i
    rw [Nat.testBit_and, hi] at this
    simpa using this
  · intro h
    refine Nat.eq_of_testBit_eq fun i => ?_
    rw [Nat.testBit_and, Nat.zero_testBit]
    cases e : a.testBit i with
    | false => rfl
    | true => rw [h i e]; rfl
theorem goodP_cons {m used : Nat} {prev : Int} {q : S59} {ps : List S59} : goodP m used prev (q :: ps) = true ↔ (0 ≤ q.f0 ∧ q.f0 < q.f1 ∧ q.f1 < m ∧ used &&& setN q = 0 ∧ prev < q.f0) ∧ goodP m (used ||| setN q) q.f0 ps = true := by
  rw [goodP]
  simp only [Bool.and_eq_true, decide_eq_true_eq, and_assoc]
theorem goodP_mem {m : Nat} : ∀ (ps : List S59) (used : Nat) (prev : Int), goodP m used prev ps = true → ∀ q ∈ ps, 0 ≤ q.f0 ∧ q.f0 < q.f1 ∧ q.f1 < m ∧ used &&& setN q = 0
  | [], _, _, _, q, hq => by cases hq
  | a :: ps, used, prev, h, q, hq => by
    obtain ⟨⟨h1, h2, h3, h4, _⟩, hr⟩ := goodP_cons.1 h
    rcases List.mem_cons.1 hq with rfl | hq
    · exact ⟨h1, h2, h3, h4⟩
    · obtain ⟨g1, g2, g3, g4⟩ := goodP_mem ps _ _ hr q hq
      refine ⟨g1, g2, g3, ?_⟩
      rw [and_zero] at g4 ⊢
      intro i hi
      exact g4 i (by rw [Nat.testBit_or, hi]; rfl)
theorem goodP_one {m : Nat} : ∀ (ps : List S59) (used : Nat) (prev : Int), goodP m used prev ps = true → ∀ q ∈ ps, ∀ q' ∈ ps, ∀ i, (setN q).testBit i = true → (setN q').testBit i = true → q = q'
  | [], _, _, _, q, hq, _, _, _, _, _ => by cases hq
  | a :: ps, used, prev, h, q, hq, q', hq', i, hi, hi' => by
    obtain ⟨_, hr⟩ := goodP_cons.1 h
    have hx : ∀ b ∈ ps, (setN a).testBit i = true → (setN b).testBit i = true → False := by
      intro b hb h1 h2
      have := (goodP_mem ps _ _ hr b hb).2.2.2
      rw [and_zero] at this
      have := this i (by rw [Nat.testBit_or, h1]; simp)
      rw [h2] at this; cases this
    rcases List.mem_cons.1 hq with e1 | k1
    · rcases List.mem_cons.1 hq' with e2 | k2
      · rw [e1, e2]
      · rw [e1] at hi
        exact (hx q' k2 hi hi').elim
    · rcases List.mem_cons.1 hq' with e2 | k2
      · rw [e2] at hi'
        exact (hx q k1 hi' hi).elim
      · exact goodP_one ps _ _ hr q k1 q' k2 i hi hi'
theorem good_single {m : Nat} {ps : List S59} (h : goodP m 0 (-1) ps = true) : Single ps := by
  rintro i j k ⟨q, hq, h1⟩ ⟨q', hq', h2⟩
  have g := goodP_mem ps _ _ h q hq
  have b1 : (setN q).testBit i = true := by rw [setN_bit]; omega
  have b2 : (setN q').testBit i = true := by rw [setN_bit]; omega
  have := goodP_one ps _ _ h q hq q' hq' i b1 b2
  subst this
  omega
theorem good_ne {m : Nat} {ps : List S59} (h : goodP m 0 (-1) ps = true) : ∀ q ∈ ps, q.f0 ≠ q.f1 := fun q hq => by have := goodP_mem ps _ _ h q hq; omega
theorem good_lt {m : Nat} {ps : List S59} (h : goodP m 0 (-1) ps = true) : ∀ i j, Mate ps i j → i < m := by
  rintro i j ⟨q, hq, h1⟩
  have := goodP_mem ps _ _ h q hq
  omega
theorem met_meets {m : Nat} {l : List Int} {ps : List S59} (h : goodP m 0 (-1) ps = true) (hm : metB l ps = true) : Meets m l ps := by
  intro x hx
  unfold metB at hm
  have := List.all_eq_true.1 hm x hx
  rw [List.any_eq_true] at this
  obtain ⟨q, hq, hi⟩ := this
  have g := goodP_mem ps _ _ h q hq
  unfold inP at hi
  have h0 : less (setN q) x.toNat = 0 := by simpa using hi
  have hb : ∀ k, (setN q).testBit k = true → x.toNat.testBit k = true := by
    intro k hk
    have : (less (setN q) x.toNat).testBit k = false := by rw [h0]; exact Nat.zero_testBit k
    rw [tb_less, hk] at this
    simpa using this
  exact ⟨q, hq, ⟨by omega, by omega, by omega, by omega⟩, hb _ ((setN_bit q _).2 (.inl rfl)), hb _ ((setN_bit q _).2 (.inr rfl))⟩
theorem ansL_spec (i : Nat) : ∀ ps : List S59, (∀ q ∈ ps, 0 ≤ q.f0 ∧ 0 ≤ q.f1) → (ansL i ps = -1 ∧ ∀ j, ¬ Mate ps i j) ∨ ∃ j : Nat, ansL i ps = j ∧ Mate ps i j
  | [], _ => .inl ⟨rfl, fun j ⟨q, hq, _⟩ => by cases hq⟩
  | a :: ps, hp => by
    have ha := hp a (List.mem_cons_self ..)
    rw [ansL]
    by_cases e0 : (i : Int) = a.f0
    · rw [if_pos e0]
      exact .inr ⟨a.f1.toNat, by omega, a, List.mem_cons_self .., .inl ⟨e0.symm, by omega⟩⟩
    · rw [if_neg e0]
      by_cases e1 : (i : Int) = a.f1
      · rw [if_pos e1]
        exact .inr ⟨a.f0.toNat, by omega, a, List.mem_cons_self .., .inr ⟨by omega, e1.symm⟩⟩
      · rw [if_neg e1]
        rcases ansL_spec i ps (fun q hq => hp q (List.mem_cons_of_mem _ hq)) with ⟨h, hno⟩ | ⟨j, h, q, hq, hm⟩
        · refine .inl ⟨h, fun j ⟨q, hq, hm⟩ => ?_⟩
          rcases List.mem_cons.1 hq with rfl | hq
          · omega
          · exact hno j ⟨q, hq, hm⟩
        · exact .inr ⟨j, h, q, List.mem_cons_of_mem _ hq, hm⟩
/-- Good pairs: the dogs don't lose from where the pairs are kept. -/
theorem pairs_win {m : Nat} {l : List Int} {ps : List S59} (hl : okL m l) (h : isPB m l ps = true) {p d : Nat} (hk : Kept ps p d) : wins l m p.testBit d.testBit true = false := by
  unfold isPB at h
  rw [Bool.and_eq_true] at h
  exact kept_n l m hl ps (met_meets h.1 h.2) (good_ne h.1) (good_single h.1) (good_lt h.1) _ p d (Nat.le_refl _) hk
end Go.Proofs.Ytbjpjjokamaliaa.B

/- The search for a pairing: what it finds is one, and it finds one with the fewest pairs if there is any. -/
namespace Go.Proofs.Ytbjpjjokamaliaa.B
open Go.Proofs.Ytbjpjjokamaliaa.A
open Go.RowKit Go.Proofs.YtbjpjjokamaliaaW.PrintWords Go.Proofs.YtbjpjjokamaliaaW.PrintMore

def useL (u : Nat) : List S59 → Nat
  | [] => u
  | q :: ps => useL (u ||| setN q) ps
def lastF (pv : Int) : List S59 → Int
  | [] => pv
  | q :: ps => lastF q.f0 ps
theorem goodP_app {m : Nat} : ∀ (xs ys : List S59) (u : Nat) (pv : Int), goodP m u pv (xs ++ ys) = (goodP m u pv xs && goodP m (useL u xs) (lastF pv xs) ys)
  | [], ys, u, pv => by simp [goodP, useL, lastF]
  | q :: xs, ys, u, pv => by
    rw [List.cons_append, goodP, goodP, goodP_app xs ys, useL, lastF]
    simp only [Bool.and_assoc]
theorem useL_app : ∀ (xs ys : List S59) (u : Nat), useL u (xs ++ ys) = useL (useL u xs) ys
  | [], ys, u => rfl
  | q :: xs, ys, u => by rw [List.cons_append, useL, useL, useL_app xs ys]
theorem lastF_app : ∀ (xs ys : List S59) (pv : Int), lastF pv (xs ++ ys) = lastF (lastF pv xs) ys
  | [], ys, pv => rfl
  | q :: xs, ys, pv => by rw [List.cons_append, lastF, lastF, lastF_app xs ys]
theorem lastOk_iff (ps : List S59) (a : Nat) : lastOk ps a = true ↔ lastF (-1) ps ≤ (a : Int) := by
  rcases List.eq_nil_or_concat ps with rfl | ⟨xs, q, rfl⟩
  · simp [lastOk, lastF]
  · rw [List.concat_eq_append, lastF_app]
    simp [lastOk, lastF]
theorem useL_last {ps : List S59} {a : Nat} (h0 : ∀ q ∈ ps, 0 ≤ q.f0) (h : lastF (-1) ps = (a : Int)) : (useL 0 ps).testBit a = true := by
  rcases List.eq_nil_or_concat ps with rfl | ⟨xs, q, rfl⟩
  · simp [lastF] at h
  · rw [List.concat_eq_append] at h h0 ⊢
    rw [lastF_app] at h
    rw [useL_app]
    simp only [lastF] at h
    simp only [useL]
    have := h0 q (by simp)
    have hb : (setN q).testBit a = true := by rw [setN_bit]; omega
    rw [Nat.testBit_or, hb]; simp
theorem firstN_ex {α : Type} {f : Nat → Option α} {r : α} : ∀ {k}, firstN f k = some r → ∃ i, i < k ∧ f i = some r
  | 0, h => by cases h
  | k + 1, h => by
    cases e : firstN f k with
    | some r' =>
      have := firstN_hit e 1
      rw [this] at h
      cases h
      obtain ⟨i, hi, hf⟩ := firstN_ex e
      exact ⟨i, by omega, hf⟩
    | none =>
      rw [firstN_succ_none e] at h
      exact ⟨k, by omega, h⟩
theorem firstN_first {α : Type} {f : Nat → Option α} {i n : Nat} (hi : i < n) (h : (f i).isSome = true) : ∃ j, j ≤ i ∧ ∃ r, f j = some r ∧ firstN f n = some r := by
  cases e : firstN f i with
  | some r =>
    obtain ⟨j, hj, hf⟩ := firstN_ex e
    have := firstN_hit e (n - i)
    rw [show i + (n - i) = n by omega] at this
    exact ⟨j, by omega, r, hf, this⟩
  | none =>
    obtain ⟨r, hr⟩ := Option.isSome_iff_exists.1 h
    exact ⟨i, Nat.le_refl _, r, hr, firstN_some hi e hr⟩
theorem srch_sound (l : List Int) (m : Nat) : ∀ k used ps r, srch l m k used ps = some r → goodP m 0 (-1) ps = true → useL 0 ps = used → isPB m l r = true ∧ r.length = ps.length + k := by
  intro k
  induction k with
  | zero =>
    intro used ps r h hg _
    rw [srch] at h
    split at h
    · rename_i hm
      cases h
      unfold isPB
      rw [hg, hm]
      exact ⟨rfl, rfl⟩
    · cases h
  | succ k ih =>
    intro used ps r h hg hu
    rw [srch] at h
    obtain ⟨a, ha, h⟩ := firstN_ex h
    obtain ⟨b, hb, h⟩ := firstN_ex h
    by_cases hc : a < b ∧ okB used ps a b = true
    · rw [if_pos hc] at h
      obtain ⟨hab, hok⟩ := hc
      unfold okB at hok
      rw [Bool.and_eq_true, decide_eq_true_eq] at hok
      obtain ⟨h1, h2⟩ := hok
      rw [lastOk_iff] at h2
      have hne : lastF (-1) ps ≠ (a : Int) := by
        intro e
        have hb := useL_last (fun q hq => (goodP_mem ps _ _ hg q hq).1) e
        rw [hu] at hb
        have := (and_zero.1 h1) a hb
        have hs : (setN (pr a b)).testBit a = true := by rw [setN_bit]; simp [pr]
        rw [hs] at this; cases this
      have hg2 : goodP m 0 (-1) (ps ++ [pr a b]) = true := by
        rw [goodP_app, hg, hu, Bool.true_and, goodP_cons]
        exact ⟨⟨by show (0 : Int) ≤ (a : Int); omega, by show (a : Int) < (b : Int); omega, by show (b : Int) < (m : Int); omega, h1, by show lastF (-1) ps < (a : Int); omega⟩, rfl⟩
      obtain ⟨r1, r2⟩ := ih _ _ r h hg2 (by rw [useL_app, hu]; rfl)
      exact ⟨r1, by rw [r2]; simp; omega⟩
    · rw [if_neg hc] at h; cases h
theorem srch_complete (l : List Int) (m : Nat) : ∀ (rest : List S59) (used : Nat) (ps : List S59), goodP m 0 (-1) (ps ++ rest) = true → metB l (ps ++ rest) = true → useL 0 ps = used → (srch l m rest.length used ps).isSome = true
  | [], used, ps, _, hm, _ => by
    rw [List.append_nil] at hm
    show (srch l m 0 used ps).isSome = true
    rw [srch, if_pos hm]
    rfl
  | q :: rest, used, ps, hg, hm, hu => by
    have hsplit : ps ++ q :: rest = (ps ++ [q]) ++ rest := by simp
    have hq := goodP_mem _ _ _ hg q (by simp)
    have hqe : pr q.f0.toNat q.f1.toNat = q := by
      cases q with
      | mk x y =>
        have h0 : (0 : Int) ≤ x := hq.1
        have h1 : x < y := hq.2.1
        show (⟨((x.toNat : Nat) : Int), ((y.toNat : Nat) : Int)⟩ : S59) = ⟨x, y⟩
        rw [Int.toNat_of_nonneg h0, Int.toNat_of_nonneg (by omega)]
    have hg1 := hg
    rw [goodP_app, Bool.and_eq_true, goodP_cons] at hg1
    obtain ⟨hgp, ⟨_, _, _, h4, h5⟩, _⟩ := hg1
    rw [hu] at h4
    rw [hsplit] at hg hm
    have ih := srch_complete l m rest (used ||| setN q) (ps ++ [q]) hg hm (by rw [useL_app, hu]; rfl)
    have hcond : q.f0.toNat < q.f1.toNat ∧ okB used ps q.f0.toNat q.f1.toNat = true := by
      refine ⟨by omega, ?_⟩
      unfold okB
      rw [Bool.and_eq_true, decide_eq_true_eq, hqe, lastOk_iff]
      exact ⟨h4, by omega⟩
    show (srch l m (rest.length + 1) used ps).isSome = true
    rw [srch]
    have hin : (firstN (fun b => if q.f0.toNat < b ∧ okB used ps q.f0.toNat b = true then srch l m rest.length (used ||| setN (pr q.f0.toNat b)) (ps ++ [pr q.f0.toNat b]) else none) m).isSome = true := by
      obtain ⟨_, _, r, _, hr⟩ := firstN_first (f := fun b => if q.f0.toNat < b ∧ okB used ps q.f0.toNat b = true then srch l m rest.length (used ||| setN (pr q.f0.toNat b)) (ps ++ [pr q.f0.toNat b]) else none) (i := q.f1.toNat) (n := m) (by omega) (by
        show (if q.f0.toNat < q.f1.toNat ∧ okB used ps q.f0.toNat q.f1.toNat = true then _ else none).isSome = true
        rw [if_pos hcond, hqe]
        exact ih)
      rw [hr]; rfl
    obtain ⟨_, _, r, _, hr⟩ := firstN_first (f := fun a => firstN (fun b => if a < b ∧ okB used ps a b = true then srch l m rest.length (used ||| setN (pr a b)) (ps ++ [pr a b]) else none) m) (i := q.f0.toNat) (n := m) (by omega) hin
    rw [hr]; rfl

theorem pop_put_table : (List.range 512).all (fun u => (List.range 9).all fun i => u.testBit i || decide (pop 9 (u ||| 2 ^ i) = pop 9 u + 1)) = true := by decide +kernel
theorem pop_put {u i : Nat} (hu : u < 512) (hi : i < 9) (h : u.testBit i = false) : pop 9 (u ||| 2 ^ i) = pop 9 u + 1 := by
  have h1 := List.all_eq_true.1 pop_put_table u (List.mem_range.2 hu)
  have h2 := List.all_eq_true.1 h1 i (List.mem_range.2 hi)
  rw [h] at h2
  simpa using h2
theorem good_pop {m : Nat} (h9 : m ≤ 9) : ∀ (ps : List S59) (u : Nat) (pv : Int), u < 2 ^ m → goodP m u pv ps = true → pop 9 (useL u ps) = pop 9 u + 2 * ps.length ∧ useL u ps < 2 ^ m
  | [], u, pv, hu, _ => ⟨rfl, hu⟩
  | q :: ps, u, pv, hu, h => by
    obtain ⟨⟨h1, h2, h3, h4, _⟩, hr⟩ := goodP_cons.1 h
    have hs : setN q < 2 ^ m := setN_lt ⟨by omega, by omega, by omega, by omega⟩
    have hu2 := or_lt hu hs
    obtain ⟨i1, i2⟩ := good_pop h9 ps _ _ hu2 hr
    have hz := and_zero.1 h4
    have b0 : u.testBit q.f0.toNat = false := by
      refine Bool.eq_false_iff.2 fun e => ?_
      have := hz _ e
      rw [(setN_bit q _).2 (.inl rfl)] at this; cases this
    have b1 : u.testBit q.f1.toNat = false := by
      refine Bool.eq_false_iff.2 fun e => ?_
      have := hz _ e
      rw [(setN_bit q _).2 (.inr rfl)] at this; cases this
    have hp2 : (2 : Nat) ^ m ≤ 512 := Nat.pow_le_pow_right (n := 2) (show 0 < 2 by decide) h9
    have p1 := pop_put (u := u) (i := q.f0.toNat) (Nat.lt_of_lt_of_le hu hp2) (by omega) b0
    have p2 := pop_put (u := u ||| 2 ^ q.f0.toNat) (i := q.f1.toNat) (Nat.lt_of_lt_of_le (or_lt hu (Nat.pow_lt_pow_right (by decide) (by omega))) hp2) (by omega) (by
      rw [Nat.testBit_or, b1, tb_two]
      simp
      omega)
    have e : u ||| setN q = u ||| 2 ^ q.f0.toNat ||| 2 ^ q.f1.toNat := by unfold setN; rw [Nat.or_assoc]
    refine ⟨?_, i2⟩
    show pop 9 (useL (u ||| setN q) ps) = pop 9 u + 2 * (ps.length + 1)
    rw [i1, e, p2, p1]
    omega
theorem pairF_sound {l : List Int} {m : Nat} {b : List S59} (h : pairF l m = some b) : isPB m l b = true := by
  unfold pairF at h
  obtain ⟨k, _, hk⟩ := firstN_ex h
  exact (srch_sound l m k 0 [] b hk rfl rfl).1
theorem pairF_least {l : List Int} {m : Nat} (h9 : m ≤ 9) {p : List S59} (h : isPB m l p = true) : ∃ b, pairF l m = some b ∧ b.length ≤ p.length := by
  unfold isPB at h
  rw [Bool.and_eq_true] at h
  have hs := srch_complete l m p 0 [] h.1 h.2 rfl
  obtain ⟨g1, g2⟩ := good_pop h9 p 0 (-1) (Nat.two_pow_pos m) h.1
  have hle := pop_le h9 g2
  have h0 : pop 9 0 = 0 := by decide
  obtain ⟨j, hj, r, hf, hr⟩ := firstN_first (f := fun k => srch l m k 0 []) (i := p.length) (n := m / 2 + 1) (by omega) hs
  refine ⟨r, hr, ?_⟩
  have := (srch_sound l m j 0 [] r hf rfl rfl).2
  simp at this
  omega
end Go.Proofs.Ytbjpjjokamaliaa.B

/- Pairs that are kept, in positions that are written: a move of the wolves and the answer of the dogs. -/
namespace Go.Proofs.Ytbjpjjokamaliaa.B
open Go.Proofs.Ytbjpjjokamaliaa.A
open Go.RowKit Go.Proofs.YtbjpjjokamaliaaW.PrintWords Go.Proofs.YtbjpjjokamaliaaW.PrintMore

def KeptS (ps : List S59) (s : ByteArray) : Prop := Kept ps (msk 119 s s.size) (msk 100 s s.size)
theorem msk_out {s : ByteArray} {i c c' : Int} (h : ¬ (0 ≤ i ∧ i < s.size)) (h0 : 0 ≤ c) (h1 : c < 256) : msk c' (placedS s i c) s.size = msk c' s s.size := by
  refine Nat.eq_of_testBit_eq fun k => ?_
  rw [msk_tb, msk_tb]
  by_cases hk : k < s.size
  · rw [placedS_bt s i c k hk h0 h1, if_neg (by omega)]
  · simp [hk]
theorem free_bits {s : ByteArray} {j : Nat} (h : bt s j = 46) (c : Int) (hc : c ≠ 46) (n : Nat) : (msk c s n).testBit j = false := by
  rw [msk_tb, h]
  simp [Ne.symm hc]
/-- What the answer is good for. -/
theorem kept_step {m : Nat} {ps : List S59} (hg : goodP m 0 (-1) ps = true) {s : ByteArray} (hs : s.size = m) (hk : KeptS ps s) {j : Nat} (hj : j < m) (h46 : bt s j = 46) :
    (-1 ≤ ansL j ps ∧ ansL j ps < m) ∧
    (∀ a : Nat, ansL j ps = a → a < m → bt (placedS s j 119) a = 46 → KeptS ps (placedS (placedS s j 119) a 100)) ∧
    ((∀ a : Nat, ansL j ps = a → bt (placedS s j 119) a ≠ 46) → (∀ i : Nat, i < m → okC (bt s i) = true) → KeptS ps (placedS s j 119)) := by
  have hj' : j < s.size := by omega
  have hw := msk_put (s := s) (c := 119) hj' (by decide) (by decide)
  have hd := msk_keep (s := s) (c := 119) (c' := 100) hj' h46 (by decide) (by decide) (by decide) (by decide)
  have f1 := free_bits h46 119 (by decide) s.size
  have f2 := free_bits h46 100 (by decide) s.size
  have hpos : ∀ q ∈ ps, 0 ≤ q.f0 ∧ 0 ≤ q.f1 := fun q hq => by have := goodP_mem ps _ _ hg q hq; omega
  have hspec := ansL_spec j ps hpos
  refine ⟨?_, ?_, ?_⟩
  · rcases hspec with ⟨h, _⟩ | ⟨a, h, hm⟩
    · omega
    · have := good_lt hg a j hm.symm
      omega
  · intro a ha ham hb
    rcases hspec with ⟨h, _⟩ | ⟨a', h, hm⟩
    · omega
    · have e : a' = a := by omega
      subst e
      have hne : j ≠ a' := by
        intro e
        subst e
        rw [placedS_bt s j 119 j hj' (by decide) (by decide), if_pos rfl] at hb
        cases hb
      have ha' : a' < (placedS s j 119).size := by rw [placedS_size]; omega
      have e1 := msk_put (s := placedS s j 119) (c := 100) ha' (by decide) (by decide)
      have e2 := msk_keep (s := placedS s j 119) (c := 100) (c' := 119) ha' hb (by decide) (by decide) (by decide) (by decide)
      rw [placedS_size] at e1 e2
      unfold KeptS
      rw [placedS_size, placedS_size, e1, e2, hw, hd]
      exact Kept.mate (good_single hg) hk f2 hm (hk.taken f2 hm) hne
  · intro hno hok
    unfold KeptS
    rw [placedS_size, hw, hd]
    refine Kept.other hk f2 fun a hm => ?_
    have ham := good_lt hg a j hm.symm
    have hp := hk.taken f2 hm
    rcases hspec with ⟨_, h⟩ | ⟨a', h, hm'⟩
    · exact (h a hm).elim
    · have e := good_single hg j a a' hm hm'
      subst e
      have hb := hno a h
      have hne : j ≠ a := by
        intro e
        subst e
        obtain ⟨q, hq, hh⟩ := hm
        have := good_ne hg q hq
        have := hpos q hq
        omega
      rw [placedS_bt s j 119 a (by omega) (by decide) (by decide), if_neg (by omega)] at hb
      have ho := hok a ham
      rw [msk_tb] at hp ⊢
      have hlt : a < s.size := by omega
      simp [hlt] at hp ⊢
      simp [okC, hp, hb] at ho
      exact ho
/-- The dogs take any other free spot, or none. -/
theorem kept_any {ps : List S59} {s : ByteArray} (hk : KeptS ps s) (c : Int) (h : (c = -1) ∨ ∃ i : Nat, c = i ∧ i < s.size ∧ bt s i = 46) : KeptS ps (placedS s c 100) := by
  unfold KeptS
  rw [placedS_size]
  rcases h with rfl | ⟨i, rfl, hi, h46⟩
  · rw [msk_out (by omega) (by decide) (by decide), msk_out (by omega) (by decide) (by decide)]
    exact hk
  · rw [msk_put hi (by decide) (by decide), msk_keep hi h46 (by decide) (by decide) (by decide) (by decide)]
    exact hk.more (free_bits h46 119 (by decide) s.size)
theorem KeptS.win {m : Nat} {l : List Int} {ps : List S59} (hl : okL m l) (h : isPB m l ps = true) {s : ByteArray} (hs : s.size = m) (hk : KeptS ps s) : winS l s true = false := by
  unfold winS
  rw [hs]
  refine pairs_win hl h ?_
  unfold KeptS at hk
  rw [hs] at hk
  exact hk
end Go.Proofs.Ytbjpjjokamaliaa.B

/- AmbushPaired, walked: it returns true. -/
namespace Go.Proofs.Ytbjpjjokamaliaa.B
open Go.Proofs.Ytbjpjjokamaliaa.A
open Go.RowKit Go.Proofs.YtbjpjjokamaliaaW.PrintWords Go.Proofs.YtbjpjjokamaliaaW.PrintLast Go.Proofs.YtbjpjjokamaliaaW.PrintMore

set_option maxRecDepth 100000 in
set_option maxHeartbeats 1600000 in
theorem paired_few (m : Int) (A : Option Addr) (c : Nat) (l : List Int) (A2 : Option Addr) (n2 c2 : Nat) (A3 : Option Addr) (n3 c3 : Nat) (w : World) (hr : Kd.C (Kd.int .i64) w A l.length l) (hc : l.length ≤ c) (h40 : ¬ (l.length : Int) ≤ 40) :
    Calls Try.prog 8 #[.int .i64 m, .slice A l.length c, .slice A2 n2 c2, .slice A3 n3 c3] w fun e w' => e = .returned (.bool true) ∧ Below w.heap.size w w' := by
  have HR := Aside0.mk hr
  have HC := Aside0.mk hc
  have HF : Aside0 (drovewaylaw04_few.f l (⟨#[]⟩ : ByteArray) (⟨#[]⟩ : ByteArray) = some false) := ⟨by rw [few_eq, decide_eq_false (fun h => h40 h.1)]⟩
  clear hr hc h40
  go_enter Try.func8, Try.ntmps8
  go_wp2_with (first
    | (go_at_call 11; refine (drovewaylaw04_few.calls A c l _ _ false _ HR.out HC.out HF.out).mono ?_; rintro e w' ⟨rfl, hb'⟩; have HB := Aside0.mk hb'.below; clear hb')
    | (go_at_call 12; refine (drovewaylaw04_alive.calls true _ rfl).mono ?_; rintro e w2 ⟨rfl, hb2⟩; have HB2 := Aside0.mk (below_then HB.out HB.out.size hb2); clear hb2))
  go_ret
  exact ⟨rfl, HB2.out⟩

set_option maxRecDepth 100000 in
set_option maxHeartbeats 1600000 in
theorem paired_ps (m : Int) (A : Option Addr) (c : Nat) (l : List Int) (A2 : Option Addr) (n2 c2 : Nat) (A3 : Option Addr) (n3 c3 : Nat) (w : World) (hr : Kd.C (Kd.int .i64) w A l.length l) (hc : l.length ≤ c) (h40 : (l.length : Int) ≤ 40) (h2 : (n2 : Int) > 40) :
    Calls Try.prog 8 #[.int .i64 m, .slice A l.length c, .slice A2 n2 c2, .slice A3 n3 c3] w fun e w' => e = .returned (.bool true) ∧ Below w.heap.size w w' := by
  have HR := Aside0.mk hr
  have HC := Aside0.mk hc
  have HF : Aside0 (drovewaylaw04_few.f l (⟨#[]⟩ : ByteArray) (⟨#[]⟩ : ByteArray) = some true) := ⟨by rw [few_eq, decide_eq_true ⟨h40, by decide, by decide⟩]⟩
  clear hr hc h40
  go_enter Try.func8, Try.ntmps8
  go_wp2_with (first
    | (go_at_call 11; refine (drovewaylaw04_few.calls A c l _ _ true _ HR.out HC.out HF.out).mono ?_; rintro e w' ⟨rfl, hb'⟩; have HB := Aside0.mk hb'.below; clear hb')
    | (go_at_call 12; refine (drovewaylaw04_alive.calls true _ rfl).mono ?_; rintro e w2 ⟨rfl, hb2⟩; have HB2 := Aside0.mk (below_then HB.out HB.out.size hb2); clear hb2))
  go_ret
  exact ⟨rfl, HB2.out⟩

set_option maxRecDepth 100000 in
set_option maxHeartbeats 1600000 in
theorem paired_ms (m : Int) (A : Option Addr) (c : Nat) (l : List Int) (A2 : Option Addr) (n2 c2 : Nat) (A3 : Option Addr) (n3 c3 : Nat) (w : World) (hr : Kd.C (Kd.int .i64) w A l.length l) (hc : l.length ≤ c) (h40 : (l.length : Int) ≤ 40) (h2 : ¬ (n2 : Int) > 40) (h3 : (n3 : Int) > 40) :
    Calls Try.prog 8 #[.int .i64 m, .slice A l.length c, .slice A2 n2 c2, .slice A3 n3 c3] w fun e w' => e = .returned (.bool true) ∧ Below w.heap.size w w' := by
  have HR := Aside0.mk hr
  have HC := Aside0.mk hc
  have HF : Aside0 (drovewaylaw04_few.f l (⟨#[]⟩ : ByteArray) (⟨#[]⟩ : ByteArray) = some true) := ⟨by rw [few_eq, decide_eq_true ⟨h40, by decide, by decide⟩]⟩
  clear hr hc h40
  go_enter Try.func8, Try.ntmps8
  go_wp2_with (first
    | (go_at_call 11; refine (drovewaylaw04_few.calls A c l _ _ true _ HR.out HC.out HF.out).mono ?_; rintro e w' ⟨rfl, hb'⟩; have HB := Aside0.mk hb'.below; clear hb')
    | (go_at_call 12; refine (drovewaylaw04_alive.calls true _ rfl).mono ?_; rintro e w2 ⟨rfl, hb2⟩; have HB2 := Aside0.mk (below_then HB.out HB.out.size hb2); clear hb2))
  go_ret
  exact ⟨rfl, HB2.out⟩

set_option maxRecDepth 100000 in
set_option maxHeartbeats 1600000 in
theorem paired_field (m : Int) (A : Option Addr) (c : Nat) (l : List Int) (A2 : Option Addr) (n2 c2 : Nat) (A3 : Option Addr) (n3 c3 : Nat) (w : World) (hr : Kd.C (Kd.int .i64) w A l.length l) (hc : l.length ≤ c) (h40 : (l.length : Int) ≤ 40) (h2 : ¬ (n2 : Int) > 40) (h3 : ¬ (n3 : Int) > 40) (hF : okF m l ≠ 0) :
    Calls Try.prog 8 #[.int .i64 m, .slice A l.length c, .slice A2 n2 c2, .slice A3 n3 c3] w fun e w' => e = .returned (.bool true) ∧ Below w.heap.size w w' := by
  have HR := Aside0.mk hr
  have HC := Aside0.mk hc
  have HF : Aside0 (drovewaylaw04_few.f l (⟨#[]⟩ : ByteArray) (⟨#[]⟩ : ByteArray) = some true) := ⟨by rw [few_eq, decide_eq_true ⟨h40, by decide, by decide⟩]⟩
  obtain ⟨k, hk⟩ := (Field_ev m l).rounds
  have HK := Aside0.mk hk
  generalize okF m l = E at *
  have hE : (E != 0) = true := by rw [bne_iff_ne]; exact hF
  clear hr hc h40 hF hk
  go_enter Try.func8, Try.ntmps8
  go_wp2_with (first
    | (go_at_call 11; refine (drovewaylaw04_few.calls A c l _ _ true _ HR.out HC.out HF.out).mono ?_; rintro e w' ⟨rfl, hb'⟩; have HB := Aside0.mk hb'.below; clear hb')
    | (go_at_call 17; refine (drovewayref04_Field.calls k m A c l _ _ (Kd.C_below HR.out HB.out) HC.out HK.out).mono ?_; rintro e w3 ⟨rfl, hb3⟩; have HB3 := Aside0.mk (below_then HB.out HB.out.size hb3.below); clear hb3 HB; have HB := HB3; clear HB3)
    | (go_at_call 12; refine (drovewaylaw04_alive.calls true _ rfl).mono ?_; rintro e w2 ⟨rfl, hb2⟩; have HB2 := Aside0.mk (below_then HB.out HB.out.size hb2); clear hb2))
  go_ret
  exact ⟨rfl, HB2.out⟩

set_option maxRecDepth 100000 in
set_option maxHeartbeats 1600000 in
theorem paired_none (m : Nat) (A : Option Addr) (c : Nat) (l : List Int) (A2 : Option Addr) (c2 : Nat) (ps : List S59) (A3 : Option Addr) (n3 c3 : Nat) (w : World) (hr : Kd.C (Kd.int .i64) w A l.length l) (hc : l.length ≤ c) (hr2 : Kd.C k59 w A2 ps.length ps) (hc2 : ps.length ≤ c2)
    (h40 : (l.length : Int) ≤ 40) (h2 : ¬ (ps.length : Int) > 40) (h3 : ¬ (n3 : Int) > 40) (hF : okF m l = 0) (hP : pairF l m = none) :
    Calls Try.prog 8 #[.int .i64 m, .slice A l.length c, .slice A2 ps.length c2, .slice A3 n3 c3] w fun e w' => e = .returned (.bool true) ∧ Below w.heap.size w w' := by
  have HR := Aside0.mk hr
  have HC := Aside0.mk hc
  have HR2 := Aside0.mk hr2
  have HC2 := Aside0.mk hc2
  have HF : Aside0 (drovewaylaw04_few.f l (⟨#[]⟩ : ByteArray) (⟨#[]⟩ : ByteArray) = some true) := ⟨by rw [few_eq, decide_eq_true ⟨h40, by decide, by decide⟩]⟩
  obtain ⟨k, hk⟩ := (Field_ev m l).rounds
  rw [hF] at hk
  have HK := Aside0.mk hk
  have h9 : m ≤ 9 := by have := okF_m hF; omega
  have hI : isPB m l ps = false := by
    refine Bool.eq_false_iff.2 fun e => ?_
    obtain ⟨b, hb, _⟩ := pairF_least h9 e
    rw [hP] at hb; cases hb
  have HI : Aside0 (ambush_IsPairing.f m l ps = some (false, 0)) := ⟨by
    unfold ambush_IsPairing.f
    rw [if_pos (by omega), if_pos hF]
    show some (isPB m l ps, (0 : Int)) = some (false, 0)
    rw [hI]⟩
  have HP : Aside0 (ambush_Pairing.f m l = some ([], 10)) := ⟨by
    unfold ambush_Pairing.f
    rw [if_pos hF]
    show some ((pairF l m).getD [], errS (pairF l m)) = some ([], 10)
    rw [hP]; rfl⟩
  clear hr hc hr2 hc2 h40 hF hk hP hI
  go_enter Try.func8, Try.ntmps8
  go_wp2_with (first
    | (go_at_call 11; refine (drovewaylaw04_few.calls A c l _ _ true _ HR.out HC.out HF.out).mono ?_; rintro e w' ⟨rfl, hb'⟩; have HB := Aside0.mk hb'.below; clear hb')
    | (go_at_call 17; refine (drovewayref04_Field.calls k m A c l _ _ (Kd.C_below HR.out HB.out) HC.out HK.out).mono ?_; rintro e w3 ⟨rfl, hb3⟩; have HB3 := Aside0.mk (below_then HB.out HB.out.size hb3.below); clear hb3)
    | (go_at_call 26; refine (ambush_Pairing.calls m A c l [] 10 _ (Kd.C_below HR.out HB3.out) HC.out HP.out).mono ?_; rintro e w4 ⟨v4, rfl, ho4, hb4⟩; obtain ⟨A4, c4, rfl, _, _⟩ := Kd.R_reads ho4; have HB4 := Aside0.mk (below_then HB3.out HB3.out.size hb4); clear hb4 ho4)
    | (go_at_call 29; refine (ambush_IsPairing.calls m A c l A2 c2 ps false 0 _ (Kd.C_below HR.out HB4.out) HC.out (Kd.C_below HR2.out HB4.out) HC2.out HI.out).mono ?_; rintro e w5 ⟨rfl, hb5⟩; have HB5 := Aside0.mk (below_then HB4.out HB4.out.size hb5); clear hb5)
    | (go_at_call 12; refine (drovewaylaw04_alive.calls true _ rfl).mono ?_; rintro e w2 ⟨rfl, hb2⟩; have HB2 := Aside0.mk (below_then HB5.out HB5.out.size hb2); clear hb2))
  go_ret
  exact ⟨rfl, HB2.out⟩

end Go.Proofs.Ytbjpjjokamaliaa.B

/- AmbushPaired, walked where there is a pairing: it returns true. -/
namespace Go.Proofs.Ytbjpjjokamaliaa.B
open Go.Proofs.Ytbjpjjokamaliaa.A
open Go.RowKit Go.Proofs.YtbjpjjokamaliaaW.PrintWords Go.Proofs.YtbjpjjokamaliaaW.PrintLast Go.Proofs.YtbjpjjokamaliaaW.PrintMore

/-- A position in the middle of the game. -/
structure MidS (m : Nat) (l : List Int) (P : List S59) (s : ByteArray) : Prop where
  size : s.size = m
  ok : okP m l s = 0
  kept : KeptS P s
theorem MidS.winW {m : Nat} {l : List Int} {P : List S59} {s : ByteArray} (hF : okF m l = 0) (hP : isPB m l P = true) (h : MidS m l P s) : ambush_Winner.f m l s (⟨#[119]⟩ : ByteArray) = some (⟨#[100]⟩, 0) := by
  have := winner_let h.ok true
  rw [KeptS.win (okF_L hF) hP h.size h.kept] at this
  exact this
theorem MidS.winD {m : Nat} {l : List Int} {P : List S59} {s : ByteArray} (hF : okF m l = 0) (hP : isPB m l P = true) (h : MidS m l P s) : ambush_Winner.f m l s (⟨#[100]⟩ : ByteArray) = some (⟨#[100]⟩, 0) := by
  have hw := KeptS.win (okF_L hF) hP h.size h.kept
  have hd : winS l s false = false := by
    refine Bool.eq_false_iff.2 fun e => ?_
    rw [winS_tempo e] at hw; cases hw
  have := winner_let h.ok false
  rw [hd] at this
  exact this
theorem mid_empty {m : Nat} {l : List Int} (hF : okF m l = 0) (P : List S59) : ∃ t k, drovewayref04_Written.f k m 0 0 = some t ∧ MidS m l P t := by
  have h9 : m ≤ 9 := by have := okF_m hF; omega
  obtain ⟨t, ht, hb, he⟩ := Written_ev (m := m) (w := 0) (d := 0) h9
  obtain ⟨k, hk⟩ := he.rounds
  refine ⟨t, k, hk, ht, Written_ok hF ht hb, ?_⟩
  unfold KeptS
  rw [ht, Written_msk ht hb (Nat.two_pow_pos m), Written_mskd ht hb (Nat.two_pow_pos m) (fun k hk => by rw [Nat.zero_testBit] at hk; cases hk)]
  exact Kept.empty P
/-- One round of the game. -/
theorem mid_round {m : Nat} {l : List Int} {P : List S59} {s : ByteArray} (hP : isPB m l P = true) (h : MidS m l P s) {j : Nat} (hj : j < m) (h46 : bt s j = 46) :
    (-1 ≤ ansL j P ∧ ansL j P < m) ∧
    (∀ a : Nat, ansL j P = a → bt (placedS s j 119) a = 46 → MidS m l P (placedS (placedS s j 119) a 100) ∧ freeC (placedS (placedS s j 119) a 100) m + 2 = freeC s m) ∧
    ((∀ a : Nat, ansL j P = a → bt (placedS s j 119) a ≠ 46) → ∀ c : Int, (c = -1 ∨ ∃ i : Nat, c = i ∧ i < m ∧ bt (placedS s j 119) i = 46) → MidS m l P (placedS (placedS s j 119) c 100) ∧ freeC (placedS (placedS s j 119) c 100) m < freeC s m) := by
  have hg : goodP m 0 (-1) P = true := by unfold isPB at hP; rw [Bool.and_eq_true] at hP; exact hP.1
  have hs := h.size
  obtain ⟨a1, a2, a3⟩ := kept_step hg hs h.kept hj h46
  have hok1 : okP m l (placedS s j 119) = 0 := okP_placed h.ok j 119 rfl (by decide) (by decide)
  have f1 := freeC_placed (s := s) (i := j) (c := 119) (by omega) h46 (by decide) (by decide) (by decide) m (by omega)
  rw [if_pos hj] at f1
  have hs1 : (placedS s j 119).size = m := by rw [placedS_size]; exact hs
  refine ⟨a1, fun a ha hb => ?_, fun hno c hc => ?_⟩
  · have ham : a < m := by omega
    refine ⟨⟨by rw [placedS_size]; exact hs1, okP_placed hok1 a 100 rfl (by decide) (by decide), a2 a ha ham hb⟩, ?_⟩
    have f2 := freeC_placed (s := placedS s j 119) (i := a) (c := 100) (by omega) hb (by decide) (by decide) (by decide) m (by omega)
    rw [if_pos ham] at f2
    omega
  · have hk := a3 hno (fun i hi => (okP_iff.1 h.ok).2.2 i (by omega))
    refine ⟨⟨by rw [placedS_size]; exact hs1, okP_placed hok1 c 100 rfl (by decide) (by decide), kept_any hk c (hc.imp id fun ⟨i, e, hi, hb⟩ => ⟨i, e, by omega, hb⟩)⟩, ?_⟩
    rcases hc with rfl | ⟨i, rfl, hi, hb⟩
    · have e : ∀ k, k ≤ m → freeC (placedS (placedS s j 119) (-1) 100) k = freeC (placedS s j 119) k := by
        intro k
        induction k with
        | zero => intro _; rfl
        | succ k ih =>
          intro hk
          rw [freeC, freeC, placedS_bt _ _ _ _ (by omega) (by decide) (by decide), if_neg (show ¬ ((k : Int) = -1) by omega), ih (by omega)]
      rw [e m (Nat.le_refl _)]
      omega
    · have f2 := freeC_placed (s := placedS s j 119) (i := i) (c := 100) (by omega) hb (by decide) (by decide) (by decide) m (by omega)
      rw [if_pos hi] at f2
      omega
end Go.Proofs.Ytbjpjjokamaliaa.B

/- AmbushPaired, walked where there is a pairing: it returns true. -/
namespace Go.Proofs.Ytbjpjjokamaliaa.B
open Go.Proofs.Ytbjpjjokamaliaa.A
open Go.RowKit Go.Proofs.YtbjpjjokamaliaaW.PrintWords Go.Proofs.YtbjpjjokamaliaaW.PrintLast Go.Proofs.YtbjpjjokamaliaaW.PrintMore


theorem chosen_any (s : ByteArray) (hs : s.size ≤ 140737488351232) (b : Int) (hb : 0 ≤ b) : ∃ c : Int, (c = -1 ∨ ∃ i : Nat, c = i ∧ i < s.size ∧ bt s i = 46) ∧ Ev (fun k => drovewaylaw04_chosen.f k s b) c := by
  by_cases hf : 0 < freeC s s.size
  · obtain ⟨j, h1, h2, h3⟩ := chosen_ev s hs b hb hf
    exact ⟨j, .inr ⟨j, rfl, h1, h2⟩, h3⟩
  · refine ⟨-1, .inl rfl, ?_⟩
    refine Ev.bind (f := fun k t134 => if t134 = 0 then (some (-1)) else (drovewaylaw04_chosen.l0 k s (Int.tmod b t134) 0)) (free_ev s hs) ?_
    refine Ev.congr (fun k => ?_) (Ev.now (-1))
    rw [if_pos (by omega)]
theorem isPB_len {m : Nat} {l : List Int} {ps : List S59} (h9 : m ≤ 9) (h : isPB m l ps = true) : ps.length ≤ 1000 := by
  have hg : goodP m 0 (-1) ps = true := by unfold isPB at h; rw [Bool.and_eq_true] at h; exact h.1
  have h1 := good_pop h9 ps 0 (-1) (Nat.two_pow_pos m) hg
  have h2 := popB_le (useL 0 ps) m
  rw [popB_eq h9 h1.2] at h2
  omega
theorem answer_good {m : Nat} {l : List Int} {ps : List S59} {j : Nat} {Z : Int} (hF : okF m l = 0) (h : isPB m l ps = true) (h9 : m ≤ 9) (hj : j < m) (hZ : ansL (j : Int) ps = Z) : ambush_Answer.f m l ps j = some (Z, 0) := by
  unfold ambush_Answer.f
  rw [if_pos (isPB_len h9 h), if_pos hF, if_pos ⟨by rw [Int.toNat_natCast]; exact h, by omega, by omega⟩, hZ]
set_option maxRecDepth 100000 in
set_option maxHeartbeats 3200000 in
theorem paired_is (m : Nat) (A : Option Addr) (c : Nat) (l : List Int) (A2 : Option Addr) (c2 : Nat) (ps : List S59) (A3 : Option Addr) (c3 : Nat) (ms : List Int) (w : World) (hr : Kd.C (Kd.int .i64) w A l.length l) (hc : l.length ≤ c) (hr2 : Kd.C k59 w A2 ps.length ps) (hc2 : ps.length ≤ c2) (hr3 : Kd.C (Kd.int .u8) w A3 ms.length ms) (hu : ∀ x ∈ ms, 0 ≤ x ∧ x ≤ 255)
    (h40 : (l.length : Int) ≤ 40) (h2 : ¬ (ps.length : Int) > 40) (h3 : ¬ (ms.length : Int) > 40) (hF : okF m l = 0) (b : List S59) (hP : pairF l m = some b) (hb : isPB m l b = true) (hI : isPB m l ps = true) (hle : b.length ≤ ps.length) :
    Calls Try.prog 8 #[.int .i64 m, .slice A l.length c, .slice A2 ps.length c2, .slice A3 ms.length c3] w fun e w' => e = .returned (.bool true) ∧ Below w.heap.size w w' := by
  have HR := Aside0.mk hr
  have HC := Aside0.mk hc
  have HR2 := Aside0.mk hr2
  have HC2 := Aside0.mk hc2
  have HR3 := Aside0.mk hr3
  have HU := Aside0.mk hu
  have HF : Aside0 (drovewaylaw04_few.f l (⟨#[]⟩ : ByteArray) (⟨#[]⟩ : ByteArray) = some true) := ⟨by rw [few_eq, decide_eq_true ⟨h40, by decide, by decide⟩]⟩
  obtain ⟨k, hk⟩ := (Field_ev m l).rounds
  rw [hF] at hk
  have HK := Aside0.mk hk
  have HF0 := Aside0.mk hF
  have HI : Aside0 (ambush_IsPairing.f m l ps = some (true, 0)) := ⟨by
    unfold ambush_IsPairing.f
    rw [if_pos (by omega), if_pos hF]
    show some (isPB m l ps, (0 : Int)) = some (true, 0)
    rw [hI]⟩
  have HP : Aside0 (ambush_Pairing.f m l = some (b, 0)) := ⟨by
    unfold ambush_Pairing.f
    rw [if_pos hF]
    show some ((pairF l m).getD [], errS (pairF l m)) = some (b, 0)
    rw [hP]; rfl⟩
  have HPB : Aside0 (isPB m l ps = true) := ⟨by first | exact hI | exact hb⟩
  obtain ⟨t, kw, hkw, hmid⟩ := mid_empty hF ps
  have HKW := Aside0.mk hkw
  have HM := Aside0.mk hmid
  have hlez : ¬ ((b.length : Int) > (ps.length : Int)) ∨ True := .inr trivial
  have HH := Aside0.mk (And.intro h2 h3)
  have hlz : ¬ (ps.length : Int) < (b.length : Int) := by omega
  clear hr hc hr2 hc2 hr3 hu h40 hF hk hP hI hb hkw hmid hlez
  go_enter Try.func8, Try.ntmps8
  go_wp2_with (first
    | (go_at_call 11; refine (drovewaylaw04_few.calls A c l _ _ true _ HR.out HC.out HF.out).mono ?_; rintro e w' ⟨rfl, hb'⟩; have HB := Aside0.mk hb'.below; clear hb')
    | (go_at_call 17; refine (drovewayref04_Field.calls k m A c l _ _ (Kd.C_below HR.out HB.out) HC.out HK.out).mono ?_; rintro e w3 ⟨rfl, hb3⟩; have HB3 := Aside0.mk (below_then HB.out HB.out.size hb3.below); clear hb3)
    | (go_at_call 26; refine (ambush_Pairing.calls m A c l b 0 _ (Kd.C_below HR.out HB3.out) HC.out HP.out).mono ?_; rintro e w4 ⟨v4, rfl, ho4, hb4⟩; obtain ⟨A4, c4, rfl, hc4, hrb⟩ := Kd.R_reads ho4; have HRb := Aside0.mk hrb; have HC4 := Aside0.mk hc4; have HB4 := Aside0.mk (below_then HB3.out HB3.out.size hb4); clear hb4 ho4 hrb hc4)
    | (go_at_call 29; refine (ambush_IsPairing.calls m A c l A2 c2 ps true 0 _ (Kd.C_below HR.out HB4.out) HC.out (Kd.C_below HR2.out HB4.out) HC2.out HI.out).mono ?_; rintro e w5 ⟨rfl, hb5⟩; have HB5 := Aside0.mk (below_then HB4.out HB4.out.size hb5); have HRP := Aside0.mk (Kd.C_below HR2.out HB5.out); clear hb5)
    | (go_at_call 18; refine (drovewayref04_Written.calls kw m 0 0 t _ HKW.out).mono ?_; rintro e w6 ⟨rfl, hb6⟩; have HRP6 := Aside0.mk (Kd.C_below HRP.out hb6); have HB6 := Aside0.mk (below_then HB5.out HB5.out.size hb6); clear hb6)
    | (go_at_call 14; with_reducible refine (ambush_Winner.calls m A c l t (⟨#[119]⟩ : ByteArray) _ _ _ (Kd.C_below HR.out HB6.out) HC.out (HM.out.winW HF0.out HPB.out)).mono ?_; rintro e w7 ⟨rfl, hb7⟩; have HRP7 := Aside0.mk (Kd.C_below HRP6.out hb7); have HB7 := Aside0.mk (below_then HB6.out HB6.out.size hb7); clear hb7)
    | (go_at_call 14; with_reducible refine (ambush_Winner.calls m A c l t (⟨#[100]⟩ : ByteArray) _ _ _ (Kd.C_below HR.out HB7.out) HC.out (HM.out.winD HF0.out HPB.out)).mono ?_; rintro e w8 ⟨rfl, hb8⟩; have HRP8 := Aside0.mk (Kd.C_below HRP7.out hb8); have HB8 := Aside0.mk (below_then HB7.out HB7.out.size hb8); clear hb8))
  go_loopg [13, 18] (m + 1) (fun gg v13 v18 wr => ∃ (s : ByteArray) (i : Nat), v13 = .string s ∧ v18 = .int .i64 i ∧ freeC s m ≤ gg ∧ i + freeC s m ≤ 20 ∧ Aside0 (MidS m l ps s) ∧ Aside0 (Below w.heap.size w wr) ∧ Aside0 (Kd.C k59 wr A2 ps.length ps))
  case atStart => exact ⟨t, 0, rfl, rfl, by have := freeC_le t m; omega, by have := freeC_le t m; have := okF_m HF0.out; omega, HM, HB8, HRP8⟩
  case round =>
    obtain ⟨s, i, rfl, rfl, hgg, hi, HMs, HBs, HRs⟩ := hrel
    have hsz := HMs.out.size
    have h9 : m ≤ 9 := by have := okF_m HF0.out; omega
    obtain ⟨kf, hkf⟩ := (free_ev s (by omega)).rounds
    have HKF := Aside0.mk (show drovewaylaw04_free.f kf s = some (freeC s m : Int) by rw [← hsz]; exact hkf)
    clear hkf
    by_cases hz : 0 < freeC s m
    · have hz0 : (0 : Int) < (freeC s m : Int) := by omega
      by_cases hlt : i < ms.length
      · have hltz : (i : Int) < (ms.length : Int) := by omega
        obtain ⟨ad, rfl, hcell⟩ : ∃ ad, A3 = some ad ∧ wr.cell? (ad.add i) = some (.int .u8 (rd ms (i : Int))) := by
          obtain ⟨ad, cs, e, _, hK, hc0⟩ := Kd.C_get (Kd.C_below HR3.out HBs.out) (0 : Int) (i : Int) (by omega) (by omega)
          refine ⟨ad, e, ?_⟩
          have hK' : cs = [Value.int .u8 (ms.getD i 0)] := hK
          subst hK'
          have := hc0 0 _ rfl
          simpa [rd, show (Kd.int IntKind.u8).sz = 1 from rfl] using this
        have hx : 0 ≤ rd ms (i : Int) ∧ rd ms (i : Int) ≤ 255 := HU.out _ (by unfold rd; simp only [Int.toNat_natCast]; rw [List.getD_eq_getElem?_getD, List.getElem?_eq_getElem hlt]; exact List.getElem_mem hlt)
        have ewx : wrap64 (rd ms (i : Int)) = rd ms (i : Int) := by rw [wrap64_id] <;> omega
        have hx0 : 0 ≤ rd ms (i : Int) := hx.1
        obtain ⟨j, hj, h46, he⟩ := chosen_ev s (by omega) (rd ms (i : Int)) hx0 (by rw [hsz]; exact hz)
        obtain ⟨kc, hkc⟩ := he.rounds
        have HKC := Aside0.mk hkc
        rw [hsz] at hj
        obtain ⟨⟨ga1, ga2⟩, gb, gc⟩ := mid_round HPB.out HMs.out hj h46
        obtain ⟨s1, hs1⟩ : ∃ s1, placedS s (j : Int) 119 = s1 := ⟨_, rfl⟩
        obtain ⟨Z, hZ⟩ : ∃ Z, ansL (j : Int) ps = Z := ⟨_, rfl⟩
        have HA : Aside0 (ambush_Answer.f m l ps j = some (Z, 0)) := ⟨answer_good HF0.out HPB.out h9 hj hZ⟩
        have HPL : Aside0 (drovewaylaw04_placed.f s (j : Int) 119 = some s1) := ⟨by rw [← hs1]; rfl⟩
        have hsz1 : s1.size = m := by rw [← hs1, placedS_size]; exact hsz
        rw [hs1] at gb gc
        rw [hZ] at ga1 ga2 gb gc
        have GB := Aside0.mk gb
        have GC := Aside0.mk gc
        have hd1 : decide (Z < -1) = false := decide_eq_false (by omega)
        have hd2 : decide ((m : Int) ≤ Z) = false := decide_eq_false (by omega)
        have HJ := Aside0.mk hj
        have HSZ1 := Aside0.mk hsz1
        have ewi : wrap64 ((i : Int) + 1) = ((i + 1 : Nat) : Int) := by rw [wrap64_id] <;> omega
        have EWI := Aside0.mk ewi
        clear he hkc gb gc hs1 hZ h46 hj hsz1 ewi
        by_cases hZ0 : Z < 0
        · have hno : ∀ a : Nat, Z = (a : Int) → bt s1 (a : Int) ≠ 46 := fun a ha => by omega
          obtain ⟨cc, hcc, hev⟩ := chosen_any s1 (by rw [HSZ1.out]; omega) 0 (by omega)
          rw [HSZ1.out] at hcc
          obtain ⟨kd, hkd⟩ := hev.rounds
          have HKD := Aside0.mk hkd
          obtain ⟨s2, hs2⟩ : ∃ s2, placedS s1 cc 100 = s2 := ⟨_, rfl⟩
          have HPM : Aside0 (drovewaylaw04_placed.f s1 cc 100 = some s2) := ⟨by rw [← hs2]; rfl⟩
          have HD : Aside0 (MidS m l ps s2 ∧ freeC s2 m < freeC s m) := ⟨by rw [← hs2]; exact GC.out hno cc hcc⟩
          clear hno hcc hev hkd hs2
          go_wp2_with (first
            | (go_at_call 16; refine (drovewaylaw04_free.calls kf s _ _ HKF.out).mono ?_; rintro e w9 ⟨rfl, hb9⟩; have HB9 := Aside0.mk (below_then HBs.out HBs.out.size hb9.below); have HRP9 := Aside0.mk (Kd.C_below HRs.out hb9.below); have hc9 := pw_cell_below hb9.below hcell; clear hb9)
            | (go_at_call 25; with_reducible refine (drovewaylaw04_chosen.calls kc s _ _ _ HKC.out).mono ?_; rintro e w10 ⟨rfl, hb10⟩; have HB10 := Aside0.mk (below_then HB9.out HB9.out.size hb10.below); have HRP10 := Aside0.mk (Kd.C_below HRP9.out hb10.below); clear hb10)
            | (go_at_call 15; with_reducible refine (drovewaylaw04_placed.calls s (j : Int) 119 s1 _ HPL.out).mono ?_; rintro e w11 ⟨rfl, hb11⟩; have HB11 := Aside0.mk (below_then HB10.out HB10.out.size hb11); have HRP11 := Aside0.mk (Kd.C_below HRP10.out hb11); clear hb11)
            | (go_at_call 31; refine (ambush_Answer.calls m A c l A2 c2 ps (j : Int) Z 0 _ (Kd.C_below HR.out HB11.out) HC.out HRP11.out HC2.out HA.out).mono ?_; rintro e w12 ⟨rfl, hb12⟩; have HB12 := Aside0.mk (below_then HB11.out HB11.out.size hb12); have HRP12 := Aside0.mk (Kd.C_below HRP11.out hb12); clear hb12)
            | (go_at_call 25; with_reducible refine (drovewaylaw04_chosen.calls kd s1 0 cc _ HKD.out).mono ?_; rintro e w13 ⟨rfl, hb13⟩; have HB13 := Aside0.mk (below_then HB12.out HB12.out.size hb13.below); have HRP13 := Aside0.mk (Kd.C_below HRP12.out hb13.below); clear hb13)
            | (go_at_call 15; with_reducible refine (drovewaylaw04_placed.calls s1 cc 100 s2 _ HPM.out).mono ?_; rintro e w14 ⟨rfl, hb14⟩; have HB14 := Aside0.mk (below_then HB13.out HB13.out.size hb14); have HRP14 := Aside0.mk (Kd.C_below HRP13.out hb14); clear hb14))
          go_roundg (freeC s2 m)
          case measure => have := HD.out.2; omega
          case rel => exact ⟨s2, i + 1, rfl, by go_num, Nat.le_refl _, by have := HD.out.2; omega, ⟨HD.out.1⟩, HB14, HRP14⟩
        · by_cases hbz : bt s1 Z = 46
          · have c8b0 : (bt s1 Z == 46) = true := beq_iff_eq.mpr hbz
            have c8b1 : (bt s1 Z != 46) = false := bne_eq_false_iff_eq.mpr hbz
            obtain ⟨s2, hs2⟩ : ∃ s2, placedS s1 Z 100 = s2 := ⟨_, rfl⟩
            have HPM : Aside0 (drovewaylaw04_placed.f s1 Z 100 = some s2) := ⟨by rw [← hs2]; rfl⟩
            have HD : Aside0 (MidS m l ps s2 ∧ freeC s2 m < freeC s m) := ⟨by rw [← hs2]; have := GB.out Z.toNat (by omega) (by rw [Int.toNat_of_nonneg (a := Z) (by omega)]; exact hbz); rw [Int.toNat_of_nonneg (a := Z) (by omega)] at this; exact ⟨this.1, by omega⟩⟩
            clear hbz hs2
            have p4 : (0 : Int) ≤ Z := by omega
            have q4 : Z < (s1.size : Int) := by rw [HSZ1.out]; exact ga2
            have hx4 := bt_at s1 Z
            replace p4 := eq_true p4
            replace q4 := eq_true q4
            go_wp2_with (first
              | (go_at_call 16; refine (drovewaylaw04_free.calls kf s _ _ HKF.out).mono ?_; rintro e w9 ⟨rfl, hb9⟩; have HB9 := Aside0.mk (below_then HBs.out HBs.out.size hb9.below); have HRP9 := Aside0.mk (Kd.C_below HRs.out hb9.below); have hc9 := pw_cell_below hb9.below hcell; clear hb9)
              | (go_at_call 25; with_reducible refine (drovewaylaw04_chosen.calls kc s _ _ _ HKC.out).mono ?_; rintro e w10 ⟨rfl, hb10⟩; have HB10 := Aside0.mk (below_then HB9.out HB9.out.size hb10.below); have HRP10 := Aside0.mk (Kd.C_below HRP9.out hb10.below); clear hb10)
              | (go_at_call 15; with_reducible refine (drovewaylaw04_placed.calls s (j : Int) 119 s1 _ HPL.out).mono ?_; rintro e w11 ⟨rfl, hb11⟩; have HB11 := Aside0.mk (below_then HB10.out HB10.out.size hb11); have HRP11 := Aside0.mk (Kd.C_below HRP10.out hb11); clear hb11)
              | (go_at_call 31; refine (ambush_Answer.calls m A c l A2 c2 ps (j : Int) Z 0 _ (Kd.C_below HR.out HB11.out) HC.out HRP11.out HC2.out HA.out).mono ?_; rintro e w12 ⟨rfl, hb12⟩; have HB12 := Aside0.mk (below_then HB11.out HB11.out.size hb12); have HRP12 := Aside0.mk (Kd.C_below HRP11.out hb12); clear hb12)
              | (go_at_call 15; with_reducible refine (drovewaylaw04_placed.calls s1 Z 100 s2 _ HPM.out).mono ?_; rintro e w14 ⟨rfl, hb14⟩; have HB14 := Aside0.mk (below_then HB12.out HB12.out.size hb14); have HRP14 := Aside0.mk (Kd.C_below HRP12.out hb14); clear hb14))
            go_roundg (freeC s2 m)
            case measure => have := HD.out.2; omega
            case rel => exact ⟨s2, i + 1, rfl, by go_num, Nat.le_refl _, by have := HD.out.2; omega, ⟨HD.out.1⟩, HB14, HRP14⟩
          · have c8b0 : (bt s1 Z == 46) = false := beq_eq_false_iff_ne.mpr hbz
            have c8b1 : (bt s1 Z != 46) = true := bne_iff_ne.mpr hbz
            have hno : ∀ a : Nat, Z = (a : Int) → bt s1 (a : Int) ≠ 46 := fun a ha => by rw [← ha]; exact hbz
            obtain ⟨cc, hcc, hev⟩ := chosen_any s1 (by rw [HSZ1.out]; omega) 0 (by omega)
            rw [HSZ1.out] at hcc
            obtain ⟨kd, hkd⟩ := hev.rounds
            have HKD := Aside0.mk hkd
            obtain ⟨s2, hs2⟩ : ∃ s2, placedS s1 cc 100 = s2 := ⟨_, rfl⟩
            have HPM : Aside0 (drovewaylaw04_placed.f s1 cc 100 = some s2) := ⟨by rw [← hs2]; rfl⟩
            have HD : Aside0 (MidS m l ps s2 ∧ freeC s2 m < freeC s m) := ⟨by rw [← hs2]; exact GC.out hno cc hcc⟩
            clear hno hcc hev hkd hs2
            clear hbz
            have p4 : (0 : Int) ≤ Z := by omega
            have q4 : Z < (s1.size : Int) := by rw [HSZ1.out]; exact ga2
            have hx4 := bt_at s1 Z
            replace p4 := eq_true p4
            replace q4 := eq_true q4
            go_wp2_with (first
              | (go_at_call 16; refine (drovewaylaw04_free.calls kf s _ _ HKF.out).mono ?_; rintro e w9 ⟨rfl, hb9⟩; have HB9 := Aside0.mk (below_then HBs.out HBs.out.size hb9.below); have HRP9 := Aside0.mk (Kd.C_below HRs.out hb9.below); have hc9 := pw_cell_below hb9.below hcell; clear hb9)
              | (go_at_call 25; with_reducible refine (drovewaylaw04_chosen.calls kc s _ _ _ HKC.out).mono ?_; rintro e w10 ⟨rfl, hb10⟩; have HB10 := Aside0.mk (below_then HB9.out HB9.out.size hb10.below); have HRP10 := Aside0.mk (Kd.C_below HRP9.out hb10.below); clear hb10)
              | (go_at_call 15; with_reducible refine (drovewaylaw04_placed.calls s (j : Int) 119 s1 _ HPL.out).mono ?_; rintro e w11 ⟨rfl, hb11⟩; have HB11 := Aside0.mk (below_then HB10.out HB10.out.size hb11); have HRP11 := Aside0.mk (Kd.C_below HRP10.out hb11); clear hb11)
              | (go_at_call 31; refine (ambush_Answer.calls m A c l A2 c2 ps (j : Int) Z 0 _ (Kd.C_below HR.out HB11.out) HC.out HRP11.out HC2.out HA.out).mono ?_; rintro e w12 ⟨rfl, hb12⟩; have HB12 := Aside0.mk (below_then HB11.out HB11.out.size hb12); have HRP12 := Aside0.mk (Kd.C_below HRP11.out hb12); clear hb12)
              | (go_at_call 25; with_reducible refine (drovewaylaw04_chosen.calls kd s1 0 cc _ HKD.out).mono ?_; rintro e w13 ⟨rfl, hb13⟩; have HB13 := Aside0.mk (below_then HB12.out HB12.out.size hb13.below); have HRP13 := Aside0.mk (Kd.C_below HRP12.out hb13.below); clear hb13)
              | (go_at_call 15; with_reducible refine (drovewaylaw04_placed.calls s1 cc 100 s2 _ HPM.out).mono ?_; rintro e w14 ⟨rfl, hb14⟩; have HB14 := Aside0.mk (below_then HB13.out HB13.out.size hb14); have HRP14 := Aside0.mk (Kd.C_below HRP13.out hb14); clear hb14))
            go_roundg (freeC s2 m)
            case measure => have := HD.out.2; omega
            case rel => exact ⟨s2, i + 1, rfl, by go_num, Nat.le_refl _, by have := HD.out.2; omega, ⟨HD.out.1⟩, HB14, HRP14⟩
      · have hltz : ¬ (i : Int) < (ms.length : Int) := by omega
        have hx0 : 0 ≤ (0 : Int) := by omega
        obtain ⟨j, hj, h46, he⟩ := chosen_ev s (by omega) 0 hx0 (by rw [hsz]; exact hz)
        obtain ⟨kc, hkc⟩ := he.rounds
        have HKC := Aside0.mk hkc
        rw [hsz] at hj
        obtain ⟨⟨ga1, ga2⟩, gb, gc⟩ := mid_round HPB.out HMs.out hj h46
        obtain ⟨s1, hs1⟩ : ∃ s1, placedS s (j : Int) 119 = s1 := ⟨_, rfl⟩
        obtain ⟨Z, hZ⟩ : ∃ Z, ansL (j : Int) ps = Z := ⟨_, rfl⟩
        have HA : Aside0 (ambush_Answer.f m l ps j = some (Z, 0)) := ⟨answer_good HF0.out HPB.out h9 hj hZ⟩
        have HPL : Aside0 (drovewaylaw04_placed.f s (j : Int) 119 = some s1) := ⟨by rw [← hs1]; rfl⟩
        have hsz1 : s1.size = m := by rw [← hs1, placedS_size]; exact hsz
        rw [hs1] at gb gc
        rw [hZ] at ga1 ga2 gb gc
        have GB := Aside0.mk gb
        have GC := Aside0.mk gc
        have hd1 : decide (Z < -1) = false := decide_eq_false (by omega)
        have hd2 : decide ((m : Int) ≤ Z) = false := decide_eq_false (by omega)
        have HJ := Aside0.mk hj
        have HSZ1 := Aside0.mk hsz1
        have ewi : wrap64 ((i : Int) + 1) = ((i + 1 : Nat) : Int) := by rw [wrap64_id] <;> omega
        have EWI := Aside0.mk ewi
        clear he hkc gb gc hs1 hZ h46 hj hsz1 ewi
        by_cases hZ0 : Z < 0
        · have hno : ∀ a : Nat, Z = (a : Int) → bt s1 (a : Int) ≠ 46 := fun a ha => by omega
          obtain ⟨cc, hcc, hev⟩ := chosen_any s1 (by rw [HSZ1.out]; omega) 0 (by omega)
          rw [HSZ1.out] at hcc
          obtain ⟨kd, hkd⟩ := hev.rounds
          have HKD := Aside0.mk hkd
          obtain ⟨s2, hs2⟩ : ∃ s2, placedS s1 cc 100 = s2 := ⟨_, rfl⟩
          have HPM : Aside0 (drovewaylaw04_placed.f s1 cc 100 = some s2) := ⟨by rw [← hs2]; rfl⟩
          have HD : Aside0 (MidS m l ps s2 ∧ freeC s2 m < freeC s m) := ⟨by rw [← hs2]; exact GC.out hno cc hcc⟩
          clear hno hcc hev hkd hs2
          go_wp2_with (first
            | (go_at_call 16; refine (drovewaylaw04_free.calls kf s _ _ HKF.out).mono ?_; rintro e w9 ⟨rfl, hb9⟩; have HB9 := Aside0.mk (below_then HBs.out HBs.out.size hb9.below); have HRP9 := Aside0.mk (Kd.C_below HRs.out hb9.below); clear hb9)
            | (go_at_call 25; with_reducible refine (drovewaylaw04_chosen.calls kc s _ _ _ HKC.out).mono ?_; rintro e w10 ⟨rfl, hb10⟩; have HB10 := Aside0.mk (below_then HB9.out HB9.out.size hb10.below); have HRP10 := Aside0.mk (Kd.C_below HRP9.out hb10.below); clear hb10)
            | (go_at_call 15; with_reducible refine (drovewaylaw04_placed.calls s (j : Int) 119 s1 _ HPL.out).mono ?_; rintro e w11 ⟨rfl, hb11⟩; have HB11 := Aside0.mk (below_then HB10.out HB10.out.size hb11); have HRP11 := Aside0.mk (Kd.C_below HRP10.out hb11); clear hb11)
            | (go_at_call 31; refine (ambush_Answer.calls m A c l A2 c2 ps (j : Int) Z 0 _ (Kd.C_below HR.out HB11.out) HC.out HRP11.out HC2.out HA.out).mono ?_; rintro e w12 ⟨rfl, hb12⟩; have HB12 := Aside0.mk (below_then HB11.out HB11.out.size hb12); have HRP12 := Aside0.mk (Kd.C_below HRP11.out hb12); clear hb12)
            | (go_at_call 25; with_reducible refine (drovewaylaw04_chosen.calls kd s1 0 cc _ HKD.out).mono ?_; rintro e w13 ⟨rfl, hb13⟩; have HB13 := Aside0.mk (below_then HB12.out HB12.out.size hb13.below); have HRP13 := Aside0.mk (Kd.C_below HRP12.out hb13.below); clear hb13)
            | (go_at_call 15; with_reducible refine (drovewaylaw04_placed.calls s1 cc 100 s2 _ HPM.out).mono ?_; rintro e w14 ⟨rfl, hb14⟩; have HB14 := Aside0.mk (below_then HB13.out HB13.out.size hb14); have HRP14 := Aside0.mk (Kd.C_below HRP13.out hb14); clear hb14))
          go_roundg (freeC s2 m)
          case measure => have := HD.out.2; omega
          case rel => exact ⟨s2, i + 1, rfl, by go_num, Nat.le_refl _, by have := HD.out.2; omega, ⟨HD.out.1⟩, HB14, HRP14⟩
        · by_cases hbz : bt s1 Z = 46
          · have c8b0 : (bt s1 Z == 46) = true := beq_iff_eq.mpr hbz
            have c8b1 : (bt s1 Z != 46) = false := bne_eq_false_iff_eq.mpr hbz
            obtain ⟨s2, hs2⟩ : ∃ s2, placedS s1 Z 100 = s2 := ⟨_, rfl⟩
            have HPM : Aside0 (drovewaylaw04_placed.f s1 Z 100 = some s2) := ⟨by rw [← hs2]; rfl⟩
            have HD : Aside0 (MidS m l ps s2 ∧ freeC s2 m < freeC s m) := ⟨by rw [← hs2]; have := GB.out Z.toNat (by omega) (by rw [Int.toNat_of_nonneg (a := Z) (by omega)]; exact hbz); rw [Int.toNat_of_nonneg (a := Z) (by omega)] at this; exact ⟨this.1, by omega⟩⟩
            clear hbz hs2
            have p4 : (0 : Int) ≤ Z := by omega
            have q4 : Z < (s1.size : Int) := by rw [HSZ1.out]; exact ga2
            have hx4 := bt_at s1 Z
            replace p4 := eq_true p4
            replace q4 := eq_true q4
            go_wp2_with (first
              | (go_at_call 16; refine (drovewaylaw04_free.calls kf s _ _ HKF.out).mono ?_; rintro e w9 ⟨rfl, hb9⟩; have HB9 := Aside0.mk (below_then HBs.out HBs.out.size hb9.below); have HRP9 := Aside0.mk (Kd.C_below HRs.out hb9.below); clear hb9)
              | (go_at_call 25; with_reducible refine (drovewaylaw04_chosen.calls kc s _ _ _ HKC.out).mono ?_; rintro e w10 ⟨rfl, hb10⟩; have HB10 := Aside0.mk (below_then HB9.out HB9.out.size hb10.below); have HRP10 := Aside0.mk (Kd.C_below HRP9.out hb10.below); clear hb10)
              | (go_at_call 15; with_reducible refine (drovewaylaw04_placed.calls s (j : Int) 119 s1 _ HPL.out).mono ?_; rintro e w11 ⟨rfl, hb11⟩; have HB11 := Aside0.mk (below_then HB10.out HB10.out.size hb11); have HRP11 := Aside0.mk (Kd.C_below HRP10.out hb11); clear hb11)
              | (go_at_call 31; refine (ambush_Answer.calls m A c l A2 c2 ps (j : Int) Z 0 _ (Kd.C_below HR.out HB11.out) HC.out HRP11.out HC2.out HA.out).mono ?_; rintro e w12 ⟨rfl, hb12⟩; have HB12 := Aside0.mk (below_then HB11.out HB11.out.size hb12); have HRP12 := Aside0.mk (Kd.C_below HRP11.out hb12); clear hb12)
              | (go_at_call 15; with_reducible refine (drovewaylaw04_placed.calls s1 Z 100 s2 _ HPM.out).mono ?_; rintro e w14 ⟨rfl, hb14⟩; have HB14 := Aside0.mk (below_then HB12.out HB12.out.size hb14); have HRP14 := Aside0.mk (Kd.C_below HRP12.out hb14); clear hb14))
            go_roundg (freeC s2 m)
            case measure => have := HD.out.2; omega
            case rel => exact ⟨s2, i + 1, rfl, by go_num, Nat.le_refl _, by have := HD.out.2; omega, ⟨HD.out.1⟩, HB14, HRP14⟩
          · have c8b0 : (bt s1 Z == 46) = false := beq_eq_false_iff_ne.mpr hbz
            have c8b1 : (bt s1 Z != 46) = true := bne_iff_ne.mpr hbz
            have hno : ∀ a : Nat, Z = (a : Int) → bt s1 (a : Int) ≠ 46 := fun a ha => by rw [← ha]; exact hbz
            obtain ⟨cc, hcc, hev⟩ := chosen_any s1 (by rw [HSZ1.out]; omega) 0 (by omega)
            rw [HSZ1.out] at hcc
            obtain ⟨kd, hkd⟩ := hev.rounds
            have HKD := Aside0.mk hkd
            obtain ⟨s2, hs2⟩ : ∃ s2, placedS s1 cc 100 = s2 := ⟨_, rfl⟩
            have HPM : Aside0 (drovewaylaw04_placed.f s1 cc 100 = some s2) := ⟨by rw [← hs2]; rfl⟩
            have HD : Aside0 (MidS m l ps s2 ∧ freeC s2 m < freeC s m) := ⟨by rw [← hs2]; exact GC.out hno cc hcc⟩
            clear hno hcc hev hkd hs2
            clear hbz
            have p4 : (0 : Int) ≤ Z := by omega
            have q4 : Z < (s1.size : Int) := by rw [HSZ1.out]; exact ga2
            have hx4 := bt_at s1 Z
            replace p4 := eq_true p4
            replace q4 := eq_true q4
            go_wp2_with (first
              | (go_at_call 16; refine (drovewaylaw04_free.calls kf s _ _ HKF.out).mono ?_; rintro e w9 ⟨rfl, hb9⟩; have HB9 := Aside0.mk (below_then HBs.out HBs.out.size hb9.below); have HRP9 := Aside0.mk (Kd.C_below HRs.out hb9.below); clear hb9)
              | (go_at_call 25; with_reducible refine (drovewaylaw04_chosen.calls kc s _ _ _ HKC.out).mono ?_; rintro e w10 ⟨rfl, hb10⟩; have HB10 := Aside0.mk (below_then HB9.out HB9.out.size hb10.below); have HRP10 := Aside0.mk (Kd.C_below HRP9.out hb10.below); clear hb10)
              | (go_at_call 15; with_reducible refine (drovewaylaw04_placed.calls s (j : Int) 119 s1 _ HPL.out).mono ?_; rintro e w11 ⟨rfl, hb11⟩; have HB11 := Aside0.mk (below_then HB10.out HB10.out.size hb11); have HRP11 := Aside0.mk (Kd.C_below HRP10.out hb11); clear hb11)
              | (go_at_call 31; refine (ambush_Answer.calls m A c l A2 c2 ps (j : Int) Z 0 _ (Kd.C_below HR.out HB11.out) HC.out HRP11.out HC2.out HA.out).mono ?_; rintro e w12 ⟨rfl, hb12⟩; have HB12 := Aside0.mk (below_then HB11.out HB11.out.size hb12); have HRP12 := Aside0.mk (Kd.C_below HRP11.out hb12); clear hb12)
              | (go_at_call 25; with_reducible refine (drovewaylaw04_chosen.calls kd s1 0 cc _ HKD.out).mono ?_; rintro e w13 ⟨rfl, hb13⟩; have HB13 := Aside0.mk (below_then HB12.out HB12.out.size hb13.below); have HRP13 := Aside0.mk (Kd.C_below HRP12.out hb13.below); clear hb13)
              | (go_at_call 15; with_reducible refine (drovewaylaw04_placed.calls s1 cc 100 s2 _ HPM.out).mono ?_; rintro e w14 ⟨rfl, hb14⟩; have HB14 := Aside0.mk (below_then HB13.out HB13.out.size hb14); have HRP14 := Aside0.mk (Kd.C_below HRP13.out hb14); clear hb14))
            go_roundg (freeC s2 m)
            case measure => have := HD.out.2; omega
            case rel => exact ⟨s2, i + 1, rfl, by go_num, Nat.le_refl _, by have := HD.out.2; omega, ⟨HD.out.1⟩, HB14, HRP14⟩
    · have hz0 : ¬ (0 : Int) < (freeC s m : Int) := by omega
      go_wp2_with (first
        | (go_at_call 16; refine (drovewaylaw04_free.calls kf s _ _ HKF.out).mono ?_; rintro e w9 ⟨rfl, hb9⟩; have HB9 := Aside0.mk (below_then HBs.out HBs.out.size hb9.below); clear hb9)
        | (go_at_call 14; with_reducible refine (ambush_Winner.calls m A c l s (⟨#[119]⟩ : ByteArray) _ _ _ (Kd.C_below HR.out HB9.out) HC.out (HMs.out.winW HF0.out HPB.out)).mono ?_; rintro e w10 ⟨rfl, hb10⟩; have HB10 := Aside0.mk (below_then HB9.out HB9.out.size hb10); clear hb10)
        | (go_at_call 12; refine (drovewaylaw04_alive.calls true _ rfl).mono ?_; rintro e w11 ⟨rfl, hb11⟩; have HB11 := Aside0.mk (below_then HB10.out HB10.out.size hb11); clear hb11))
      go_ret
      exact ⟨rfl, HB11.out⟩

set_option maxRecDepth 100000 in
set_option maxHeartbeats 3200000 in
theorem paired_not (m : Nat) (A : Option Addr) (c : Nat) (l : List Int) (A2 : Option Addr) (c2 : Nat) (ps : List S59) (A3 : Option Addr) (c3 : Nat) (ms : List Int) (w : World) (hr : Kd.C (Kd.int .i64) w A l.length l) (hc : l.length ≤ c) (hr2 : Kd.C k59 w A2 ps.length ps) (hc2 : ps.length ≤ c2) (hr3 : Kd.C (Kd.int .u8) w A3 ms.length ms) (hu : ∀ x ∈ ms, 0 ≤ x ∧ x ≤ 255)
    (h40 : (l.length : Int) ≤ 40) (h2 : ¬ (ps.length : Int) > 40) (h3 : ¬ (ms.length : Int) > 40) (hF : okF m l = 0) (b : List S59) (hP : pairF l m = some b) (hb : isPB m l b = true) (hI : isPB m l ps = false) (hle : True) :
    Calls Try.prog 8 #[.int .i64 m, .slice A l.length c, .slice A2 ps.length c2, .slice A3 ms.length c3] w fun e w' => e = .returned (.bool true) ∧ Below w.heap.size w w' := by
  have HR := Aside0.mk hr
  have HC := Aside0.mk hc
  have HR2 := Aside0.mk hr2
  have HC2 := Aside0.mk hc2
  have HR3 := Aside0.mk hr3
  have HU := Aside0.mk hu
  have HF : Aside0 (drovewaylaw04_few.f l (⟨#[]⟩ : ByteArray) (⟨#[]⟩ : ByteArray) = some true) := ⟨by rw [few_eq, decide_eq_true ⟨h40, by decide, by decide⟩]⟩
  obtain ⟨k, hk⟩ := (Field_ev m l).rounds
  rw [hF] at hk
  have HK := Aside0.mk hk
  have HF0 := Aside0.mk hF
  have HI : Aside0 (ambush_IsPairing.f m l ps = some (false, 0)) := ⟨by
    unfold ambush_IsPairing.f
    rw [if_pos (by omega), if_pos hF]
    show some (isPB m l ps, (0 : Int)) = some (false, 0)
    rw [hI]⟩
  have HP : Aside0 (ambush_Pairing.f m l = some (b, 0)) := ⟨by
    unfold ambush_Pairing.f
    rw [if_pos hF]
    show some ((pairF l m).getD [], errS (pairF l m)) = some (b, 0)
    rw [hP]; rfl⟩
  have HPB : Aside0 (isPB m l b = true) := ⟨by first | exact hI | exact hb⟩
  obtain ⟨t, kw, hkw, hmid⟩ := mid_empty hF b
  have HKW := Aside0.mk hkw
  have HM := Aside0.mk hmid
  have hlez : ¬ ((b.length : Int) > (ps.length : Int)) ∨ True := .inr trivial
  have HH := Aside0.mk (And.intro h2 h3)
  have hlz := hle
  clear hr hc hr2 hc2 hr3 hu h40 hF hk hP hI hb hkw hmid hlez
  go_enter Try.func8, Try.ntmps8
  go_wp2_with (first
    | (go_at_call 11; refine (drovewaylaw04_few.calls A c l _ _ true _ HR.out HC.out HF.out).mono ?_; rintro e w' ⟨rfl, hb'⟩; have HB := Aside0.mk hb'.below; clear hb')
    | (go_at_call 17; refine (drovewayref04_Field.calls k m A c l _ _ (Kd.C_below HR.out HB.out) HC.out HK.out).mono ?_; rintro e w3 ⟨rfl, hb3⟩; have HB3 := Aside0.mk (below_then HB.out HB.out.size hb3.below); clear hb3)
    | (go_at_call 26; refine (ambush_Pairing.calls m A c l b 0 _ (Kd.C_below HR.out HB3.out) HC.out HP.out).mono ?_; rintro e w4 ⟨v4, rfl, ho4, hb4⟩; obtain ⟨A4, c4, rfl, hc4, hrb⟩ := Kd.R_reads ho4; have HRb := Aside0.mk hrb; have HC4 := Aside0.mk hc4; have HB4 := Aside0.mk (below_then HB3.out HB3.out.size hb4); clear hb4 ho4 hrb hc4)
    | (go_at_call 29; refine (ambush_IsPairing.calls m A c l A2 c2 ps false 0 _ (Kd.C_below HR.out HB4.out) HC.out (Kd.C_below HR2.out HB4.out) HC2.out HI.out).mono ?_; rintro e w5 ⟨rfl, hb5⟩; have HB5 := Aside0.mk (below_then HB4.out HB4.out.size hb5); have HRP := Aside0.mk (Kd.C_below HRb.out hb5); clear hb5)
    | (go_at_call 18; refine (drovewayref04_Written.calls kw m 0 0 t _ HKW.out).mono ?_; rintro e w6 ⟨rfl, hb6⟩; have HRP6 := Aside0.mk (Kd.C_below HRP.out hb6); have HB6 := Aside0.mk (below_then HB5.out HB5.out.size hb6); clear hb6)
    | (go_at_call 14; with_reducible refine (ambush_Winner.calls m A c l t (⟨#[119]⟩ : ByteArray) _ _ _ (Kd.C_below HR.out HB6.out) HC.out (HM.out.winW HF0.out HPB.out)).mono ?_; rintro e w7 ⟨rfl, hb7⟩; have HRP7 := Aside0.mk (Kd.C_below HRP6.out hb7); have HB7 := Aside0.mk (below_then HB6.out HB6.out.size hb7); clear hb7)
    | (go_at_call 14; with_reducible refine (ambush_Winner.calls m A c l t (⟨#[100]⟩ : ByteArray) _ _ _ (Kd.C_below HR.out HB7.out) HC.out (HM.out.winD HF0.out HPB.out)).mono ?_; rintro e w8 ⟨rfl, hb8⟩; have HRP8 := Aside0.mk (Kd.C_below HRP7.out hb8); have HB8 := Aside0.mk (below_then HB7.out HB7.out.size hb8); clear hb8))
  go_loopg [13, 18] (m + 1) (fun gg v13 v18 wr => ∃ (s : ByteArray) (i : Nat), v13 = .string s ∧ v18 = .int .i64 i ∧ freeC s m ≤ gg ∧ i + freeC s m ≤ 20 ∧ Aside0 (MidS m l b s) ∧ Aside0 (Below w.heap.size w wr) ∧ Aside0 (Kd.C k59 wr A4 b.length b))
  case atStart => exact ⟨t, 0, rfl, rfl, by have := freeC_le t m; omega, by have := freeC_le t m; have := okF_m HF0.out; omega, HM, HB8, HRP8⟩
  case round =>
    obtain ⟨s, i, rfl, rfl, hgg, hi, HMs, HBs, HRs⟩ := hrel
    have hsz := HMs.out.size
    have h9 : m ≤ 9 := by have := okF_m HF0.out; omega
    obtain ⟨kf, hkf⟩ := (free_ev s (by omega)).rounds
    have HKF := Aside0.mk (show drovewaylaw04_free.f kf s = some (freeC s m : Int) by rw [← hsz]; exact hkf)
    clear hkf
    by_cases hz : 0 < freeC s m
    · have hz0 : (0 : Int) < (freeC s m : Int) := by omega
      by_cases hlt : i < ms.length
      · have hltz : (i : Int) < (ms.length : Int) := by omega
        obtain ⟨ad, rfl, hcell⟩ : ∃ ad, A3 = some ad ∧ wr.cell? (ad.add i) = some (.int .u8 (rd ms (i : Int))) := by
          obtain ⟨ad, cs, e, _, hK, hc0⟩ := Kd.C_get (Kd.C_below HR3.out HBs.out) (0 : Int) (i : Int) (by omega) (by omega)
          refine ⟨ad, e, ?_⟩
          have hK' : cs = [Value.int .u8 (ms.getD i 0)] := hK
          subst hK'
          have := hc0 0 _ rfl
          simpa [rd, show (Kd.int IntKind.u8).sz = 1 from rfl] using this
        have hx : 0 ≤ rd ms (i : Int) ∧ rd ms (i : Int) ≤ 255 := HU.out _ (by unfold rd; simp only [Int.toNat_natCast]; rw [List.getD_eq_getElem?_getD, List.getElem?_eq_getElem hlt]; exact List.getElem_mem hlt)
        have ewx : wrap64 (rd ms (i : Int)) = rd ms (i : Int) := by rw [wrap64_id] <;> omega
        have hx0 : 0 ≤ rd ms (i : Int) := hx.1
        obtain ⟨j, hj, h46, he⟩ := chosen_ev s (by omega) (rd ms (i : Int)) hx0 (by rw [hsz]; exact hz)
        obtain ⟨kc, hkc⟩ := he.rounds
        have HKC := Aside0.mk hkc
        rw [hsz] at hj
        obtain ⟨⟨ga1, ga2⟩, gb, gc⟩ := mid_round HPB.out HMs.out hj h46
        obtain ⟨s1, hs1⟩ : ∃ s1, placedS s (j : Int) 119 = s1 := ⟨_, rfl⟩
        obtain ⟨Z, hZ⟩ : ∃ Z, ansL (j : Int) b = Z := ⟨_, rfl⟩
        have HA : Aside0 (ambush_Answer.f m l b j = some (Z, 0)) := ⟨answer_good HF0.out HPB.out h9 hj hZ⟩
        have HPL : Aside0 (drovewaylaw04_placed.f s (j : Int) 119 = some s1) := ⟨by rw [← hs1]; rfl⟩
        have hsz1 : s1.size = m := by rw [← hs1, placedS_size]; exact hsz
        rw [hs1] at gb gc
        rw [hZ] at ga1 ga2 gb gc
        have GB := Aside0.mk gb
        have GC := Aside0.mk gc
        have hd1 : decide (Z < -1) = false := decide_eq_false (by omega)
        have hd2 : decide ((m : Int) ≤ Z) = false := decide_eq_false (by omega)
        have HJ := Aside0.mk hj
        have HSZ1 := Aside0.mk hsz1
        have ewi : wrap64 ((i : Int) + 1) = ((i + 1 : Nat) : Int) := by rw [wrap64_id] <;> omega
        have EWI := Aside0.mk ewi
        clear he hkc gb gc hs1 hZ h46 hj hsz1 ewi
        by_cases hZ0 : Z < 0
        · have hno : ∀ a : Nat, Z = (a : Int) → bt s1 (a : Int) ≠ 46 := fun a ha => by omega
          obtain ⟨cc, hcc, hev⟩ := chosen_any s1 (by rw [HSZ1.out]; omega) 0 (by omega)
          rw [HSZ1.out] at hcc
          obtain ⟨kd, hkd⟩ := hev.rounds
          have HKD := Aside0.mk hkd
          obtain ⟨s2, hs2⟩ : ∃ s2, placedS s1 cc 100 = s2 := ⟨_, rfl⟩
          have HPM : Aside0 (drovewaylaw04_placed.f s1 cc 100 = some s2) := ⟨by rw [← hs2]; rfl⟩
          have HD : Aside0 (MidS m l b s2 ∧ freeC s2 m < freeC s m) := ⟨by rw [← hs2]; exact GC.out hno cc hcc⟩
          clear hno hcc hev hkd hs2
          go_wp2_with (first
            | (go_at_call 16; refine (drovewaylaw04_free.calls kf s _ _ HKF.out).mono ?_; rintro e w9 ⟨rfl, hb9⟩; have HB9 := Aside0.mk (below_then HBs.out HBs.out.size hb9.below); have HRP9 := Aside0.mk (Kd.C_below HRs.out hb9.below); have hc9 := pw_cell_below hb9.below hcell; clear hb9)
            | (go_at_call 25; with_reducible refine (drovewaylaw04_chosen.calls kc s _ _ _ HKC.out).mono ?_; rintro e w10 ⟨rfl, hb10⟩; have HB10 := Aside0.mk (below_then HB9.out HB9.out.size hb10.below); have HRP10 := Aside0.mk (Kd.C_below HRP9.out hb10.below); clear hb10)
            | (go_at_call 15; with_reducible refine (drovewaylaw04_placed.calls s (j : Int) 119 s1 _ HPL.out).mono ?_; rintro e w11 ⟨rfl, hb11⟩; have HB11 := Aside0.mk (below_then HB10.out HB10.out.size hb11); have HRP11 := Aside0.mk (Kd.C_below HRP10.out hb11); clear hb11)
            | (go_at_call 31; refine (ambush_Answer.calls m A c l A4 c4 b (j : Int) Z 0 _ (Kd.C_below HR.out HB11.out) HC.out HRP11.out HC4.out HA.out).mono ?_; rintro e w12 ⟨rfl, hb12⟩; have HB12 := Aside0.mk (below_then HB11.out HB11.out.size hb12); have HRP12 := Aside0.mk (Kd.C_below HRP11.out hb12); clear hb12)
            | (go_at_call 25; with_reducible refine (drovewaylaw04_chosen.calls kd s1 0 cc _ HKD.out).mono ?_; rintro e w13 ⟨rfl, hb13⟩; have HB13 := Aside0.mk (below_then HB12.out HB12.out.size hb13.below); have HRP13 := Aside0.mk (Kd.C_below HRP12.out hb13.below); clear hb13)
            | (go_at_call 15; with_reducible refine (drovewaylaw04_placed.calls s1 cc 100 s2 _ HPM.out).mono ?_; rintro e w14 ⟨rfl, hb14⟩; have HB14 := Aside0.mk (below_then HB13.out HB13.out.size hb14); have HRP14 := Aside0.mk (Kd.C_below HRP13.out hb14); clear hb14))
          go_roundg (freeC s2 m)
          case measure => have := HD.out.2; omega
          case rel => exact ⟨s2, i + 1, rfl, by go_num, Nat.le_refl _, by have := HD.out.2; omega, ⟨HD.out.1⟩, HB14, HRP14⟩
        · by_cases hbz : bt s1 Z = 46
          · have c8b0 : (bt s1 Z == 46) = true := beq_iff_eq.mpr hbz
            have c8b1 : (bt s1 Z != 46) = false := bne_eq_false_iff_eq.mpr hbz
            obtain ⟨s2, hs2⟩ : ∃ s2, placedS s1 Z 100 = s2 := ⟨_, rfl⟩
            have HPM : Aside0 (drovewaylaw04_placed.f s1 Z 100 = some s2) := ⟨by rw [← hs2]; rfl⟩
            have HD : Aside0 (MidS m l b s2 ∧ freeC s2 m < freeC s m) := ⟨by rw [← hs2]; have := GB.out Z.toNat (by omega) (by rw [Int.toNat_of_nonneg (a := Z) (by omega)]; exact hbz); rw [Int.toNat_of_nonneg (a := Z) (by omega)] at this; exact ⟨this.1, by omega⟩⟩
            clear hbz hs2
            have p4 : (0 : Int) ≤ Z := by omega
            have q4 : Z < (s1.size : Int) := by rw [HSZ1.out]; exact ga2
            have hx4 := bt_at s1 Z
            replace p4 := eq_true p4
            replace q4 := eq_true q4
            go_wp2_with (first
              | (go_at_call 16; refine (drovewaylaw04_free.calls kf s _ _ HKF.out).mono ?_; rintro e w9 ⟨rfl, hb9⟩; have HB9 := Aside0.mk (below_then HBs.out HBs.out.size hb9.below); have HRP9 := Aside0.mk (Kd.C_below HRs.out hb9.below); have hc9 := pw_cell_below hb9.below hcell; clear hb9)
              | (go_at_call 25; with_reducible refine (drovewaylaw04_chosen.calls kc s _ _ _ HKC.out).mono ?_; rintro e w10 ⟨rfl, hb10⟩; have HB10 := Aside0.mk (below_then HB9.out HB9.out.size hb10.below); have HRP10 := Aside0.mk (Kd.C_below HRP9.out hb10.below); clear hb10)
              | (go_at_call 15; with_reducible refine (drovewaylaw04_placed.calls s (j : Int) 119 s1 _ HPL.out).mono ?_; rintro e w11 ⟨rfl, hb11⟩; have HB11 := Aside0.mk (below_then HB10.out HB10.out.size hb11); have HRP11 := Aside0.mk (Kd.C_below HRP10.out hb11); clear hb11)
              | (go_at_call 31; refine (ambush_Answer.calls m A c l A4 c4 b (j : Int) Z 0 _ (Kd.C_below HR.out HB11.out) HC.out HRP11.out HC4.out HA.out).mono ?_; rintro e w12 ⟨rfl, hb12⟩; have HB12 := Aside0.mk (below_then HB11.out HB11.out.size hb12); have HRP12 := Aside0.mk (Kd.C_below HRP11.out hb12); clear hb12)
              | (go_at_call 15; with_reducible refine (drovewaylaw04_placed.calls s1 Z 100 s2 _ HPM.out).mono ?_; rintro e w14 ⟨rfl, hb14⟩; have HB14 := Aside0.mk (below_then HB12.out HB12.out.size hb14); have HRP14 := Aside0.mk (Kd.C_below HRP12.out hb14); clear hb14))
            go_roundg (freeC s2 m)
            case measure => have := HD.out.2; omega
            case rel => exact ⟨s2, i + 1, rfl, by go_num, Nat.le_refl _, by have := HD.out.2; omega, ⟨HD.out.1⟩, HB14, HRP14⟩
          · have c8b0 : (bt s1 Z == 46) = false := beq_eq_false_iff_ne.mpr hbz
            have c8b1 : (bt s1 Z != 46) = true := bne_iff_ne.mpr hbz
            have hno : ∀ a : Nat, Z = (a : Int) → bt s1 (a : Int) ≠ 46 := fun a ha => by rw [← ha]; exact hbz
            obtain ⟨cc, hcc, hev⟩ := chosen_any s1 (by rw [HSZ1.out]; omega) 0 (by omega)
            rw [HSZ1.out] at hcc
            obtain ⟨kd, hkd⟩ := hev.rounds
            have HKD := Aside0.mk hkd
            obtain ⟨s2, hs2⟩ : ∃ s2, placedS s1 cc 100 = s2 := ⟨_, rfl⟩
            have HPM : Aside0 (drovewaylaw04_placed.f s1 cc 100 = some s2) := ⟨by rw [← hs2]; rfl⟩
            have HD : Aside0 (MidS m l b s2 ∧ freeC s2 m < freeC s m) := ⟨by rw [← hs2]; exact GC.out hno cc hcc⟩
            clear hno hcc hev hkd hs2
            clear hbz
            have p4 : (0 : Int) ≤ Z := by omega
            have q4 : Z < (s1.size : Int) := by rw [HSZ1.out]; exact ga2
            have hx4 := bt_at s1 Z
            replace p4 := eq_true p4
            replace q4 := eq_true q4
            go_wp2_with (first
              | (go_at_call 16; refine (drovewaylaw04_free.calls kf s _ _ HKF.out).mono ?_; rintro e w9 ⟨rfl, hb9⟩; have HB9 := Aside0.mk (below_then HBs.out HBs.out.size hb9.below); have HRP9 := Aside0.mk (Kd.C_below HRs.out hb9.below); have hc9 := pw_cell_below hb9.below hcell; clear hb9)
              | (go_at_call 25; with_reducible refine (drovewaylaw04_chosen.calls kc s _ _ _ HKC.out).mono ?_; rintro e w10 ⟨rfl, hb10⟩; have HB10 := Aside0.mk (below_then HB9.out HB9.out.size hb10.below); have HRP10 := Aside0.mk (Kd.C_below HRP9.out hb10.below); clear hb10)
              | (go_at_call 15; with_reducible refine (drovewaylaw04_placed.calls s (j : Int) 119 s1 _ HPL.out).mono ?_; rintro e w11 ⟨rfl, hb11⟩; have HB11 := Aside0.mk (below_then HB10.out HB10.out.size hb11); have HRP11 := Aside0.mk (Kd.C_below HRP10.out hb11); clear hb11)
              | (go_at_call 31; refine (ambush_Answer.calls m A c l A4 c4 b (j : Int) Z 0 _ (Kd.C_below HR.out HB11.out) HC.out HRP11.out HC4.out HA.out).mono ?_; rintro e w12 ⟨rfl, hb12⟩; have HB12 := Aside0.mk (below_then HB11.out HB11.out.size hb12); have HRP12 := Aside0.mk (Kd.C_below HRP11.out hb12); clear hb12)
              | (go_at_call 25; with_reducible refine (drovewaylaw04_chosen.calls kd s1 0 cc _ HKD.out).mono ?_; rintro e w13 ⟨rfl, hb13⟩; have HB13 := Aside0.mk (below_then HB12.out HB12.out.size hb13.below); have HRP13 := Aside0.mk (Kd.C_below HRP12.out hb13.below); clear hb13)
              | (go_at_call 15; with_reducible refine (drovewaylaw04_placed.calls s1 cc 100 s2 _ HPM.out).mono ?_; rintro e w14 ⟨rfl, hb14⟩; have HB14 := Aside0.mk (below_then HB13.out HB13.out.size hb14); have HRP14 := Aside0.mk (Kd.C_below HRP13.out hb14); clear hb14))
            go_roundg (freeC s2 m)
            case measure => have := HD.out.2; omega
            case rel => exact ⟨s2, i + 1, rfl, by go_num, Nat.le_refl _, by have := HD.out.2; omega, ⟨HD.out.1⟩, HB14, HRP14⟩
      · have hltz : ¬ (i : Int) < (ms.length : Int) := by omega
        have hx0 : 0 ≤ (0 : Int) := by omega
        obtain ⟨j, hj, h46, he⟩ := chosen_ev s (by omega) 0 hx0 (by rw [hsz]; exact hz)
        obtain ⟨kc, hkc⟩ := he.rounds
        have HKC := Aside0.mk hkc
        rw [hsz] at hj
        obtain ⟨⟨ga1, ga2⟩, gb, gc⟩ := mid_round HPB.out HMs.out hj h46
        obtain ⟨s1, hs1⟩ : ∃ s1, placedS s (j : Int) 119 = s1 := ⟨_, rfl⟩
        obtain ⟨Z, hZ⟩ : ∃ Z, ansL (j : Int) b = Z := ⟨_, rfl⟩
        have HA : Aside0 (ambush_Answer.f m l b j = some (Z, 0)) := ⟨answer_good HF0.out HPB.out h9 hj hZ⟩
        have HPL : Aside0 (drovewaylaw04_placed.f s (j : Int) 119 = some s1) := ⟨by rw [← hs1]; rfl⟩
        have hsz1 : s1.size = m := by rw [← hs1, placedS_size]; exact hsz
        rw [hs1] at gb gc
        rw [hZ] at ga1 ga2 gb gc
        have GB := Aside0.mk gb
        have GC := Aside0.mk gc
        have hd1 : decide (Z < -1) = false := decide_eq_false (by omega)
        have hd2 : decide ((m : Int) ≤ Z) = false := decide_eq_false (by omega)
        have HJ := Aside0.mk hj
        have HSZ1 := Aside0.mk hsz1
        have ewi : wrap64 ((i : Int) + 1) = ((i + 1 : Nat) : Int) := by rw [wrap64_id] <;> omega
        have EWI := Aside0.mk ewi
        clear he hkc gb gc hs1 hZ h46 hj hsz1 ewi
        by_cases hZ0 : Z < 0
        · have hno : ∀ a : Nat, Z = (a : Int) → bt s1 (a : Int) ≠ 46 := fun a ha => by omega
          obtain ⟨cc, hcc, hev⟩ := chosen_any s1 (by rw [HSZ1.out]; omega) 0 (by omega)
          rw [HSZ1.out] at hcc
          obtain ⟨kd, hkd⟩ := hev.rounds
          have HKD := Aside0.mk hkd
          obtain ⟨s2, hs2⟩ : ∃ s2, placedS s1 cc 100 = s2 := ⟨_, rfl⟩
          have HPM : Aside0 (drovewaylaw04_placed.f s1 cc 100 = some s2) := ⟨by rw [← hs2]; rfl⟩
          have HD : Aside0 (MidS m l b s2 ∧ freeC s2 m < freeC s m) := ⟨by rw [← hs2]; exact GC.out hno cc hcc⟩
          clear hno hcc hev hkd hs2
          go_wp2_with (first
            | (go_at_call 16; refine (drovewaylaw04_free.calls kf s _ _ HKF.out).mono ?_; rintro e w9 ⟨rfl, hb9⟩; have HB9 := Aside0.mk (below_then HBs.out HBs.out.size hb9.below); have HRP9 := Aside0.mk (Kd.C_below HRs.out hb9.below); clear hb9)
            | (go_at_call 25; with_reducible refine (drovewaylaw04_chosen.calls kc s _ _ _ HKC.out).mono ?_; rintro e w10 ⟨rfl, hb10⟩; have HB10 := Aside0.mk (below_then HB9.out HB9.out.size hb10.below); have HRP10 := Aside0.mk (Kd.C_below HRP9.out hb10.below); clear hb10)
            | (go_at_call 15; with_reducible refine (drovewaylaw04_placed.calls s (j : Int) 119 s1 _ HPL.out).mono ?_; rintro e w11 ⟨rfl, hb11⟩; have HB11 := Aside0.mk (below_then HB10.out HB10.out.size hb11); have HRP11 := Aside0.mk (Kd.C_below HRP10.out hb11); clear hb11)
            | (go_at_call 31; refine (ambush_Answer.calls m A c l A4 c4 b (j : Int) Z 0 _ (Kd.C_below HR.out HB11.out) HC.out HRP11.out HC4.out HA.out).mono ?_; rintro e w12 ⟨rfl, hb12⟩; have HB12 := Aside0.mk (below_then HB11.out HB11.out.size hb12); have HRP12 := Aside0.mk (Kd.C_below HRP11.out hb12); clear hb12)
            | (go_at_call 25; with_reducible refine (drovewaylaw04_chosen.calls kd s1 0 cc _ HKD.out).mono ?_; rintro e w13 ⟨rfl, hb13⟩; have HB13 := Aside0.mk (below_then HB12.out HB12.out.size hb13.below); have HRP13 := Aside0.mk (Kd.C_below HRP12.out hb13.below); clear hb13)
            | (go_at_call 15; with_reducible refine (drovewaylaw04_placed.calls s1 cc 100 s2 _ HPM.out).mono ?_; rintro e w14 ⟨rfl, hb14⟩; have HB14 := Aside0.mk (below_then HB13.out HB13.out.size hb14); have HRP14 := Aside0.mk (Kd.C_below HRP13.out hb14); clear hb14))
          go_roundg (freeC s2 m)
          case measure => have := HD.out.2; omega
          case rel => exact ⟨s2, i + 1, rfl, by go_num, Nat.le_refl _, by have := HD.out.2; omega, ⟨HD.out.1⟩, HB14, HRP14⟩
        · by_cases hbz : bt s1 Z = 46
          · have c8b0 : (bt s1 Z == 46) = true := beq_iff_eq.mpr hbz
            have c8b1 : (bt s1 Z != 46) = false := bne_eq_false_iff_eq.mpr hbz
            obtain ⟨s2, hs2⟩ : ∃ s2, placedS s1 Z 100 = s2 := ⟨_, rfl⟩
            have HPM : Aside0 (drovewaylaw04_placed.f s1 Z 100 = some s2) := ⟨by rw [← hs2]; rfl⟩
            have HD : Aside0 (MidS m l b s2 ∧ freeC s2 m < freeC s m) := ⟨by rw [← hs2]; have := GB.out Z.toNat (by omega) (by rw [Int.toNat_of_nonneg (a := Z) (by omega)]; exact hbz); rw [Int.toNat_of_nonneg (a := Z) (by omega)] at this; exact ⟨this.1, by omega⟩⟩
            clear hbz hs2
            have p4 : (0 : Int) ≤ Z := by omega
            have q4 : Z < (s1.size : Int) := by rw [HSZ1.out]; exact ga2
            have hx4 := bt_at s1 Z
            replace p4 := eq_true p4
            replace q4 := eq_true q4
            go_wp2_with (first
              | (go_at_call 16; refine (drovewaylaw04_free.calls kf s _ _ HKF.out).mono ?_; rintro e w9 ⟨rfl, hb9⟩; have HB9 := Aside0.mk (below_then HBs.out HBs.out.size hb9.below); have HRP9 := Aside0.mk (Kd.C_below HRs.out hb9.below); clear hb9)
              | (go_at_call 25; with_reducible refine (drovewaylaw04_chosen.calls kc s _ _ _ HKC.out).mono ?_; rintro e w10 ⟨rfl, hb10⟩; have HB10 := Aside0.mk (below_then HB9.out HB9.out.size hb10.below); have HRP10 := Aside0.mk (Kd.C_below HRP9.out hb10.below); clear hb10)
              | (go_at_call 15; with_reducible refine (drovewaylaw04_placed.calls s (j : Int) 119 s1 _ HPL.out).mono ?_; rintro e w11 ⟨rfl, hb11⟩; have HB11 := Aside0.mk (below_then HB10.out HB10.out.size hb11); have HRP11 := Aside0.mk (Kd.C_below HRP10.out hb11); clear hb11)
              | (go_at_call 31; refine (ambush_Answer.calls m A c l A4 c4 b (j : Int) Z 0 _ (Kd.C_below HR.out HB11.out) HC.out HRP11.out HC4.out HA.out).mono ?_; rintro e w12 ⟨rfl, hb12⟩; have HB12 := Aside0.mk (below_then HB11.out HB11.out.size hb12); have HRP12 := Aside0.mk (Kd.C_below HRP11.out hb12); clear hb12)
              | (go_at_call 15; with_reducible refine (drovewaylaw04_placed.calls s1 Z 100 s2 _ HPM.out).mono ?_; rintro e w14 ⟨rfl, hb14⟩; have HB14 := Aside0.mk (below_then HB12.out HB12.out.size hb14); have HRP14 := Aside0.mk (Kd.C_below HRP12.out hb14); clear hb14))
            go_roundg (freeC s2 m)
            case measure => have := HD.out.2; omega
            case rel => exact ⟨s2, i + 1, rfl, by go_num, Nat.le_refl _, by have := HD.out.2; omega, ⟨HD.out.1⟩, HB14, HRP14⟩
          · have c8b0 : (bt s1 Z == 46) = false := beq_eq_false_iff_ne.mpr hbz
            have c8b1 : (bt s1 Z != 46) = true := bne_iff_ne.mpr hbz
            have hno : ∀ a : Nat, Z = (a : Int) → bt s1 (a : Int) ≠ 46 := fun a ha => by rw [← ha]; exact hbz
            obtain ⟨cc, hcc, hev⟩ := chosen_any s1 (by rw [HSZ1.out]; omega) 0 (by omega)
            rw [HSZ1.out] at hcc
            obtain ⟨kd, hkd⟩ := hev.rounds
            have HKD := Aside0.mk hkd
            obtain ⟨s2, hs2⟩ : ∃ s2, placedS s1 cc 100 = s2 := ⟨_, rfl⟩
            have HPM : Aside0 (drovewaylaw04_placed.f s1 cc 100 = some s2) := ⟨by rw [← hs2]; rfl⟩
            have HD : Aside0 (MidS m l b s2 ∧ freeC s2 m < freeC s m) := ⟨by rw [← hs2]; exact GC.out hno cc hcc⟩
            clear hno hcc hev hkd hs2
            clear hbz
            have p4 : (0 : Int) ≤ Z := by omega
            have q4 : Z < (s1.size : Int) := by rw [HSZ1.out]; exact ga2
            have hx4 := bt_at s1 Z
            replace p4 := eq_true p4
            replace q4 := eq_true q4
            go_wp2_with (first
              | (go_at_call 16; refine (drovewaylaw04_free.calls kf s _ _ HKF.out).mono ?_; rintro e w9 ⟨rfl, hb9⟩; have HB9 := Aside0.mk (below_then HBs.out HBs.out.size hb9.below); have HRP9 := Aside0.mk (Kd.C_below HRs.out hb9.below); clear hb9)
              | (go_at_call 25; with_reducible refine (drovewaylaw04_chosen.calls kc s _ _ _ HKC.out).mono ?_; rintro e w10 ⟨rfl, hb10⟩; have HB10 := Aside0.mk (below_then HB9.out HB9.out.size hb10.below); have HRP10 := Aside0.mk (Kd.C_below HRP9.out hb10.below); clear hb10)
              | (go_at_call 15; with_reducible refine (drovewaylaw04_placed.calls s (j : Int) 119 s1 _ HPL.out).mono ?_; rintro e w11 ⟨rfl, hb11⟩; have HB11 := Aside0.mk (below_then HB10.out HB10.out.size hb11); have HRP11 := Aside0.mk (Kd.C_below HRP10.out hb11); clear hb11)
              | (go_at_call 31; refine (ambush_Answer.calls m A c l A4 c4 b (j : Int) Z 0 _ (Kd.C_below HR.out HB11.out) HC.out HRP11.out HC4.out HA.out).mono ?_; rintro e w12 ⟨rfl, hb12⟩; have HB12 := Aside0.mk (below_then HB11.out HB11.out.size hb12); have HRP12 := Aside0.mk (Kd.C_below HRP11.out hb12); clear hb12)
              | (go_at_call 25; with_reducible refine (drovewaylaw04_chosen.calls kd s1 0 cc _ HKD.out).mono ?_; rintro e w13 ⟨rfl, hb13⟩; have HB13 := Aside0.mk (below_then HB12.out HB12.out.size hb13.below); have HRP13 := Aside0.mk (Kd.C_below HRP12.out hb13.below); clear hb13)
              | (go_at_call 15; with_reducible refine (drovewaylaw04_placed.calls s1 cc 100 s2 _ HPM.out).mono ?_; rintro e w14 ⟨rfl, hb14⟩; have HB14 := Aside0.mk (below_then HB13.out HB13.out.size hb14); have HRP14 := Aside0.mk (Kd.C_below HRP13.out hb14); clear hb14))
            go_roundg (freeC s2 m)
            case measure => have := HD.out.2; omega
            case rel => exact ⟨s2, i + 1, rfl, by go_num, Nat.le_refl _, by have := HD.out.2; omega, ⟨HD.out.1⟩, HB14, HRP14⟩
    · have hz0 : ¬ (0 : Int) < (freeC s m : Int) := by omega
      go_wp2_with (first
        | (go_at_call 16; refine (drovewaylaw04_free.calls kf s _ _ HKF.out).mono ?_; rintro e w9 ⟨rfl, hb9⟩; have HB9 := Aside0.mk (below_then HBs.out HBs.out.size hb9.below); clear hb9)
        | (go_at_call 14; with_reducible refine (ambush_Winner.calls m A c l s (⟨#[119]⟩ : ByteArray) _ _ _ (Kd.C_below HR.out HB9.out) HC.out (HMs.out.winW HF0.out HPB.out)).mono ?_; rintro e w10 ⟨rfl, hb10⟩; have HB10 := Aside0.mk (below_then HB9.out HB9.out.size hb10); clear hb10)
        | (go_at_call 12; refine (drovewaylaw04_alive.calls true _ rfl).mono ?_; rintro e w11 ⟨rfl, hb11⟩; have HB11 := Aside0.mk (below_then HB10.out HB10.out.size hb11); clear hb11))
      go_ret
      exact ⟨rfl, HB11.out⟩

end Go.Proofs.Ytbjpjjokamaliaa.B

/- AmbushPaired, walked: it returns true, whatever it is given. -/
namespace Go.Proofs.Ytbjpjjokamaliaa.B
open Go.Proofs.Ytbjpjjokamaliaa.A
open Go.RowKit Go.Proofs.YtbjpjjokamaliaaW.PrintWords Go.Proofs.YtbjpjjokamaliaaW.PrintLast Go.Proofs.YtbjpjjokamaliaaW.PrintMore
theorem paired_any (m : Int) (A : Option Addr) (c : Nat) (l : List Int) (A2 : Option Addr) (c2 : Nat) (ps : List S59) (A3 : Option Addr) (c3 : Nat) (ms : List Int) (w : World) (hr : Kd.C (Kd.int .i64) w A l.length l) (hc : l.length ≤ c) (hr2 : Kd.C k59 w A2 ps.length ps) (hc2 : ps.length ≤ c2) (hr3 : Kd.C (Kd.int .u8) w A3 ms.length ms) (hu : ∀ x ∈ ms, 0 ≤ x ∧ x ≤ 255) :
    Calls Try.prog 8 #[.int .i64 m, .slice A l.length c, .slice A2 ps.length c2, .slice A3 ms.length c3] w fun e w' => e = .returned (.bool true) ∧ Below w.heap.size w w' := by
  by_cases h40 : (l.length : Int) ≤ 40
  · by_cases h2 : (ps.length : Int) > 40
    · exact paired_ps m A c l A2 _ c2 A3 _ c3 w hr hc h40 h2
    · by_cases h3 : (ms.length : Int) > 40
      · exact paired_ms m A c l A2 _ c2 A3 _ c3 w hr hc h40 h2 h3
      · by_cases hF : okF m l = 0
        · have h1 := (okF_m hF).1
          obtain ⟨n, rfl⟩ : ∃ n : Nat, m = n := ⟨m.toNat, by omega⟩
          have h9 : n ≤ 9 := by have := okF_m hF; omega
          cases hP : pairF l n with
          | none => exact paired_none n A c l A2 c2 ps A3 _ c3 w hr hc hr2 hc2 h40 h2 h3 hF hP
          | some b =>
            have hb := pairF_sound hP
            cases hI : isPB n l ps with
            | true =>
              obtain ⟨b', hb', hle⟩ := pairF_least h9 hI
              rw [hP] at hb'
              cases hb'
              exact paired_is n A c l A2 c2 ps A3 c3 ms w hr hc hr2 hc2 hr3 hu h40 h2 h3 hF b hP hb hI hle
            | false => exact paired_not n A c l A2 c2 ps A3 c3 ms w hr hc hr2 hc2 hr3 hu h40 h2 h3 hF b hP hb hI trivial
        · exact paired_field m A c l A2 _ c2 A3 _ c3 w hr hc h40 h2 h3 hF
  · exact paired_few m A c l A2 _ c2 A3 _ c3 w hr hc h40
end Go.Proofs.Ytbjpjjokamaliaa.B

/- An argument that is a slice of pairs, opened to a row of cells. -/
namespace Go.Proofs.Ytbjpjjokamaliaa.A
open Go.ChangeShapes Go.WideShapes Go.Deep
open Go.RowKit Go.Proofs.YtbjpjjokamaliaaW.PrintWords

theorem list_of {α : Type} {P : Nat → α → Prop} : ∀ n, (∀ i, i < n → ∃ x, P i x) → ∃ l : List α, l.length = n ∧ ∀ (i : Nat) (x : α), l[i]? = some x → P i x := by
  intro n
  induction n with
  | zero => exact fun _ => ⟨[], rfl, fun i x h => by simp at h⟩
  | succ n ih =>
    intro h
    obtain ⟨l, hl, hp⟩ := ih (fun i hi => h i (by omega))
    obtain ⟨x, hx⟩ := h n (by omega)
    refine ⟨l ++ [x], by simp [hl], fun i y hy => ?_⟩
    by_cases hi : i < l.length
    · rw [List.getElem?_append_left hi] at hy
      exact hp i y hy
    · have e : i = n := by
        have := (List.getElem?_eq_some_iff.1 hy).1
        rw [List.length_append, List.length_singleton] at this
        omega
      subst e
      have : x = y := by simpa [← hl] using hy
      subst this
      exact hx

set_option maxRecDepth 100000 in
theorem open_pairs {H : Type} {enc : TypeId × Value → H} {W : World} {a : Option Addr} {len cap : Nat} {d : DataW H} {p : List MemPlace} (h : DataW.Trod enc Try.prog W 0 (fun _ => true) true 46 (.slice a len cap) d p) :
    ∃ ps : List S59, ps.length = len ∧ len ≤ cap ∧ cap ≤ maxLen ∧ Kd.C k59 W a len ps := by
  obtain ⟨fuel, hf⟩ := h
  rcases open_slice Try.underlying46 hf with ⟨hcs, _⟩ | ⟨x, l, c, m, n, D, Pl, hcs, _, hl, hm, hmm, _, hi⟩
  · simp [Value.cells] at hcs
    obtain ⟨rfl, rfl, rfl⟩ := hcs
    exact ⟨[], rfl, Nat.le_refl _, Nat.zero_le _, rfl, by omega, fun h => absurd h (by omega)⟩
  · simp [Value.cells] at hcs
    obtain ⟨rfl, rfl, rfl⟩ := hcs
    have hC : Try.prog.cellsOf 59 = 2 := by kernel_rfl
    have he : ∀ i, i < len → ∃ q : S59, W.cell? (x.add (i * 2)) = some (.int .i64 q.f0) ∧ W.cell? (x.add (i * 2 + 1)) = some (.int .i64 q.f1) := by
      intro i hil
      obtain ⟨cs', hc, ht'⟩ := hi i (by rw [hmm, if_pos rfl]; omega)
      rw [hC] at hc
      obtain ⟨ys, n', _, _, hlen, hyl, hfd⟩ := DataW.trod_struct Try.underlying59 ht'
      obtain ⟨_, hcl, hat⟩ := World.cells?_some hc
      have h0 := hfd 0 _ rfl
      have h1 := hfd 1 _ rfl
      match cs', hcl, ys, hyl with
      | [c0, c1], _, [y0, y1], _ =>
        have e0 : Try.prog.cellsOf 3 = 1 := by kernel_rfl
        simp [e0] at h0 h1
        obtain ⟨n0, hn0, _, _⟩ := DataW.trod_int Try.underlying3 h0
        obtain ⟨n1, hn1, _, _⟩ := DataW.trod_int Try.underlying3 h1
        simp at hn0 hn1
        subst hn0 hn1
        refine ⟨⟨n0, n1⟩, ?_, ?_⟩
        · have := hat 0 (by omega)
          rw [Go.Deep.add_add] at this
          exact this
        · have := hat 1 (by omega)
          rw [Go.Deep.add_add] at this
          exact this
    obtain ⟨ps, hps, hall⟩ := list_of len he
    refine ⟨ps, hps, hl, hm, hps, by unfold maxLen at hm; omega, fun _ => ⟨x, rfl, fun j q hj => ⟨[.int .i64 q.f0, .int .i64 q.f1], rfl, k59_mk W q, fun i u hu => ?_⟩⟩⟩
    obtain ⟨g0, g1⟩ := hall j q hj
    match i, hu with
    | 0, hu => cases hu; exact g0
    | 1, hu => cases hu; exact g1
end Go.Proofs.Ytbjpjjokamaliaa.A

/- AmbushPaired holds: its code returns true and leaves what it was given as it was. Conditions: those of the given statement, none besides. -/
namespace Go.Proofs.Ytbjpjjokamaliaa.ambushPaired
open Go.ChangeShapes Go.WideShapes Go.ChangeAt Go.RowKit
open Go.ChangeMaps (open_string shut_string)
open Go.Proofs.YtbjpjjokamaliaaW.PrintWords
open Go.Proofs.Ytbjpjjokamaliaa.A Go.Proofs.Ytbjpjjokamaliaa.B
set_option linter.unusedVariables false
theorem own : ownKnob Try.prog.godebug = none := by kernel_rfl
theorem laidOut : laidOutB Try.prog = true := by kernel_rfl
def IsRow (k : IntKind) (w : World) (a : Option Addr) (len cap : Nat) (zs : List Int) : Prop :=
  (a = none ∧ len = 0 ∧ cap = 0 ∧ zs = []) ∨
  ∃ x, a = some x ∧ len ≤ cap ∧ cap ≤ maxLen ∧ zs.length = cap ∧ (∀ i, i < zs.length → w.cell? (x.add i) = some (.int k (zs.getD i 0))) ∧ ∀ n ∈ zs, (Lit.int k n).wf = true
set_option maxRecDepth 100000 in
theorem lifted (os : Os) (started : os.Started) (H : Type) (enc : TypeId × Value → H) :
    ReturnsInHanded {} Try.checked os 8 .any (Rows.ambushPairedSpec.pre6 enc Try.prog Try.f8 Rows.ambushPairedRow.domain false) (Rows.ambushPairedSpec.post enc Try.prog Try.f8 false true false false) := by
  refine returnsInHanded_of_change_sized (C := Try.checked) own started (by kernel_rfl) Try.func8
    (ChangeSpec.witness6 (enc := enc) (C := Try.checked) false ⟨#[], #[.int .i64 0, .slice none 0 0, .slice none 0 0, .slice none 0 0], []⟩ 8 (by kernel_rfl) (by kernel_rfl) (by kernel_rfl) (by kernel_rfl)) ?_
  intro W base args ds gs before hval0 hW hcnd hsz0 _
  have hsz : (DataW.weightsEach Try.prog (Try.f8.params.toList ++ Rows.ambushPairedSpec.plain.varTypes Try.prog) (ds ++ gs)).all (· ≤ reachBytes) = true := hsz0
  have hval : ∀ (j : Nat) t v, Try.f8.params[j]? = some t → args[j]? = some v → Value.okWide Try.prog W .any base t v := hval0
  have hW' := hW
  obtain ⟨p, q, hA0, hV, rfl, hfz, hnd⟩ := hW
  have hA : DataW.TrodAll enc Try.prog W 0 (fun _ => true) true Try.f8.params.toList args.toList ds p := hA0
  rw [Try.params8] at hA hval hsz
  obtain ⟨v0, vs0, d0, ds0, p0, q0, hargs, rfl, rfl, h0, r0⟩ := trodAll_cons hA
  obtain ⟨v1, vs1, d1, ds1, p1, q1, rfl, rfl, rfl, h1, r1⟩ := trodAll_cons r0
  obtain ⟨v2, vs2, d2, ds2, p2, q2, rfl, rfl, rfl, h2, r2⟩ := trodAll_cons r1
  obtain ⟨v3, vs3, d3, ds3, p3, q3, rfl, rfl, rfl, h3, r3⟩ := trodAll_cons r2
  obtain ⟨rfl, rfl, rfl⟩ := trodAll_nil r3
  obtain rfl : args = #[v0, v1, v2, v3] := by cases args; simp_all
  obtain ⟨rfl, rfl⟩ := trodVars_none hV
  obtain ⟨a0, rfl, rfl, rfl, w0⟩ := open_int Try.underlying3 (hval 0 3 v0 rfl rfl) h0
  obtain ⟨a1, len1, cap1, rfl⟩ := okWide_slice Try.underlying22 (hval 1 22 v1 rfl rfl)
  have k1 := h1
  have lt1 : ∀ x ∈ p1, x.block < W.heap.size := by obtain ⟨m, hm⟩ := k1; exact DataW.trod_lt m _ _ _ hm
  obtain ⟨z1, w1⟩ : ∃ zs, IsRow .i64 W a1 len1 cap1 zs := by
    obtain ⟨fuel, hf⟩ := h1
    rcases open_ints Try.underlying22 Try.underlying3 (by kernel_rfl) hf with ⟨hcs, _⟩ | ⟨x, l, c, zs, hcs, _, hl, hm, hz, _, hcell, hwz⟩
    · simp [Value.cells] at hcs
      obtain ⟨rfl, rfl, rfl⟩ := hcs
      exact ⟨[], .inl ⟨rfl, rfl, rfl, rfl⟩⟩
    · simp [Value.cells] at hcs
      obtain ⟨rfl, rfl, rfl⟩ := hcs
      exact ⟨zs, .inr ⟨_, rfl, hl, hm, by simpa using hz, hcell, hwz⟩⟩
  have y1 : len1 * 8 ≤ 140737488351232 := Go.Proofs.YtbjpjjokamaliaaW.PrintWords.sized_ints hsz (j := 1) (t := 22) rfl rfl Try.underlying22 Try.underlying3 (by kernel_rfl) (by kernel_rfl) h1
  obtain ⟨l1, rfl, hr1, hm1, hw1, hc1⟩ := ReadsInt.ofRowC w1
  obtain ⟨a2, len2, cap2, rfl⟩ := okWide_slice Try.underlying46 (hval 2 46 v2 rfl rfl)
  have k2 := h2
  have lt2 : ∀ x ∈ p2, x.block < W.heap.size := by obtain ⟨m, hm⟩ := k2; exact DataW.trod_lt m _ _ _ hm
  obtain ⟨l2, rfl, hc2, hm2, hr2⟩ := open_pairs h2
  obtain ⟨a3, len3, cap3, rfl⟩ := okWide_slice Try.underlying43 (hval 3 43 v3 rfl rfl)
  have k3 := h3
  have lt3 : ∀ x ∈ p3, x.block < W.heap.size := by obtain ⟨m, hm⟩ := k3; exact DataW.trod_lt m _ _ _ hm
  obtain ⟨z3, w3⟩ : ∃ zs, IsRow .u8 W a3 len3 cap3 zs := by
    obtain ⟨fuel, hf⟩ := h3
    rcases open_ints Try.underlying43 Try.underlying5 (by kernel_rfl) hf with ⟨hcs, _⟩ | ⟨x, l, c, zs, hcs, _, hl, hm, hz, _, hcell, hwz⟩
    · simp [Value.cells] at hcs
      obtain ⟨rfl, rfl, rfl⟩ := hcs
      exact ⟨[], .inl ⟨rfl, rfl, rfl, rfl⟩⟩
    · simp [Value.cells] at hcs
      obtain ⟨rfl, rfl, rfl⟩ := hcs
      exact ⟨zs, .inr ⟨_, rfl, hl, hm, by simpa using hz, hcell, hwz⟩⟩
  have y3 : len3 * 1 ≤ 140737488351232 := Go.Proofs.YtbjpjjokamaliaaW.PrintWords.sized_ints hsz (j := 3) (t := 43) rfl rfl Try.underlying43 Try.underlying5 (by kernel_rfl) (by kernel_rfl) h3
  obtain ⟨l3, rfl, hr3, hm3, hw3, hc3⟩ := ReadsInt.ofRowC w3
  clear hA0 hval0 hsz0 hsz
  refine (paired_any a0 a1 cap1 l1 a2 cap2 l2 a3 cap3 l3 W (Kd.C_of_reads (d := (0 : Int)) (h1 := fun _ => rfl) hr1) hc1 hr2 hc2 (Kd.C_of_reads (d := (0 : Int)) (h1 := fun _ => rfl) hr3) (fun x hx => by have := hw3 x hx; simp [Lit.wf] at this; have e1 : IntKind.u8.min = 0 := rfl; have e2 : IntKind.u8.max = 255 := rfl; omega)).mono fun e W' ⟨he, bel⟩ => ?_
  subst he
  exact ⟨_, rfl, _, _, _, [], _, [], hW', trodAll_mk1 (shut_bool Try.underlying4 _), (trodAll_cons_mk (shut_int Try.underlying3 w0) (trodAll_cons_mk (Below.trod laidOut (by kernel_rfl) (of_decide_eq_true (by kernel_rfl)) k1 bel lt1) (trodAll_cons_mk (Below.trod laidOut (by kernel_rfl) (of_decide_eq_true (by kernel_rfl)) k2 bel lt2) (trodAll_cons_mk (Below.trod laidOut (by kernel_rfl) (of_decide_eq_true (by kernel_rfl)) k3 bel lt3) trodAll_mk0)))), rfl, bel.frame _, fun h => by cases h⟩
theorem over : Rows.ambushPairedRow.holds Try.pinned (OpenSpec.ofChange Rows.ambushPairedSpec) :=
  OpenClaim.holds_of_wide 8 Try.f8 rfl rfl rfl rfl rfl rfl rfl ⟨rfl, rfl, rfl, rfl, rfl⟩ rfl rfl rfl rfl rfl (by kernel_rfl) Try.func8 (by kernel_rfl)
    (of_decide_eq_true (by kernel_rfl)) (by unfold Func.isWrapper; first | (rw [if_pos (by decide +kernel)]; kernel_rfl) | (rw [if_neg (by decide +kernel)]; exact ⟨rfl, rfl⟩))
    (fun os started H enc _ => lifted os started H enc)
theorem proved : Rows.AmbushPairedSaid := over
#print axioms proved
end Go.Proofs.Ytbjpjjokamaliaa.ambushPaired
namespace Go.Proofs.Ytbjpjjokamaliaa
/-- The row, under a short name, for the claim. -/
theorem ambushPaired_holds : Rows.AmbushPairedSaid := ambushPaired.proved
end Go.Proofs.Ytbjpjjokamaliaa
