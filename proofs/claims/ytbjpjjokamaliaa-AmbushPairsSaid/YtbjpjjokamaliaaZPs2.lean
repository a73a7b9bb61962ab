/- IsPairing and Answer, as they are called. -/
import Derived.Test.YtbjpjjokamaliaaZPs1
import Derived.Test.YtbjpjjokamaliaaProg
import Derived.Below
import Derived.Deep.Draws
import Derived.Deep.AppendLies
import Derived.Maps.AppendAt
import Derived.OwnWalk
import Derived.Laws.BytesArg
import Derived.Laws.MakeOwn
import Derived.Laws.OwnMore
import Derived.Deep.OwnRows
import Derived.Tactics
import Derived.Lib.ConvBytes
import Derived.Laws.Slices
import Derived.WalkKit
import Derived.KernelRfl
import Derived.RowKit3
import Derived.Deep.LoopGhost
import Derived.Deep.QuietTactic
import Derived.BigQuiet
import Derived.WideLaws
import Derived.Deep.DeepCutAuto
import Derived.Deep.CutBlock
import Derived.Deep.RegionHeld3
import Derived.Laws.Rows
import Derived.Lib.AppendStr
import Derived.ArgAppend
import Derived.Laws.IdiomCopy
import Derived.OrdersHeld
import Derived.Laws.BitsLemmas
import Derived.RowKit
import Derived.Test.YtbjpjjokamaliaaWWords
import Derived.Test.YtbjpjjokamaliaaWLast
import Derived.Test.YtbjpjjokamaliaaWTab
import Derived.Test.YtbjpjjokamaliaaWFour
import Derived.Test.YtbjpjjokamaliaaWQPut
import Derived.Test.YtbjpjjokamaliaaWApart
import Derived.Test.YtbjpjjokamaliaaWArr
import Derived.Test.YtbjpjjokamaliaaWZeros
import Derived.Test.YtbjpjjokamaliaaWFoot
import Derived.Test.YtbjpjjokamaliaaWKept
import Derived.Test.YtbjpjjokamaliaaWShare
import Derived.Test.YtbjpjjokamaliaaWN
import Derived.Test.YtbjpjjokamaliaaWFootNe
import Derived.Test.YtbjpjjokamaliaaWAt
import Derived.Test.YtbjpjjokamaliaaWEqStruct
import Derived.Test.YtbjpjjokamaliaaWRepsOne
import Derived.Test.YtbjpjjokamaliaaWInv
import Derived.Test.YtbjpjjokamaliaaWInvWords
import Derived.Test.YtbjpjjokamaliaaWGuard
import Derived.Test.YtbjpjjokamaliaaWNEv
import Derived.Test.YtbjpjjokamaliaaWMore
/- IsPairing and Answer, as they are called. -/
namespace Go.Proofs.Ytbjpjjokamaliaa.B
open Go.Proofs.Ytbjpjjokamaliaa.A
open Go.RowKit Go.Proofs.YtbjpjjokamaliaaW.PrintWords Go.Proofs.YtbjpjjokamaliaaW.PrintLast Go.Proofs.YtbjpjjokamaliaaW.PrintMore

/-- Are pairs good, given what is used and the spot before? -/
def goodP (m : Nat) : Nat → Int → List S59 → Bool
  | _, _, [] => true
  | used, prev, q :: ps => decide (0 ≤ q.f0) && decide (q.f0 < q.f1) && decide (q.f1 < m) && decide (used &&& setN q = 0) && decide (prev < q.f0) && goodP m (used ||| setN q) q.f0 ps
def isPB (m : Nat) (l : List Int) (ps : List S59) : Bool := goodP m 0 (-1) ps && metB l ps

theorem rdT (ps : List S59) (i : Nat) (h : i < ps.length) : rd_T59 ps (i : Int) = ps[i] := by
  unfold rd_T59
  simp [List.getD_eq_getElem?_getD, h]
theorem isP_l0 {m : Nat} {l : List Int} (hF : okF m l = 0) (ps : List S59) (h40 : ps.length ≤ 1000) : ∀ n i (used : Nat) (prev : Int), ps.length - i = n → i ≤ ps.length → used < 2 ^ m →
    ((i = 0 ∧ prev = -1) ∨ (0 < i ∧ prev = (rd_T59 ps ((i - 1 : Nat) : Int)).f0)) → (∀ j, (h : j < i) → (h2 : j < ps.length) → okQ m ps[j] = true) →
    Ev (fun k => ambush_field_isPairing.l0 k ps used ps (ps.length : Int) (i : Int) m l) (goodP m used prev (ps.drop i) && metB l ps) := by
  have h9 : m ≤ 9 := by have := okF_m hF; omega
  intro n
  induction n with
  | zero =>
    intro i used prev hn hi hu hp hall
    have e : i = ps.length := by omega
    have hd : ps.drop i = [] := List.drop_eq_nil_of_le (by omega)
    rw [hd]
    have hm : ambush_field_met.f m l ps = some (metB l ps) := by
      unfold ambush_field_met.f
      rw [if_pos]
      refine ⟨hF, List.all_eq_true.2 fun q hq => ?_⟩
      obtain ⟨j, hj, rfl⟩ := List.getElem_of_mem hq
      exact hall j (by omega) hj
    refine Ev.step (f := fun _ => some (metB l ps)) (fun k => ?_) (by simpa [goodP] using Ev.now (metB l ps))
    rw [ambush_field_isPairing.l0, if_neg (by omega), hm]
    rfl
  | succ n ih =>
    intro i used prev hn hi hu hp hall
    have hlt : i < ps.length := by omega
    have ew : wrap64 ((i : Int) + 1) = ((i + 1 : Nat) : Int) := by rw [wrap64_id] <;> omega
    have ed : ps.drop i = ps[i] :: ps.drop (i + 1) := List.drop_eq_getElem_cons hlt
    have g1 : (i : Int) < (ps.length : Int) := by omega
    have g2 : (0 : Int) ≤ (i : Int) := by omega
    rw [ed, goodP]
    have er := rdT ps i hlt
    have hin : ∀ j, (h : j < i + 1) → (h2 : j < ps.length) → okQ m ps[i] = true → okQ m ps[j] = true := by
      intro j h h2 hq
      by_cases e : j = i
      · subst e; exact hq
      · exact hall j (by omega) h2
    have ihn := fun used' (hu' : used' < 2 ^ m) (hq : okQ m ps[i] = true) => ih (i + 1) used' (ps[i]).f0 (by omega) (by omega) hu' (.inr ⟨by omega, by rw [Nat.add_sub_cancel, er]⟩) (fun j h h2 => hin j h h2 hq)
    clear ih hin hall
    have hpv : (i : Int) > 0 → 0 ≤ wrap64 ((i : Int) - 1) ∧ wrap64 ((i : Int) - 1) < (ps.length : Int) ∧ (rd_T59 ps (wrap64 ((i : Int) - 1))).f0 = prev := by
      intro h0
      rcases hp with ⟨h, _⟩ | ⟨h, hh⟩
      · omega
      · have e : wrap64 ((i : Int) - 1) = ((i - 1 : Nat) : Int) := by rw [wrap64_id] <;> omega
        rw [e]
        exact ⟨by omega, by omega, hh.symm⟩
    have hpz : ¬ (i : Int) > 0 → prev = -1 := by
      intro h0
      rcases hp with ⟨_, h⟩ | ⟨h, _⟩
      · exact h
      · omega
    clear hp
    generalize ps.drop (i + 1) = rest at *
    generalize hq : ps[i] = q at *
    by_cases c1 : q.f0 < 0
    · refine Ev.step (f := fun _ => some false) (fun k => ?_) ?_
      · rw [ambush_field_isPairing.l0, if_pos g1, if_pos g2, if_pos g1, er, if_pos c1]
      · have : decide (0 ≤ q.f0) = false := decide_eq_false (by omega)
        rw [this]; exact Ev.now _
    · have d1 : decide (0 ≤ q.f0) = true := decide_eq_true (by omega)
      by_cases c2 : q.f0 ≥ q.f1
      · refine Ev.step (f := fun _ => some false) (fun k => ?_) ?_
        · rw [ambush_field_isPairing.l0, if_pos g1, if_pos g2, if_pos g1, er, if_neg c1, if_pos c2]
        · have : decide (q.f0 < q.f1) = false := decide_eq_false (by omega)
          rw [this, d1]; exact Ev.now _
      · have d2 : decide (q.f0 < q.f1) = true := decide_eq_true (by omega)
        by_cases c3 : q.f1 ≥ (m : Int)
        · refine Ev.step (f := fun _ => some false) (fun k => ?_) ?_
          · rw [ambush_field_isPairing.l0, if_pos g1, if_pos g2, if_pos g1, er, if_neg c1, if_neg c2, if_pos c3]
          · have : decide (q.f1 < (m : Int)) = false := decide_eq_false (by omega)
            rw [this, d1, d2]; exact Ev.now _
        · have d3 : decide (q.f1 < (m : Int)) = true := decide_eq_true (by omega)
          have hok : okQ m q = true := okQ_iff.2 ⟨by omega, by omega, by omega, by omega⟩
          have hsn := setN_lt (okQ_iff.1 hok)
          have hset : ambush_set.f q.f0 q.f1 = some (setN q : Int) := by
            unfold ambush_set.f
            rw [if_pos (by omega)]
          have h62 : m ≤ 62 := by omega
          have ea : bits .and .i64 (used : Int) (setN q : Int) = ((used &&& setN q : Nat) : Int) := and64 used (setN q) (lt62 hu h62) (lt62 hsn h62)
          have eo : bits .or .i64 (used : Int) (setN q : Int) = ((used ||| setN q : Nat) : Int) := or64 used (setN q) (lt62 hu h62) (lt62 hsn h62)
          have ihn' := ihn (used ||| setN q) (or_lt hu hsn) hok
          clear ihn
          have hun : ∀ k, ambush_field_isPairing.l0 (k + 1) ps used ps (ps.length : Int) (i : Int) m l = (if ((used &&& setN q : Nat) : Int) = 0 then (if (i : Int) > 0 then (if 0 ≤ (wrap64 ((i : Int) - 1)) then (if (wrap64 ((i : Int) - 1)) < (ps.length : Int) then (if q.f0 ≤ ((rd_T59 ps (wrap64 ((i : Int) - 1))).f0) then (some false) else (ambush_field_isPairing.l0 k ps ((used ||| setN q : Nat) : Int) ps (ps.length : Int) ((i + 1 : Nat) : Int) m l)) else (none)) else (none)) else (ambush_field_isPairing.l0 k ps ((used ||| setN q : Nat) : Int) ps (ps.length : Int) ((i + 1 : Nat) : Int) m l)) else (some false)) := by
            intro k
            rw [ambush_field_isPairing.l0, if_pos g1, if_pos g2, if_pos g1, er, if_neg c1, if_neg c2, if_neg c3, hset]
            simp only [Option.bind_some]
            rw [ea, eo, ew]
          by_cases c4 : used &&& setN q = 0
          · have d4 : decide (used &&& setN q = 0) = true := decide_eq_true c4
            have c4z : ((used &&& setN q : Nat) : Int) = 0 := by rw [c4]; rfl
            by_cases c5 : (i : Int) > 0
            · obtain ⟨p1, p2, p3⟩ := hpv c5
              by_cases c6 : q.f0 ≤ prev
              · refine Ev.step (f := fun _ => some false) (fun k => ?_) ?_
                · rw [hun, if_pos c4z, if_pos c5, if_pos p1, if_pos p2, p3, if_pos c6]
                · have : decide (prev < q.f0) = false := decide_eq_false (by omega)
                  rw [this, d1, d2, d3, d4]; exact Ev.now _
              · have d5 : decide (prev < q.f0) = true := decide_eq_true (by omega)
                rw [d1, d2, d3, d4, d5]
                refine Ev.step (fun k => ?_) ihn'
                rw [hun, if_pos c4z, if_pos c5, if_pos p1, if_pos p2, p3, if_neg c6]
            · have d5 : decide (prev < q.f0) = true := decide_eq_true (by have := hpz c5; omega)
              rw [d1, d2, d3, d4, d5]
              refine Ev.step (fun k => ?_) ihn'
              rw [hun, if_pos c4z, if_neg c5]
          · have d4 : decide (used &&& setN q = 0) = false := decide_eq_false c4
            have c4z : ¬ ((used &&& setN q : Nat) : Int) = 0 := fun h => c4 (Int.ofNat.inj h)
            refine Ev.step (f := fun _ => some false) (fun k => ?_) ?_
            · rw [hun, if_neg c4z]
            · rw [d1, d2, d3, d4]; exact Ev.now _
theorem isP_ev {m : Nat} {l : List Int} (hF : okF m l = 0) (ps : List S59) (h40 : ps.length ≤ 1000) : Ev (fun k => ambush_field_isPairing.f k m l ps) (isPB m l ps) :=
  isP_l0 hF ps h40 _ 0 0 (-1) rfl (Nat.zero_le _) (Nat.two_pow_pos m) (.inl ⟨rfl, rfl⟩) (fun j h => by omega)

def ambush_IsPairing.f (m : Int) (l : List Int) (ps : List S59) : Option (Bool × Int) := if ps.length ≤ 1000 then some (if okF m l = 0 then (isPB m.toNat l ps, 0) else (false, okF m l)) else none

set_option maxRecDepth 100000 in
set_option maxHeartbeats 800000 in
theorem IsPairing_err (m : Int) (A : Option Addr) (c : Nat) (l : List Int) (A2 : Option Addr) (n2 c2 : Nat) (w : World) (hr : Kd.C (Kd.int .i64) w A l.length l) (he : okF m l ≠ 0) :
    Calls Try.prog 29 #[.int .i64 m, .slice A l.length c, .slice A2 n2 c2] w fun e w' => e = .returned (.tuple #[.bool false, .int .i64 (okF m l)]) ∧ Below w.heap.size w w' := by
  have HR := Aside0.mk hr
  have HE := Aside0.mk he
  obtain ⟨E, hE⟩ : ∃ E, okF m l = E := ⟨_, rfl⟩
  rw [hE] at he ⊢
  have HV := Aside0.mk hE
  have hg : (E != 0) = true := by rw [bne_iff_ne]; exact he
  clear hr hE he
  go_enter Try.func29, Try.ntmps29
  go_wp2_with (go_at_call 41; refine (read_bad m A c l _ _ HR.out rfl HE.out).mono ?_; rw [HV.out]; rintro e w' ⟨rfl, hb'⟩; have HB := Aside0.mk hb'; clear hb')
  go_ret2
  exact ⟨rfl, below_alloc HB.out _⟩

set_option maxRecDepth 100000 in
set_option maxHeartbeats 800000 in
theorem IsPairing_good (m : Nat) (A : Option Addr) (c : Nat) (l : List Int) (A2 : Option Addr) (c2 : Nat) (ps : List S59) (w : World) (hr : Kd.C (Kd.int .i64) w A l.length l) (hc : l.length ≤ c) (hr2 : Kd.C k59 w A2 ps.length ps) (hc2 : ps.length ≤ c2) (he : okF m l = 0) (h40 : ps.length ≤ 1000) :
    Calls Try.prog 29 #[.int .i64 m, .slice A l.length c, .slice A2 ps.length c2] w fun e w' => e = .returned (.tuple #[.bool (isPB m l ps), .int .i64 0]) ∧ Below w.heap.size w w' := by
  have HR := Aside0.mk hr
  have HC := Aside0.mk hc
  have HR2 := Aside0.mk hr2
  have HC2 := Aside0.mk hc2
  have HE := Aside0.mk he
  obtain ⟨k, hk⟩ := (isP_ev he ps h40).rounds
  have HK := Aside0.mk hk
  generalize isPB m l ps = b at *
  clear hr hc hr2 hc2 he hk
  go_enter Try.func29, Try.ntmps29
  go_wp2_with (first
    | (go_at_call 41; refine (read_ok m A c l _ HR.out HE.out).mono ?_; rintro e w' ⟨rfl, hb'⟩; have HB := Aside0.mk (below_alloc hb' (.cells #[.int .i64 m, .slice A l.length c] 61)); clear hb')
    | (go_at_call 52; refine (ambush_field_isPairing.calls k m A c l A2 c2 ps _ _ (Kd.C_below HR.out HB.out) HC.out (Kd.C_below HR2.out HB.out) HC2.out HK.out).mono ?_; rintro e w2 ⟨rfl, hb2⟩; have HB2 := Aside0.mk (below_then HB.out HB.out.size hb2); clear hb2))
  go_ret2
  exact ⟨rfl, HB2.out⟩
theorem ambush_IsPairing.calls (a0 : Int) (A1 : Option Addr) (c1 : Nat) (l1 : List Int) (A2 : Option Addr) (c2 : Nat) (l2 : List S59) (r1 : Bool) (r2 : Int) (w : World) (hr1 : Kd.C (Kd.int .i64) w A1 l1.length l1) (hc1 : l1.length ≤ c1) (hr2 : Kd.C k59 w A2 l2.length l2) (hc2 : l2.length ≤ c2) (h : ambush_IsPairing.f a0 l1 l2 = some (r1, r2)) :
    Calls Try.prog 29 #[.int .i64 a0, .slice A1 l1.length c1, .slice A2 l2.length c2] w fun e w' => e = .returned (.tuple #[.bool r1, .int .i64 r2]) ∧ Below w.heap.size w w' := by
  unfold ambush_IsPairing.f at h
  by_cases h40 : l2.length ≤ 1000
  · rw [if_pos h40] at h
    by_cases h0 : okF a0 l1 = 0
    · rw [if_pos h0] at h
      have h1 := (okF_m h0).1
      obtain ⟨m, rfl⟩ : ∃ m : Nat, a0 = m := ⟨a0.toNat, by omega⟩
      cases h
      exact IsPairing_good m A1 c1 l1 A2 c2 l2 w hr1 hc1 hr2 hc2 h0 h40
    · rw [if_neg h0] at h
      cases h
      exact IsPairing_err a0 A1 c1 l1 A2 _ c2 w hr1 h0
  · rw [if_neg h40] at h; cases h

/-! ### Answer -/
def ansL (spot : Int) : List S59 → Int
  | [] => -1
  | q :: ps => if spot = q.f0 then q.f1 else if spot = q.f1 then q.f0 else ansL spot ps
def ambush_Answer.f (m : Int) (l : List Int) (ps : List S59) (spot : Int) : Option (Int × Int) :=
  if ps.length ≤ 1000 then some (if okF m l = 0 then (if isPB m.toNat l ps = true ∧ 0 ≤ spot ∧ spot < m then (ansL spot ps, 0) else (0, 2)) else (0, okF m l)) else none

set_option maxRecDepth 100000 in
set_option maxHeartbeats 800000 in
theorem Answer_err (m : Int) (A : Option Addr) (c : Nat) (l : List Int) (A2 : Option Addr) (n2 c2 : Nat) (spot : Int) (w : World) (hr : Kd.C (Kd.int .i64) w A l.length l) (he : okF m l ≠ 0) :
    Calls Try.prog 31 #[.int .i64 m, .slice A l.length c, .slice A2 n2 c2, .int .i64 spot] w fun e w' => e = .returned (.tuple #[.int .i64 0, .int .i64 (okF m l)]) ∧ Below w.heap.size w w' := by
  have HR := Aside0.mk hr
  have HE := Aside0.mk he
  obtain ⟨E, hE⟩ : ∃ E, okF m l = E := ⟨_, rfl⟩
  rw [hE] at he ⊢
  have HV := Aside0.mk hE
  have hg : (E != 0) = true := by rw [bne_iff_ne]; exact he
  clear hr hE he
  go_enter Try.func31, Try.ntmps31
  go_wp2_with (go_at_call 41; refine (read_bad m A c l _ _ HR.out rfl HE.out).mono ?_; rw [HV.out]; rintro e w' ⟨rfl, hb'⟩; have HB := Aside0.mk hb'; clear hb')
  go_ret2
  exact ⟨rfl, below_alloc HB.out _⟩

set_option maxRecDepth 100000 in
set_option maxHeartbeats 800000 in
theorem Answer_arg (m : Nat) (A : Option Addr) (c : Nat) (l : List Int) (A2 : Option Addr) (c2 : Nat) (ps : List S59) (spot : Int) (w : World) (hr : Kd.C (Kd.int .i64) w A l.length l) (hc : l.length ≤ c) (hr2 : Kd.C k59 w A2 ps.length ps) (hc2 : ps.length ≤ c2) (he : okF m l = 0) (h40 : ps.length ≤ 1000) (hno : ¬ (isPB m l ps = true ∧ 0 ≤ spot ∧ spot < m)) :
    Calls Try.prog 31 #[.int .i64 m, .slice A l.length c, .slice A2 ps.length c2, .int .i64 spot] w fun e w' => e = .returned (.tuple #[.int .i64 0, .int .i64 2]) ∧ Below w.heap.size w w' := by
  have HR := Aside0.mk hr
  have HC := Aside0.mk hc
  have HR2 := Aside0.mk hr2
  have HC2 := Aside0.mk hc2
  have HE := Aside0.mk he
  obtain ⟨k, hk⟩ := (isP_ev he ps h40).rounds
  have HK := Aside0.mk hk
  generalize isPB m l ps = b at *
  have HN := Aside0.mk hno
  clear hr hc hr2 hc2 he hk hno
  cases b with
  | false =>
    go_enter Try.func31, Try.ntmps31
    go_wp2_with (first
      | (go_at_call 41; refine (read_ok m A c l _ HR.out HE.out).mono ?_; rintro e w' ⟨rfl, hb'⟩; have HB := Aside0.mk (below_alloc hb' (.cells #[.int .i64 m, .slice A l.length c] 61)); clear hb')
      | (go_at_call 52; refine (ambush_field_isPairing.calls k m A c l A2 c2 ps _ _ (Kd.C_below HR.out HB.out) HC.out (Kd.C_below HR2.out HB.out) HC2.out HK.out).mono ?_; rintro e w2 ⟨rfl, hb2⟩; have HB2 := Aside0.mk (below_then HB.out HB.out.size hb2); clear hb2))
    go_ret2
    exact ⟨rfl, HB2.out⟩
  | true =>
    by_cases h0 : spot < 0
    · go_enter Try.func31, Try.ntmps31
      go_wp2_with (first
        | (go_at_call 41; refine (read_ok m A c l _ HR.out HE.out).mono ?_; rintro e w' ⟨rfl, hb'⟩; have HB := Aside0.mk (below_alloc hb' (.cells #[.int .i64 m, .slice A l.length c] 61)); clear hb')
        | (go_at_call 52; refine (ambush_field_isPairing.calls k m A c l A2 c2 ps _ _ (Kd.C_below HR.out HB.out) HC.out (Kd.C_below HR2.out HB.out) HC2.out HK.out).mono ?_; rintro e w2 ⟨rfl, hb2⟩; have HB2 := Aside0.mk (below_then HB.out HB.out.size hb2); clear hb2))
      go_ret2
      exact ⟨rfl, HB2.out⟩
    · have h1 : (m : Int) ≤ spot := by
        have := HN.out
        rcases Int.lt_or_le spot m with q | q
        · exact (this ⟨rfl, by omega, q⟩).elim
        · exact q
      go_enter Try.func31, Try.ntmps31
      go_wp2_with (first
        | (go_at_call 41; refine (read_ok m A c l _ HR.out HE.out).mono ?_; rintro e w' ⟨rfl, hb'⟩; have HB := Aside0.mk (below_alloc hb' (.cells #[.int .i64 m, .slice A l.length c] 61)); clear hb')
        | (go_at_call 52; refine (ambush_field_isPairing.calls k m A c l A2 c2 ps _ _ (Kd.C_below HR.out HB.out) HC.out (Kd.C_below HR2.out HB.out) HC2.out HK.out).mono ?_; rintro e w2 ⟨rfl, hb2⟩; have HB2 := Aside0.mk (below_then HB.out HB.out.size hb2); clear hb2))
      go_ret2
      exact ⟨rfl, HB2.out⟩

set_option maxRecDepth 100000 in
set_option maxHeartbeats 1600000 in
theorem Answer_good (m : Nat) (A : Option Addr) (c : Nat) (l : List Int) (A2 : Option Addr) (c2 : Nat) (ps : List S59) (spot : Int) (w : World) (hr : Kd.C (Kd.int .i64) w A l.length l) (hc : l.length ≤ c) (hr2 : Kd.C k59 w A2 ps.length ps) (hc2 : ps.length ≤ c2) (he : okF m l = 0) (h40 : ps.length ≤ 1000) (hp : isPB m l ps = true) (h0 : 0 ≤ spot) (h1 : spot < m) :
    Calls Try.prog 31 #[.int .i64 m, .slice A l.length c, .slice A2 ps.length c2, .int .i64 spot] w fun e w' => e = .returned (.tuple #[.int .i64 (ansL spot ps), .int .i64 0]) ∧ Below w.heap.size w w' := by
  have hu59 := Try.underlying59
  have HR := Aside0.mk hr
  have HC := Aside0.mk hc
  have HR2 := Aside0.mk hr2
  have HC2 := Aside0.mk hc2
  have HE := Aside0.mk he
  obtain ⟨k, hk⟩ := (isP_ev he ps h40).rounds
  rw [hp] at hk
  have HK := Aside0.mk hk
  have hd0 : decide (spot < 0) = false := decide_eq_false (by omega)
  have hd1 : decide ((m : Int) ≤ spot) = false := decide_eq_false (by omega)
  obtain ⟨Z, hz⟩ : ∃ Z, ansL spot ps = Z := ⟨_, rfl⟩
  have HZ := Aside0.mk hz
  rw [hz]
  have H40 := Aside0.mk h40
  clear hr hc hr2 hc2 he hk hz hp h0 h1 h40
  go_enter Try.func31, Try.ntmps31
  go_wp2_with (first
    | (go_at_call 41; refine (read_ok m A c l _ HR.out HE.out).mono ?_; rintro e w' ⟨rfl, hb'⟩; have HB := Aside0.mk (below_alloc hb' (.cells #[.int .i64 m, .slice A l.length c] 61)); clear hb')
    | (go_at_call 52; refine (ambush_field_isPairing.calls k m A c l A2 c2 ps _ _ (Kd.C_below HR.out HB.out) HC.out (Kd.C_below HR2.out HB.out) HC2.out HK.out).mono ?_; rintro e w2 ⟨rfl, hb2⟩; have HB2 := Aside0.mk (below_then HB.out HB.out.size hb2); clear hb2))
  go_loopg [40] ps.length (fun gg v40 wr => ∃ i : Nat, i ≤ ps.length ∧ ps.length - i ≤ gg ∧ v40 = .int .i64 i ∧ Aside0 (Below w.heap.size w wr) ∧ Aside0 (ansL spot (ps.drop i) = Z))
  case atStart => exact ⟨0, Nat.zero_le _, by omega, rfl, HB2, HZ⟩
  case round =>
    obtain ⟨i, hi, hgg, rfl, BW, HA⟩ := hrel
    clear HB HB2
    by_cases hlt : i < ps.length
    · have hltz : (i : Int) < (ps.length : Int) := by omega
      obtain ⟨ad, rfl, hcell0, hcell1⟩ := at_T59 (Kd.C_below HR2.out BW.out) (i : Int) (by omega) (by omega)
      simp only [Int.toNat_natCast] at hcell0 hcell1
      have er := rdT ps i hlt
      have ed : ps.drop i = ps[i] :: ps.drop (i + 1) := List.drop_eq_getElem_cons hlt
      have hA := HA.out
      rw [ed, ansL, ← er] at hA
      have HA2 := Aside0.mk hA
      clear hA ed er
      generalize rd_T59 ps (i : Int) = q at *
      by_cases e0 : spot = q.f0
      · have b0 : (spot == q.f0) = true := beq_iff_eq.mpr e0
        have hz : q.f1 = Z := by rw [← HA2.out, if_pos e0]
        clear e0
        go_wp2
        repeat (go_quiet (fail); try go_wp2)
        go_ret2
        exact ⟨rfl, below_alloc BW.out _⟩
      · have b0 : (spot == q.f0) = false := beq_eq_false_iff_ne.mpr e0
        by_cases e1 : spot = q.f1
        · have b1 : (spot == q.f1) = true := beq_iff_eq.mpr e1
          have hz : q.f0 = Z := by rw [← HA2.out, if_neg e0, if_pos e1]
          clear e0 e1
          go_wp2
          repeat (go_quiet (fail); try go_wp2)
          go_ret2
          exact ⟨rfl, below_alloc BW.out _⟩
        · have b1 : (spot == q.f1) = false := beq_eq_false_iff_ne.mpr e1
          have hz : ansL spot (ps.drop (i + 1)) = Z := by rw [← HA2.out, if_neg e0, if_neg e1]
          have HZ2 := Aside0.mk hz
          clear e0 e1 hz
          have ew : wrap64 ((i : Int) + 1) = ((i + 1 : Nat) : Int) := by have := H40.out; rw [wrap64_id] <;> omega
          have EW := Aside0.mk ew
          clear ew
          go_wp2
          repeat (go_quiet (fail); try go_wp2)
          go_roundg (ps.length - (i + 1))
          case measure => omega
          case rel => exact ⟨i + 1, by omega, by omega, by rw [EW.out], ⟨below_alloc BW.out _⟩, HZ2⟩
    · have hltz : ¬ (i : Int) < (ps.length : Int) := by omega
      have hd : ps.drop i = [] := List.drop_eq_nil_of_le (by omega)
      have hz : (-1 : Int) = Z := by rw [← HA.out, hd]; rfl
      have HZ2 := Aside0.mk hz
      clear hd hz
      go_wp2
      go_ret2
      exact ⟨by have h := HZ2.out; subst h; rfl, BW.out⟩
theorem ambush_Answer.calls (a0 : Int) (A1 : Option Addr) (c1 : Nat) (l1 : List Int) (A2 : Option Addr) (c2 : Nat) (l2 : List S59) (a3 : Int) (r1 : Int) (r2 : Int) (w : World) (hr1 : Kd.C (Kd.int .i64) w A1 l1.length l1) (hc1 : l1.length ≤ c1) (hr2 : Kd.C k59 w A2 l2.length l2) (hc2 : l2.length ≤ c2) (h : ambush_Answer.f a0 l1 l2 a3 = some (r1, r2)) :
    Calls Try.prog 31 #[.int .i64 a0, .slice A1 l1.length c1, .slice A2 l2.length c2, .int .i64 a3] w fun e w' => e = .returned (.tuple #[.int .i64 r1, .int .i64 r2]) ∧ Below w.heap.size w w' := by
  unfold ambush_Answer.f at h
  by_cases h40 : l2.length ≤ 1000
  · rw [if_pos h40] at h
    by_cases h0 : okF a0 l1 = 0
    · rw [if_pos h0] at h
      have h1 := (okF_m h0).1
      obtain ⟨m, rfl⟩ : ∃ m : Nat, a0 = m := ⟨a0.toNat, by omega⟩
      by_cases hy : isPB m l1 l2 = true ∧ 0 ≤ a3 ∧ a3 < m
      · have hy2 : isPB (m : Int).toNat l1 l2 = true ∧ 0 ≤ a3 ∧ a3 < m := hy
        rw [if_pos hy2] at h
        cases h
        exact Answer_good m A1 c1 l1 A2 c2 l2 a3 w hr1 hc1 hr2 hc2 h0 h40 hy.1 hy.2.1 hy.2.2
      · have hy2 : ¬ (isPB (m : Int).toNat l1 l2 = true ∧ 0 ≤ a3 ∧ a3 < m) := hy
        rw [if_neg hy2] at h
        cases h
        exact Answer_arg m A1 c1 l1 A2 c2 l2 a3 w hr1 hc1 hr2 hc2 h0 h40 hy
    · rw [if_neg h0] at h
      cases h
      exact Answer_err a0 A1 c1 l1 A2 _ c2 a3 w hr1 h0
  · rw [if_neg h40] at h; cases h
end Go.Proofs.Ytbjpjjokamaliaa.B

/- The specification's isPairing, as it is called (printed). -/
namespace Go.Proofs.Ytbjpjjokamaliaa.B
open Go.Proofs.Ytbjpjjokamaliaa.A
open Go.RowKit Go.Proofs.YtbjpjjokamaliaaW.PrintWords Go.Proofs.YtbjpjjokamaliaaW.PrintLast Go.Proofs.YtbjpjjokamaliaaW.PrintMore
section
attribute [local go_sem] max2_int min2_int max_two min_two max_three min_three max_four min_four   -- for this text's walks alone
set_option linter.unusedVariables false
set_option linter.unusedSimpArgs false

/-! ### drovewayref04_isPairing: function 53 -/
mutual
def drovewayref04_isPairing.l0 : Nat → Int → List Int → List (S59) → Int → Int → Option (Bool)
  | 0, _, _, _, _, _ => none
  | k + 1, x0, x1, x2, x7, x8 => if x8 < (x2.length : Int) then (if 0 ≤ x8 then (if ((rd_T59 x2 x8).f0) < 0 then (some false) else (if ((rd_T59 x2 x8).f1) ≥ x0 then (some false) else (if ((rd_T59 x2 x8).f0) ≥ ((rd_T59 x2 x8).f1) then (some false) else (if 0 ≤ ((rd_T59 x2 x8).f0) then (if (Int.tmod (shr .i64 x7 ((rd_T59 x2 x8).f0)) 2) = 1 then (some false) else (if 0 ≤ ((rd_T59 x2 x8).f1) then (if (Int.tmod (shr .i64 x7 ((rd_T59 x2 x8).f1)) 2) = 1 then (some false) else (if x8 > 0 then (if 0 ≤ (wrap64 (x8 - 1)) then (if (wrap64 (x8 - 1)) < (x2.length : Int) then (if ((rd_T59 x2 (wrap64 (x8 - 1))).f0) ≥ ((rd_T59 x2 x8).f0) then (some false) else (drovewayref04_isPairing.l0 k x0 x1 x2 (wrap64 (x7 + (wrap64 ((shl .i64 1 ((rd_T59 x2 x8).f0)) + (shl .i64 1 ((rd_T59 x2 x8).f1)))))) (wrap64 (x8 + 1)))) else (none)) else (none)) else (drovewayref04_isPairing.l0 k x0 x1 x2 (wrap64 (x7 + (wrap64 ((shl .i64 1 ((rd_T59 x2 x8).f0)) + (shl .i64 1 ((rd_T59 x2 x8).f1)))))) (wrap64 (x8 + 1))))) else (none))) else (none))))) else (none)) else (drovewayref04_isPairing.l1 k x1 x2 0)
def drovewayref04_isPairing.l1 : Nat → List Int → List (S59) → Int → Option (Bool)
  | 0, _, _, _ => none
  | k + 1, x1, x2, x10 => if x10 < (x1.length : Int) then (drovewayref04_isPairing.l2 k x1 x2 x10 false 0) else (some true)
def drovewayref04_isPairing.l2 : Nat → List Int → List (S59) → Int → Bool → Int → Option (Bool)
  | 0, _, _, _, _, _ => none
  | k + 1, x1, x2, x10, x11, x12 => if x12 < (x2.length : Int) then (if x11 = true then (drovewayref04_isPairing.l2 k x1 x2 x10 true (wrap64 (x12 + 1))) else (if 0 ≤ x10 then (if x10 < (x1.length : Int) then (if 0 ≤ x12 then (if 0 ≤ ((rd_T59 x2 x12).f0) then (if (Int.tmod (shr .i64 (rd x1 x10) ((rd_T59 x2 x12).f0)) 2) = 1 then (if 0 ≤ ((rd_T59 x2 x12).f1) then (drovewayref04_isPairing.l2 k x1 x2 x10 ((Int.tmod (shr .i64 (rd x1 x10) ((rd_T59 x2 x12).f1)) 2) == 1) (wrap64 (x12 + 1))) else (none)) else (drovewayref04_isPairing.l2 k x1 x2 x10 false (wrap64 (x12 + 1)))) else (none)) else (none)) else (none)) else (none))) else (if x11 = true then (drovewayref04_isPairing.l1 k x1 x2 (wrap64 (x10 + 1))) else (some false))
end
def drovewayref04_isPairing.f (k : Nat) (a0 : Int) (l1 : List Int) (l2 : List (S59)) : Option (Bool) := drovewayref04_isPairing.l0 k a0 l1 l2 0 0
theorem drovewayref04_isPairing.mono_l : ∀ k, (∀ y0 y1 y2 y3 y4, LeO (drovewayref04_isPairing.l0 k y0 y1 y2 y3 y4) (drovewayref04_isPairing.l0 (k + 1) y0 y1 y2 y3 y4)) ∧ (∀ y0 y1 y2, LeO (drovewayref04_isPairing.l1 k y0 y1 y2) (drovewayref04_isPairing.l1 (k + 1) y0 y1 y2)) ∧ (∀ y0 y1 y2 y3 y4, LeO (drovewayref04_isPairing.l2 k y0 y1 y2 y3 y4) (drovewayref04_isPairing.l2 (k + 1) y0 y1 y2 y3 y4))
  | 0 => ⟨fun _ _ _ _ _ r h => by simp [drovewayref04_isPairing.l0] at h, fun _ _ _ r h => by simp [drovewayref04_isPairing.l1] at h, fun _ _ _ _ _ r h => by simp [drovewayref04_isPairing.l2] at h⟩
  | k + 1 => by
    obtain ⟨ih0, ih1, ih2⟩ := drovewayref04_isPairing.mono_l k
    refine ⟨?_, ?_, ?_⟩
    · intro y0 y1 y2 y3 y4
      unfold drovewayref04_isPairing.l0
      repeat' first
      | (with_reducible exact ih0 _ _ _ _ _)
      | (with_reducible exact ih1 _ _ _)
      | (with_reducible exact ih2 _ _ _ _ _)
      | (with_reducible exact LeO.refl _)
      | (with_reducible exact LeO.none _)
      | (with_reducible refine LeO.ite ?_ ?_)
      | (with_reducible refine LeO.bind ?_ (fun _ => ?_))
      | exact ih0 _ _ _ _ _
      | exact ih1 _ _ _
      | exact ih2 _ _ _ _ _
      | exact LeO.none _
      | refine LeO.ite ?_ ?_
      | refine LeO.bind ?_ (fun _ => ?_)
    · intro y0 y1 y2
      unfold drovewayref04_isPairing.l1
      repeat' first
      | (with_reducible exact ih0 _ _ _ _ _)
      | (with_reducible exact ih1 _ _ _)
      | (with_reducible exact ih2 _ _ _ _ _)
      | (with_reducible exact LeO.refl _)
      | (with_reducible exact LeO.none _)
      | (with_reducible refine LeO.ite ?_ ?_)
      | (with_reducible refine LeO.bind ?_ (fun _ => ?_))
      | exact ih0 _ _ _ _ _
      | exact ih1 _ _ _
      | exact ih2 _ _ _ _ _
      | exact LeO.none _
      | refine LeO.ite ?_ ?_
      | refine LeO.bind ?_ (fun _ => ?_)
    · intro y0 y1 y2 y3 y4
      unfold drovewayref04_isPairing.l2
      repeat' first
      | (with_reducible exact ih0 _ _ _ _ _)
      | (with_reducible exact ih1 _ _ _)
      | (with_reducible exact ih2 _ _ _ _ _)
      | (with_reducible exact LeO.refl _)
      | (with_reducible exact LeO.none _)
      | (with_reducible refine LeO.ite ?_ ?_)
      | (with_reducible refine LeO.bind ?_ (fun _ => ?_))
      | exact ih0 _ _ _ _ _
      | exact ih1 _ _ _
      | exact ih2 _ _ _ _ _
      | exact LeO.none _
      | refine LeO.ite ?_ ?_
      | refine LeO.bind ?_ (fun _ => ?_)
theorem drovewayref04_isPairing.mono : ∀ a0 a1 a2 k, LeO (drovewayref04_isPairing.f k a0 a1 a2) (drovewayref04_isPairing.f (k + 1) a0 a1 a2) := by
  intro a0 a1 a2 k
  obtain ⟨ih0, ih1, ih2⟩ := drovewayref04_isPairing.mono_l k
  unfold drovewayref04_isPairing.f
  repeat' first
      | (with_reducible exact ih0 _ _ _ _ _)
      | (with_reducible exact ih1 _ _ _)
      | (with_reducible exact ih2 _ _ _ _ _)
      | (with_reducible exact LeO.refl _)
      | (with_reducible exact LeO.none _)
      | (with_reducible refine LeO.ite ?_ ?_)
      | (with_reducible refine LeO.bind ?_ (fun _ => ?_))
      | exact ih0 _ _ _ _ _
      | exact ih1 _ _ _
      | exact ih2 _ _ _ _ _
      | exact LeO.none _
      | refine LeO.ite ?_ ?_
      | refine LeO.bind ?_ (fun _ => ?_)
set_option maxHeartbeats 8000000 in
set_option maxRecDepth 100000 in
theorem drovewayref04_isPairing.calls (k : Nat) (a0 : Int) (A1 : Option Addr) (c1 : Nat) (l1 : List Int) (A2 : Option Addr) (c2 : Nat) (l2 : List (S59)) (r : Bool) (w : World) (hr1 : Kd.C (Kd.int .i64) w A1 l1.length l1) (hc1 : l1.length ≤ c1) (hr2 : Kd.C k59 w A2 l2.length l2) (hc2 : l2.length ≤ c2) (h : drovewayref04_isPairing.f k a0 l1 l2 = some r) :
    Calls Try.prog 53 #[.int .i64 a0, .slice A1 l1.length c1, .slice A2 l2.length c2] w fun e w' => e = .returned (.bool r) ∧ Below w.heap.size w w' := by
  have hu59 := Try.underlying59
  have HR1 := Aside0.mk hr1
  have HC1 := Aside0.mk hc1
  clear hr1 hc1
  have HR2 := Aside0.mk hr2
  have HC2 := Aside0.mk hc2
  clear hr2 hc2
  have HB := Aside0.mk (Below.refl w.heap.size w)
  have H : (drovewayref04_isPairing.l0 k a0 l1 l2 0 0) = some r := h
  clear h
  have H' := Aside0.mk H
  clear H
  go_enter Try.func53, Try.ntmps53
  go_wp2
  repeat (go_quiet (fail); try go_wp2)
  go_loopg [7, 8] k (fun kq v7 v8 w' => ∃ (x7_1 : Int) (x8_1 : Int), v7 = .int .i64 x7_1 ∧ v8 = .int .i64 x8_1 ∧ Aside0 (drovewayref04_isPairing.l0 kq a0 l1 l2 x7_1 x8_1 = some r) ∧ Aside0 (kq ≤ k) ∧ Aside0 (Below w.heap.size w w'))
  case atStart => exact ⟨(0), (0), (by first | rfl | (simp; done) | (simp [*]; done)), (by first | rfl | (simp; done) | (simp [*]; done)), H', ⟨Nat.le_refl _⟩, ⟨by repeat (first | (with_reducible first | exact HB.out | apply below_alloc | apply pw_below_drewN | apply below_drew1) | exact HB.out)⟩⟩
  case round =>
    clear H'
    try clear c1
    try clear c2
    try clear p2
    obtain ⟨x7_1, x8_1, rfl, rfl, HA, HK1, HB⟩ := hrel
    cases gk with
    | zero => exact absurd HA.out (by simp [drovewayref04_isPairing.l0])
    | succ k1 =>
      have H := HA.out
      clear HA
      simp only [drovewayref04_isPairing.l0] at H
      by_cases c4 : x8_1 < (l2.length : Int)
      · rw [if_pos c4] at H
        have c4b0 : decide (x8_1 < (l2.length : Int)) = true := decide_eq_true c4
        clear c4
        by_cases c5 : 0 ≤ x8_1
        · rw [if_pos c5] at H
          have c5b0 : decide (0 ≤ x8_1) = true := decide_eq_true c5
          clear c5
          by_cases c6 : ((rd_T59 l2 x8_1).f0) < 0
          · rw [if_pos c6] at H
            have c6b0 : decide (((rd_T59 l2 x8_1).f0) < 0) = true := decide_eq_true c6
            clear c6
            obtain rfl := Option.some.inj H
            have p151 : 0 ≤ (x8_1 : Int) := of_decide_eq_true (by first | (with_reducible assumption) | assumption)
            have q151 : x8_1 < (l2.length : Int) := of_decide_eq_true (by first | (with_reducible assumption) | assumption)
            obtain ⟨ad151, e151, hx151_0, hx151_1⟩ := at_T59 HR2.out x8_1 p151 q151
            cases e151
            replace hx151_0 := (HB.out.cell (World.block_lt_of_cell? w _ hx151_0)).trans hx151_0
            replace hx151_1 := (HB.out.cell (World.block_lt_of_cell? w _ hx151_1)).trans hx151_1
            replace p151 := eq_true p151
            replace q151 := eq_true q151
            go_wp2_with (first | ((with_reducible refine gate_dst (N := 9) rfl ?_); refine box_event ?hg (N := 9) ?hd (cs := #[.int .i64 0, .int .i64 0]) (t := 59) ?hr ?_; (case hd => rfl); (case hg => rfl); (case hr => first | (go_simp; done) | (go_simp; rfl)); intro gb152 hg w7 hbox hb; have n0_ := Aside0.mk (below_step (by repeat (first | (with_reducible first | exact HB.out | apply below_alloc | apply pw_below_drewN | apply below_drew1) | exact HB.out)) hb); have n1_ := Aside0.mk (hbox); have n2_ := Aside0.mk ((by rw [hg]; exact (below_size (by repeat (first | (with_reducible first | exact HB.out | apply below_alloc | apply pw_below_drewN | apply below_drew1) | exact HB.out))) : w.heap.size ≤ gb152)); have n3_ := Aside0.mk ((by rw [hg]; exact (below_size (by repeat (first | (with_reducible first | exact HB.out | apply below_alloc | apply pw_below_drewN | apply below_drew1) | exact HB.out))) : w.heap.size ≤ gb152)); clear HB; have HB := n0_; have BK152 := n1_; have GW152 := n2_; have GE152 := n3_; clear n0_ n1_ n2_ n3_; clear hb hbox hg; have hcz8_0 : w7.cell? ⟨gb152, 0, none⟩ = some (.int .i64 0) := (blk_cell BK152.out 0).trans rfl; have hcz8_1 : w7.cell? ⟨gb152, 1, none⟩ = some (.int .i64 0) := (blk_cell BK152.out 1).trans rfl; have hfz8_0 := blk_frozen BK152.out 0; have hfz8_1 := blk_frozen BK152.out 1))
            repeat (go_quiet (first | ((with_reducible refine gate_dst (N := 9) rfl ?_); refine box_event ?hg (N := 9) ?hd (cs := #[.int .i64 0, .int .i64 0]) (t := 59) ?hr ?_; (case hd => rfl); (case hg => rfl); (case hr => first | (go_simp; done) | (go_simp; rfl)); intro gb152 hg w7 hbox hb; have n0_ := Aside0.mk (below_step (by repeat (first | (with_reducible first | exact HB.out | apply below_alloc | apply pw_below_drewN | apply below_drew1) | exact HB.out)) hb); have n1_ := Aside0.mk (hbox); have n2_ := Aside0.mk ((by rw [hg]; exact (below_size (by repeat (first | (with_reducible first | exact HB.out | apply below_alloc | apply pw_below_drewN | apply below_drew1) | exact HB.out))) : w.heap.size ≤ gb152)); have n3_ := Aside0.mk ((by rw [hg]; exact (below_size (by repeat (first | (with_reducible first | exact HB.out | apply below_alloc | apply pw_below_drewN | apply below_drew1) | exact HB.out))) : w.heap.size ≤ gb152)); clear HB; have HB := n0_; have BK152 := n1_; have GW152 := n2_; have GE152 := n3_; clear n0_ n1_ n2_ n3_; clear hb hbox hg; have hcz8_0 : w7.cell? ⟨gb152, 0, none⟩ = some (.int .i64 0) := (blk_cell BK152.out 0).trans rfl; have hcz8_1 : w7.cell? ⟨gb152, 1, none⟩ = some (.int .i64 0) := (blk_cell BK152.out 1).trans rfl; have hfz8_0 := blk_frozen BK152.out 0; have hfz8_1 := blk_frozen BK152.out 1)); try go_wp2_with (first | ((with_reducible refine gate_dst (N := 9) rfl ?_); refine box_event ?hg (N := 9) ?hd (cs := #[.int .i64 0, .int .i64 0]) (t := 59) ?hr ?_; (case hd => rfl); (case hg => rfl); (case hr => first | (go_simp; done) | (go_simp; rfl)); intro gb152 hg w7 hbox hb; have n0_ := Aside0.mk (below_step (by repeat (first | (with_reducible first | exact HB.out | apply below_alloc | apply pw_below_drewN | apply below_drew1) | exact HB.out)) hb); have n1_ := Aside0.mk (hbox); have n2_ := Aside0.mk ((by rw [hg]; exact (below_size (by repeat (first | (with_reducible first | exact HB.out | apply below_alloc | apply pw_below_drewN | apply below_drew1) | exact HB.out))) : w.heap.size ≤ gb152)); have n3_ := Aside0.mk ((by rw [hg]; exact (below_size (by repeat (first | (with_reducible first | exact HB.out | apply below_alloc | apply pw_below_drewN | apply below_drew1) | exact HB.out))) : w.heap.size ≤ gb152)); clear HB; have HB := n0_; have BK152 := n1_; have GW152 := n2_; have GE152 := n3_; clear n0_ n1_ n2_ n3_; clear hb hbox hg; have hcz8_0 : w7.cell? ⟨gb152, 0, none⟩ = some (.int .i64 0) := (blk_cell BK152.out 0).trans rfl; have hcz8_1 : w7.cell? ⟨gb152, 1, none⟩ = some (.int .i64 0) := (blk_cell BK152.out 1).trans rfl; have hfz8_0 := blk_frozen BK152.out 0; have hfz8_1 := blk_frozen BK152.out 1)))
            go_ret
            exact ⟨by first | rfl | (simp [errW_none, errW_some] <;> rfl) | (simp [*, errW_none, errW_some] <;> rfl), by repeat (first | (with_reducible first | exact HB.out | apply below_alloc | apply pw_below_drewN | apply below_drew1 | refine below_set ?_ GE152.out) | exact HB.out)⟩
          · rw [if_neg c6] at H
            have c6b0 : decide (((rd_T59 l2 x8_1).f0) < 0) = false := decide_eq_false c6
            clear c6
            by_cases c9 : ((rd_T59 l2 x8_1).f1) ≥ a0
            · rw [if_pos c9] at H
              have c9b0 : decide (a0 ≤ ((rd_T59 l2 x8_1).f1)) = true := decide_eq_true c9
              clear c9
              obtain rfl := Option.some.inj H
              have p151 : 0 ≤ (x8_1 : Int) := of_decide_eq_true (by first | (with_reducible assumption) | assumption)
              have q151 : x8_1 < (l2.length : Int) := of_decide_eq_true (by first | (with_reducible assumption) | assumption)
              obtain ⟨ad151, e151, hx151_0, hx151_1⟩ := at_T59 HR2.out x8_1 p151 q151
              cases e151
              replace hx151_0 := (HB.out.cell (World.block_lt_of_cell? w _ hx151_0)).trans hx151_0
              replace hx151_1 := (HB.out.cell (World.block_lt_of_cell? w _ hx151_1)).trans hx151_1
              replace p151 := eq_true p151
              replace q151 := eq_true q151
              go_wp2_with (first | ((with_reducible refine gate_dst (N := 9) rfl ?_); refine box_event ?hg (N := 9) ?hd (cs := #[.int .i64 0, .int .i64 0]) (t := 59) ?hr ?_; (case hd => rfl); (case hg => rfl); (case hr => first | (go_simp; done) | (go_simp; rfl)); intro gb152 hg w10 hbox hb; have n0_ := Aside0.mk (below_step (by repeat (first | (with_reducible first | exact HB.out | apply below_alloc | apply pw_below_drewN | apply below_drew1) | exact HB.out)) hb); have n1_ := Aside0.mk (hbox); have n2_ := Aside0.mk ((by rw [hg]; exact (below_size (by repeat (first | (with_reducible first | exact HB.out | apply below_alloc | apply pw_below_drewN | apply below_drew1) | exact HB.out))) : w.heap.size ≤ gb152)); have n3_ := Aside0.mk ((by rw [hg]; exact (below_size (by repeat (first | (with_reducible first | exact HB.out | apply below_alloc | apply pw_below_drewN | apply below_drew1) | exact HB.out))) : w.heap.size ≤ gb152)); clear HB; have HB := n0_; have BK152 := n1_; have GW152 := n2_; have GE152 := n3_; clear n0_ n1_ n2_ n3_; clear hb hbox hg; have hcz11_0 : w10.cell? ⟨gb152, 0, none⟩ = some (.int .i64 0) := (blk_cell BK152.out 0).trans rfl; have hcz11_1 : w10.cell? ⟨gb152, 1, none⟩ = some (.int .i64 0) := (blk_cell BK152.out 1).trans rfl; have hfz11_0 := blk_frozen BK152.out 0; have hfz11_1 := blk_frozen BK152.out 1))
              repeat (go_quiet (first | ((with_reducible refine gate_dst (N := 9) rfl ?_); refine box_event ?hg (N := 9) ?hd (cs := #[.int .i64 0, .int .i64 0]) (t := 59) ?hr ?_; (case hd => rfl); (case hg => rfl); (case hr => first | (go_simp; done) | (go_simp; rfl)); intro gb152 hg w10 hbox hb; have n0_ := Aside0.mk (below_step (by repeat (first | (with_reducible first | exact HB.out | apply below_alloc | apply pw_below_drewN | apply below_drew1) | exact HB.out)) hb); have n1_ := Aside0.mk (hbox); have n2_ := Aside0.mk ((by rw [hg]; exact (below_size (by repeat (first | (with_reducible first | exact HB.out | apply below_alloc | apply pw_below_drewN | apply below_drew1) | exact HB.out))) : w.heap.size ≤ gb152)); have n3_ := Aside0.mk ((by rw [hg]; exact (below_size (by repeat (first | (with_reducible first | exact HB.out | apply below_alloc | apply pw_below_drewN | apply below_drew1) | exact HB.out))) : w.heap.size ≤ gb152)); clear HB; have HB := n0_; have BK152 := n1_; have GW152 := n2_; have GE152 := n3_; clear n0_ n1_ n2_ n3_; clear hb hbox hg; have hcz11_0 : w10.cell? ⟨gb152, 0, none⟩ = some (.int .i64 0) := (blk_cell BK152.out 0).trans rfl; have hcz11_1 : w10.cell? ⟨gb152, 1, none⟩ = some (.int .i64 0) := (blk_cell BK152.out 1).trans rfl; have hfz11_0 := blk_frozen BK152.out 0; have hfz11_1 := blk_frozen BK152.out 1)); try go_wp2_with (first | ((with_reducible refine gate_dst (N := 9) rfl ?_); refine box_event ?hg (N := 9) ?hd (cs := #[.int .i64 0, .int .i64 0]) (t := 59) ?hr ?_; (case hd => rfl); (case hg => rfl); (case hr => first | (go_simp; done) | (go_simp; rfl)); intro gb152 hg w10 hbox hb; have n0_ := Aside0.mk (below_step (by repeat (first | (with_reducible first | exact HB.out | apply below_alloc | apply pw_below_drewN | apply below_drew1) | exact HB.out)) hb); have n1_ := Aside0.mk (hbox); have n2_ := Aside0.mk ((by rw [hg]; exact (below_size (by repeat (first | (with_reducible first | exact HB.out | apply below_alloc | apply pw_below_drewN | apply below_drew1) | exact HB.out))) : w.heap.size ≤ gb152)); have n3_ := Aside0.mk ((by rw [hg]; exact (below_size (by repeat (first | (with_reducible first | exact HB.out | apply below_alloc | apply pw_below_drewN | apply below_drew1) | exact HB.out))) : w.heap.size ≤ gb152)); clear HB; have HB := n0_; have BK152 := n1_; have GW152 := n2_; have GE152 := n3_; clear n0_ n1_ n2_ n3_; clear hb hbox hg; have hcz11_0 : w10.cell? ⟨gb152, 0, none⟩ = some (.int .i64 0) := (blk_cell BK152.out 0).trans rfl; have hcz11_1 : w10.cell? ⟨gb152, 1, none⟩ = some (.int .i64 0) := (blk_cell BK152.out 1).trans rfl; have hfz11_0 := blk_frozen BK152.out 0; have hfz11_1 := blk_frozen BK152.out 1)))
              go_ret
              exact ⟨by first | rfl | (simp [errW_none, errW_some] <;> rfl) | (simp [*, errW_none, errW_some] <;> rfl), by repeat (first | (with_reducible first | exact HB.out | apply below_alloc | apply pw_below_drewN | apply below_drew1 | refine below_set ?_ GE152.out) | exact HB.out)⟩
            · rw [if_neg c9] at H
              have c9b0 : decide (a0 ≤ ((rd_T59 l2 x8_1).f1)) = false := decide_eq_false c9
              clear c9
              by_cases c12 : ((rd_T59 l2 x8_1).f0) ≥ ((rd_T59 l2 x8_1).f1)
              · rw [if_pos c12] at H
                have c12b0 : decide (((rd_T59 l2 x8_1).f1) ≤ ((rd_T59 l2 x8_1).f0)) = true := decide_eq_true c12
                clear c12
                obtain rfl := Option.some.inj H
                have p151 : 0 ≤ (x8_1 : Int) := of_decide_eq_true (by first | (with_reducible assumption) | assumption)
                have q151 : x8_1 < (l2.length : Int) := of_decide_eq_true (by first | (with_reducible assumption) | assumption)
                obtain ⟨ad151, e151, hx151_0, hx151_1⟩ := at_T59 HR2.out x8_1 p151 q151
                cases e151
                replace hx151_0 := (HB.out.cell (World.block_lt_of_cell? w _ hx151_0)).trans hx151_0
                replace hx151_1 := (HB.out.cell (World.block_lt_of_cell? w _ hx151_1)).trans hx151_1
                replace p151 := eq_true p151
                replace q151 := eq_true q151
                go_wp2_with (first | ((with_reducible refine gate_dst (N := 9) rfl ?_); refine box_event ?hg (N := 9) ?hd (cs := #[.int .i64 0, .int .i64 0]) (t := 59) ?hr ?_; (case hd => rfl); (case hg => rfl); (case hr => first | (go_simp; done) | (go_simp; rfl)); intro gb152 hg w13 hbox hb; have n0_ := Aside0.mk (below_step (by repeat (first | (with_reducible first | exact HB.out | apply below_alloc | apply pw_below_drewN | apply below_drew1) | exact HB.out)) hb); have n1_ := Aside0.mk (hbox); have n2_ := Aside0.mk ((by rw [hg]; exact (below_size (by repeat (first | (with_reducible first | exact HB.out | apply below_alloc | apply pw_below_drewN | apply below_drew1) | exact HB.out))) : w.heap.size ≤ gb152)); have n3_ := Aside0.mk ((by rw [hg]; exact (below_size (by repeat (first | (with_reducible first | exact HB.out | apply below_alloc | apply pw_below_drewN | apply below_drew1) | exact HB.out))) : w.heap.size ≤ gb152)); clear HB; have HB := n0_; have BK152 := n1_; have GW152 := n2_; have GE152 := n3_; clear n0_ n1_ n2_ n3_; clear hb hbox hg; have hcz14_0 : w13.cell? ⟨gb152, 0, none⟩ = some (.int .i64 0) := (blk_cell BK152.out 0).trans rfl; have hcz14_1 : w13.cell? ⟨gb152, 1, none⟩ = some (.int .i64 0) := (blk_cell BK152.out 1).trans rfl; have hfz14_0 := blk_frozen BK152.out 0; have hfz14_1 := blk_frozen BK152.out 1))
                repeat (go_quiet (first | ((with_reducible refine gate_dst (N := 9) rfl ?_); refine box_event ?hg (N := 9) ?hd (cs := #[.int .i64 0, .int .i64 0]) (t := 59) ?hr ?_; (case hd => rfl); (case hg => rfl); (case hr => first | (go_simp; done) | (go_simp; rfl)); intro gb152 hg w13 hbox hb; have n0_ := Aside0.mk (below_step (by repeat (first | (with_reducible first | exact HB.out | apply below_alloc | apply pw_below_drewN | apply below_drew1) | exact HB.out)) hb); have n1_ := Aside0.mk (hbox); have n2_ := Aside0.mk ((by rw [hg]; exact (below_size (by repeat (first | (with_reducible first | exact HB.out | apply below_alloc | apply pw_below_drewN | apply below_drew1) | exact HB.out))) : w.heap.size ≤ gb152)); have n3_ := Aside0.mk ((by rw [hg]; exact (below_size (by repeat (first | (with_reducible first | exact HB.out | apply below_alloc | apply pw_below_drewN | apply below_drew1) | exact HB.out))) : w.heap.size ≤ gb152)); clear HB; have HB := n0_; have BK152 := n1_; have GW152 := n2_; have GE152 := n3_; clear n0_ n1_ n2_ n3_; clear hb hbox hg; have hcz14_0 : w13.cell? ⟨gb152, 0, none⟩ = some (.int .i64 0) := (blk_cell BK152.out 0).trans rfl; have hcz14_1 : w13.cell? ⟨gb152, 1, none⟩ = some (.int .i64 0) := (blk_cell BK152.out 1).trans rfl; have hfz14_0 := blk_frozen BK152.out 0; have hfz14_1 := blk_frozen BK152.out 1)); try go_wp2_with (first | ((with_reducible refine gate_dst (N := 9) rfl ?_); refine box_event ?hg (N := 9) ?hd (cs := #[.int .i64 0, .int .i64 0]) (t := 59) ?hr ?_; (case hd => rfl); (case hg => rfl); (case hr => first | (go_simp; done) | (go_simp; rfl)); intro gb152 hg w13 hbox hb; have n0_ := Aside0.mk (below_step (by repeat (first | (with_reducible first | exact HB.out | apply below_alloc | apply pw_below_drewN | apply below_drew1) | exact HB.out)) hb); have n1_ := Aside0.mk (hbox); have n2_ := Aside0.mk ((by rw [hg]; exact (below_size (by repeat (first | (with_reducible first | exact HB.out | apply below_alloc | apply pw_below_drewN | apply below_drew1) | exact HB.out))) : w.heap.size ≤ gb152)); have n3_ := Aside0.mk ((by rw [hg]; exact (below_size (by repeat (first | (with_reducible first | exact HB.out | apply below_alloc | apply pw_below_drewN | apply below_drew1) | exact HB.out))) : w.heap.size ≤ gb152)); clear HB; have HB := n0_; have BK152 := n1_; have GW152 := n2_; have GE152 := n3_; clear n0_ n1_ n2_ n3_; clear hb hbox hg; have hcz14_0 : w13.cell? ⟨gb152, 0, none⟩ = some (.int .i64 0) := (blk_cell BK152.out 0).trans rfl; have hcz14_1 : w13.cell? ⟨gb152, 1, none⟩ = some (.int .i64 0) := (blk_cell BK152.out 1).trans rfl; have hfz14_0 := blk_frozen BK152.out 0; have hfz14_1 := blk_frozen BK152.out 1)))
                go_ret
                exact ⟨by first | rfl | (simp [errW_none, errW_some] <;> rfl) | (simp [*, errW_none, errW_some] <;> rfl), by repeat (first | (with_reducible first | exact HB.out | apply below_alloc | apply pw_below_drewN | apply below_drew1 | refine below_set ?_ GE152.out) | exact HB.out)⟩
              · rw [if_neg c12] at H
                have c12b0 : decide (((rd_T59 l2 x8_1).f1) ≤ ((rd_T59 l2 x8_1).f0)) = false := decide_eq_false c12
                clear c12
                by_cases c15 : 0 ≤ ((rd_T59 l2 x8_1).f0)
                · rw [if_pos c15] at H
                  have c15b0 := eq_true c15
                  have c15b1 : decide (0 ≤ ((rd_T59 l2 x8_1).f0)) = true := decide_eq_true c15
                  clear c15
                  obtain ⟨ji16, hji16⟩ : ∃ j_ : Int, (shr .i64 x7_1 ((rd_T59 l2 x8_1).f0)) = j_ := ⟨_, rfl⟩
                  replace H : (if (Int.tmod (ji16) 2) = 1 then (some false) else (if 0 ≤ ((rd_T59 l2 x8_1).f1) then (if (Int.tmod (shr .i64 x7_1 ((rd_T59 l2 x8_1).f1)) 2) = 1 then (some false) else (if x8_1 > 0 then (if 0 ≤ (wrap64 (x8_1 - 1)) then (if (wrap64 (x8_1 - 1)) < (l2.length : Int) then (if ((rd_T59 l2 (wrap64 (x8_1 - 1))).f0) ≥ ((rd_T59 l2 x8_1).f0) then (some false) else (drovewayref04_isPairing.l0 k1 a0 l1 l2 (wrap64 (x7_1 + (wrap64 ((shl .i64 1 ((rd_T59 l2 x8_1).f0)) + (shl .i64 1 ((rd_T59 l2 x8_1).f1)))))) (wrap64 (x8_1 + 1)))) else (none)) else (none)) else (drovewayref04_isPairing.l0 k1 a0 l1 l2 (wrap64 (x7_1 + (wrap64 ((shl .i64 1 ((rd_T59 l2 x8_1).f0)) + (shl .i64 1 ((rd_T59 l2 x8_1).f1)))))) (wrap64 (x8_1 + 1))))) else (none))) = some r := by first | (rw [hji16] at H; exact H) | (simp only [hji16] at H ⊢; exact H)
                  have hji16_ : (x7_1 / 2 ^ min ((rd_T59 l2 x8_1).f0).toNat 64) = ji16 := hji16
                  have hji16z : ((rd_T59 l2 x8_1).f0) ≤ 64 → (x7_1 / 2 ^ ((rd_T59 l2 x8_1).f0).toNat) = ji16 := shr_small hji16
                  by_cases c17 : (Int.tmod (ji16) 2) = 1
                  · rw [if_pos c17] at H
                    have c17b0 : ((Int.tmod (ji16) 2) == 1) = true := beq_iff_eq.mpr c17
                    have c17b1 : ((Int.tmod (ji16) 2) != 1) = false := bne_eq_false_iff_eq.mpr c17
                    clear c17
                    obtain rfl := Option.some.inj H
                    have p151 : 0 ≤ (x8_1 : Int) := of_decide_eq_true (by first | (with_reducible assumption) | assumption)
                    have q151 : x8_1 < (l2.length : Int) := of_decide_eq_true (by first | (with_reducible assumption) | assumption)
                    obtain ⟨ad151, e151, hx151_0, hx151_1⟩ := at_T59 HR2.out x8_1 p151 q151
                    cases e151
                    replace hx151_0 := (HB.out.cell (World.block_lt_of_cell? w _ hx151_0)).trans hx151_0
                    replace hx151_1 := (HB.out.cell (World.block_lt_of_cell? w _ hx151_1)).trans hx151_1
                    replace p151 := eq_true p151
                    replace q151 := eq_true q151
                    go_wp2_with (first | ((with_reducible refine gate_dst (N := 9) rfl ?_); refine box_event ?hg (N := 9) ?hd (cs := #[.int .i64 0, .int .i64 0]) (t := 59) ?hr ?_; (case hd => rfl); (case hg => rfl); (case hr => first | (go_simp; done) | (go_simp; rfl)); intro gb152 hg w18 hbox hb; have n0_ := Aside0.mk (below_step (by repeat (first | (with_reducible first | exact HB.out | apply below_alloc | apply pw_below_drewN | apply below_drew1) | exact HB.out)) hb); have n1_ := Aside0.mk (hbox); have n2_ := Aside0.mk ((by rw [hg]; exact (below_size (by repeat (first | (with_reducible first | exact HB.out | apply below_alloc | apply pw_below_drewN | apply below_drew1) | exact HB.out))) : w.heap.size ≤ gb152)); have n3_ := Aside0.mk ((by rw [hg]; exact (below_size (by repeat (first | (with_reducible first | exact HB.out | apply below_alloc | apply pw_below_drewN | apply below_drew1) | exact HB.out))) : w.heap.size ≤ gb152)); clear HB; have HB := n0_; have BK152 := n1_; have GW152 := n2_; have GE152 := n3_; clear n0_ n1_ n2_ n3_; clear hb hbox hg; have hcz19_0 : w18.cell? ⟨gb152, 0, none⟩ = some (.int .i64 0) := (blk_cell BK152.out 0).trans rfl; have hcz19_1 : w18.cell? ⟨gb152, 1, none⟩ = some (.int .i64 0) := (blk_cell BK152.out 1).trans rfl; have hfz19_0 := blk_frozen BK152.out 0; have hfz19_1 := blk_frozen BK152.out 1))
                    repeat (go_quiet (first | ((with_reducible refine gate_dst (N := 9) rfl ?_); refine box_event ?hg (N := 9) ?hd (cs := #[.int .i64 0, .int .i64 0]) (t := 59) ?hr ?_; (case hd => rfl); (case hg => rfl); (case hr => first | (go_simp; done) | (go_simp; rfl)); intro gb152 hg w18 hbox hb; have n0_ := Aside0.mk (below_step (by repeat (first | (with_reducible first | exact HB.out | apply below_alloc | apply pw_below_drewN | apply below_drew1) | exact HB.out)) hb); have n1_ := Aside0.mk (hbox); have n2_ := Aside0.mk ((by rw [hg]; exact (below_size (by repeat (first | (with_reducible first | exact HB.out | apply below_alloc | apply pw_below_drewN | apply below_drew1) | exact HB.out))) : w.heap.size ≤ gb152)); have n3_ := Aside0.mk ((by rw [hg]; exact (below_size (by repeat (first | (with_reducible first | exact HB.out | apply below_alloc | apply pw_below_drewN | apply below_drew1) | exact HB.out))) : w.heap.size ≤ gb152)); clear HB; have HB := n0_; have BK152 := n1_; have GW152 := n2_; have GE152 := n3_; clear n0_ n1_ n2_ n3_; clear hb hbox hg; have hcz19_0 : w18.cell? ⟨gb152, 0, none⟩ = some (.int .i64 0) := (blk_cell BK152.out 0).trans rfl; have hcz19_1 : w18.cell? ⟨gb152, 1, none⟩ = some (.int .i64 0) := (blk_cell BK152.out 1).trans rfl; have hfz19_0 := blk_frozen BK152.out 0; have hfz19_1 := blk_frozen BK152.out 1)); try go_wp2_with (first | ((with_reducible refine gate_dst (N := 9) rfl ?_); refine box_event ?hg (N := 9) ?hd (cs := #[.int .i64 0, .int .i64 0]) (t := 59) ?hr ?_; (case hd => rfl); (case hg => rfl); (case hr => first | (go_simp; done) | (go_simp; rfl)); intro gb152 hg w18 hbox hb; have n0_ := Aside0.mk (below_step (by repeat (first | (with_reducible first | exact HB.out | apply below_alloc | apply pw_below_drewN | apply below_drew1) | exact HB.out)) hb); have n1_ := Aside0.mk (hbox); have n2_ := Aside0.mk ((by rw [hg]; exact (below_size (by repeat (first | (with_reducible first | exact HB.out | apply below_alloc | apply pw_below_drewN | apply below_drew1) | exact HB.out))) : w.heap.size ≤ gb152)); have n3_ := Aside0.mk ((by rw [hg]; exact (below_size (by repeat (first | (with_reducible first | exact HB.out | apply below_alloc | apply pw_below_drewN | apply below_drew1) | exact HB.out))) : w.heap.size ≤ gb152)); clear HB; have HB := n0_; have BK152 := n1_; have GW152 := n2_; have GE152 := n3_; clear n0_ n1_ n2_ n3_; clear hb hbox hg; have hcz19_0 : w18.cell? ⟨gb152, 0, none⟩ = some (.int .i64 0) := (blk_cell BK152.out 0).trans rfl; have hcz19_1 : w18.cell? ⟨gb152, 1, none⟩ = some (.int .i64 0) := (blk_cell BK152.out 1).trans rfl; have hfz19_0 := blk_frozen BK152.out 0; have hfz19_1 := blk_frozen BK152.out 1)))
                    go_ret
                    exact ⟨by first | rfl | (simp [errW_none, errW_some] <;> rfl) | (simp only [← hji16]; first | rfl | (simp [errW_none, errW_some] <;> rfl)) | (simp [*, errW_none, errW_some] <;> rfl), by repeat (first | (with_reducible first | exact HB.out | apply below_alloc | apply pw_below_drewN | apply below_drew1 | refine below_set ?_ GE152.out) | exact HB.out)⟩
                  · rw [if_neg c17] at H
                    have c17b0 : ((Int.tmod (ji16) 2) == 1) = false := beq_eq_false_iff_ne.mpr c17
                    have c17b1 : ((Int.tmod (ji16) 2) != 1) = true := bne_iff_ne.mpr c17
                    by_cases c20 : 0 ≤ ((rd_T59 l2 x8_1).f1)
                    · rw [if_pos c20] at H
                      have c20b0 := eq_true c20
                      have c20b1 : decide (0 ≤ ((rd_T59 l2 x8_1).f1)) = true := decide_eq_true c20
                      clear c20
                      obtain ⟨ji21, hji21⟩ : ∃ j_ : Int, (shr .i64 x7_1 ((rd_T59 l2 x8_1).f1)) = j_ := ⟨_, rfl⟩
                      replace H : (if (Int.tmod (ji21) 2) = 1 then (some false) else (if x8_1 > 0 then (if 0 ≤ (wrap64 (x8_1 - 1)) then (if (wrap64 (x8_1 - 1)) < (l2.length : Int) then (if ((rd_T59 l2 (wrap64 (x8_1 - 1))).f0) ≥ ((rd_T59 l2 x8_1).f0) then (some false) else (drovewayref04_isPairing.l0 k1 a0 l1 l2 (wrap64 (x7_1 + (wrap64 ((shl .i64 1 ((rd_T59 l2 x8_1).f0)) + (shl .i64 1 ((rd_T59 l2 x8_1).f1)))))) (wrap64 (x8_1 + 1)))) else (none)) else (none)) else (drovewayref04_isPairing.l0 k1 a0 l1 l2 (wrap64 (x7_1 + (wrap64 ((shl .i64 1 ((rd_T59 l2 x8_1).f0)) + (shl .i64 1 ((rd_T59 l2 x8_1).f1)))))) (wrap64 (x8_1 + 1))))) = some r := by first | (rw [hji21] at H; exact H) | (simp only [hji21] at H ⊢; exact H)
                      have hji21_ : (x7_1 / 2 ^ min ((rd_T59 l2 x8_1).f1).toNat 64) = ji21 := hji21
                      have hji21z : ((rd_T59 l2 x8_1).f1) ≤ 64 → (x7_1 / 2 ^ ((rd_T59 l2 x8_1).f1).toNat) = ji21 := shr_small hji21
                      by_cases c22 : (Int.tmod (ji21) 2) = 1
                      · rw [if_pos c22] at H
                        have c22b0 : ((Int.tmod (ji21) 2) == 1) = true := beq_iff_eq.mpr c22
                        have c22b1 : ((Int.tmod (ji21) 2) != 1) = false := bne_eq_false_iff_eq.mpr c22
                        clear c22
                        obtain rfl := Option.some.inj H
                        have p151 : 0 ≤ (x8_1 : Int) := of_decide_eq_true (by first | (with_reducible assumption) | assumption)
                        have q151 : x8_1 < (l2.length : Int) := of_decide_eq_true (by first | (with_reducible assumption) | assumption)
                        obtain ⟨ad151, e151, hx151_0, hx151_1⟩ := at_T59 HR2.out x8_1 p151 q151
                        cases e151
                        replace hx151_0 := (HB.out.cell (World.block_lt_of_cell? w _ hx151_0)).trans hx151_0
                        replace hx151_1 := (HB.out.cell (World.block_lt_of_cell? w _ hx151_1)).trans hx151_1
                        replace p151 := eq_true p151
                        replace q151 := eq_true q151
                        go_wp2_with (first | ((with_reducible refine gate_dst (N := 9) rfl ?_); refine box_event ?hg (N := 9) ?hd (cs := #[.int .i64 0, .int .i64 0]) (t := 59) ?hr ?_; (case hd => rfl); (case hg => rfl); (case hr => first | (go_simp; done) | (go_simp; rfl)); intro gb152 hg w23 hbox hb; have n0_ := Aside0.mk (below_step (by repeat (first | (with_reducible first | exact HB.out | apply below_alloc | apply pw_below_drewN | apply below_drew1) | exact HB.out)) hb); have n1_ := Aside0.mk (hbox); have n2_ := Aside0.mk ((by rw [hg]; exact (below_size (by repeat (first | (with_reducible first | exact HB.out | apply below_alloc | apply pw_below_drewN | apply below_drew1) | exact HB.out))) : w.heap.size ≤ gb152)); have n3_ := Aside0.mk ((by rw [hg]; exact (below_size (by repeat (first | (with_reducible first | exact HB.out | apply below_alloc | apply pw_below_drewN | apply below_drew1) | exact HB.out))) : w.heap.size ≤ gb152)); clear HB; have HB := n0_; have BK152 := n1_; have GW152 := n2_; have GE152 := n3_; clear n0_ n1_ n2_ n3_; clear hb hbox hg; have hcz24_0 : w23.cell? ⟨gb152, 0, none⟩ = some (.int .i64 0) := (blk_cell BK152.out 0).trans rfl; have hcz24_1 : w23.cell? ⟨gb152, 1, none⟩ = some (.int .i64 0) := (blk_cell BK152.out 1).trans rfl; have hfz24_0 := blk_frozen BK152.out 0; have hfz24_1 := blk_frozen BK152.out 1))
                        repeat (go_quiet (first | ((with_reducible refine gate_dst (N := 9) rfl ?_); refine box_event ?hg (N := 9) ?hd (cs := #[.int .i64 0, .int .i64 0]) (t := 59) ?hr ?_; (case hd => rfl); (case hg => rfl); (case hr => first | (go_simp; done) | (go_simp; rfl)); intro gb152 hg w23 hbox hb; have n0_ := Aside0.mk (below_step (by repeat (first | (with_reducible first | exact HB.out | apply below_alloc | apply pw_below_drewN | apply below_drew1) | exact HB.out)) hb); have n1_ := Aside0.mk (hbox); have n2_ := Aside0.mk ((by rw [hg]; exact (below_size (by repeat (first | (with_reducible first | exact HB.out | apply below_alloc | apply pw_below_drewN | apply below_drew1) | exact HB.out))) : w.heap.size ≤ gb152)); have n3_ := Aside0.mk ((by rw [hg]; exact (below_size (by repeat (first | (with_reducible first | exact HB.out | apply below_alloc | apply pw_below_drewN | apply below_drew1) | exact HB.out))) : w.heap.size ≤ gb152)); clear HB; have HB := n0_; have BK152 := n1_; have GW152 := n2_; have GE152 := n3_; clear n0_ n1_ n2_ n3_; clear hb hbox hg; have hcz24_0 : w23.cell? ⟨gb152, 0, none⟩ = some (.int .i64 0) := (blk_cell BK152.out 0).trans rfl; have hcz24_1 : w23.cell? ⟨gb152, 1, none⟩ = some (.int .i64 0) := (blk_cell BK152.out 1).trans rfl; have hfz24_0 := blk_frozen BK152.out 0; have hfz24_1 := blk_frozen BK152.out 1)); try go_wp2_with (first | ((with_reducible refine gate_dst (N := 9) rfl ?_); refine box_event ?hg (N := 9) ?hd (cs := #[.int .i64 0, .int .i64 0]) (t := 59) ?hr ?_; (case hd => rfl); (case hg => rfl); (case hr => first | (go_simp; done) | (go_simp; rfl)); intro gb152 hg w23 hbox hb; have n0_ := Aside0.mk (below_step (by repeat (first | (with_reducible first | exact HB.out | apply below_alloc | apply pw_below_drewN | apply below_drew1) | exact HB.out)) hb); have n1_ := Aside0.mk (hbox); have n2_ := Aside0.mk ((by rw [hg]; exact (below_size (by repeat (first | (with_reducible first | exact HB.out | apply below_alloc | apply pw_below_drewN | apply below_drew1) | exact HB.out))) : w.heap.size ≤ gb152)); have n3_ := Aside0.mk ((by rw [hg]; exact (below_size (by repeat (first | (with_reducible first | exact HB.out | apply below_alloc | apply pw_below_drewN | apply below_drew1) | exact HB.out))) : w.heap.size ≤ gb152)); clear HB; have HB := n0_; have BK152 := n1_; have GW152 := n2_; have GE152 := n3_; clear n0_ n1_ n2_ n3_; clear hb hbox hg; have hcz24_0 : w23.cell? ⟨gb152, 0, none⟩ = some (.int .i64 0) := (blk_cell BK152.out 0).trans rfl; have hcz24_1 : w23.cell? ⟨gb152, 1, none⟩ = some (.int .i64 0) := (blk_cell BK152.out 1).trans rfl; have hfz24_0 := blk_frozen BK152.out 0; have hfz24_1 := blk_frozen BK152.out 1)))
                        go_ret
                        exact ⟨by first | rfl | (simp [errW_none, errW_some] <;> rfl) | (simp only [← hji16, ← hji21]; first | rfl | (simp [errW_none, errW_some] <;> rfl)) | (simp [*, errW_none, errW_some] <;> rfl), by repeat (first | (with_reducible first | exact HB.out | apply below_alloc | apply pw_below_drewN | apply below_drew1 | refine below_set ?_ GE152.out) | exact HB.out)⟩
                      · rw [if_neg c22] at H
                        have c22b0 : ((Int.tmod (ji21) 2) == 1) = false := beq_eq_false_iff_ne.mpr c22
                        have c22b1 : ((Int.tmod (ji21) 2) != 1) = true := bne_iff_ne.mpr c22
                        by_cases c25 : x8_1 > 0
                        · rw [if_pos c25] at H
                          have c25b0 : decide (0 < x8_1) = true := decide_eq_true c25
                          clear c25
                          obtain ⟨ji26, hji26⟩ : ∃ j_ : Int, (wrap64 (x8_1 - 1)) = j_ := ⟨_, rfl⟩
                          replace H : (if 0 ≤ (ji26) then (if (ji26) < (l2.length : Int) then (if ((rd_T59 l2 (ji26)).f0) ≥ ((rd_T59 l2 x8_1).f0) then (some false) else (drovewayref04_isPairing.l0 k1 a0 l1 l2 (wrap64 (x7_1 + (wrap64 ((shl .i64 1 ((rd_T59 l2 x8_1).f0)) + (shl .i64 1 ((rd_T59 l2 x8_1).f1)))))) (wrap64 (x8_1 + 1)))) else (none)) else (none)) = some r := by first | (rw [hji26] at H; exact H) | (simp only [hji26] at H ⊢; exact H)
                          have hji26w : (IntKind.i64.wrap (x8_1 - 1)) = ji26 := (i64_w _).trans hji26
                          by_cases c27 : 0 ≤ (ji26)
                          · rw [if_pos c27] at H
                            have c27b0 : decide (0 ≤ (ji26)) = true := decide_eq_true c27
                            clear c27
                            by_cases c28 : (ji26) < (l2.length : Int)
                            · rw [if_pos c28] at H
                              have c28b0 : decide ((ji26) < (l2.length : Int)) = true := decide_eq_true c28
                              clear c28
                              by_cases c29 : ((rd_T59 l2 (ji26)).f0) ≥ ((rd_T59 l2 x8_1).f0)
                              · rw [if_pos c29] at H
                                have c29b0 : decide (((rd_T59 l2 x8_1).f0) ≤ ((rd_T59 l2 (ji26)).f0)) = true := decide_eq_true c29
                                clear c29
                                obtain rfl := Option.some.inj H
                                have p151 : 0 ≤ (x8_1 : Int) := of_decide_eq_true (by first | (with_reducible assumption) | assumption)
                                have q151 : x8_1 < (l2.length : Int) := of_decide_eq_true (by first | (with_reducible assumption) | assumption)
                                obtain ⟨ad151, e151, hx151_0, hx151_1⟩ := at_T59 HR2.out x8_1 p151 q151
                                cases e151
                                replace hx151_0 := (HB.out.cell (World.block_lt_of_cell? w _ hx151_0)).trans hx151_0
                                replace hx151_1 := (HB.out.cell (World.block_lt_of_cell? w _ hx151_1)).trans hx151_1
                                replace p151 := eq_true p151
                                replace q151 := eq_true q151
                                go_wp2_with (first | ((with_reducible refine gate_dst (N := 9) rfl ?_); refine box_event ?hg (N := 9) ?hd (cs := #[.int .i64 0, .int .i64 0]) (t := 59) ?hr ?_; (case hd => rfl); (case hg => rfl); (case hr => first | (go_simp; done) | (go_simp; rfl)); intro gb152 hg w30 hbox hb; have n0_ := Aside0.mk (below_step (by repeat (first | (with_reducible first | exact HB.out | apply below_alloc | apply pw_below_drewN | apply below_drew1) | exact HB.out)) hb); have n1_ := Aside0.mk (hbox); have n2_ := Aside0.mk ((by rw [hg]; exact (below_size (by repeat (first | (with_reducible first | exact HB.out | apply below_alloc | apply pw_below_drewN | apply below_drew1) | exact HB.out))) : w.heap.size ≤ gb152)); have n3_ := Aside0.mk ((by rw [hg]; exact (below_size (by repeat (first | (with_reducible first | exact HB.out | apply below_alloc | apply pw_below_drewN | apply below_drew1) | exact HB.out))) : w.heap.size ≤ gb152)); clear HB; have HB := n0_; have BK152 := n1_; have GW152 := n2_; have GE152 := n3_; clear n0_ n1_ n2_ n3_; clear hb hbox hg; have hcz31_0 : w30.cell? ⟨gb152, 0, none⟩ = some (.int .i64 0) := (blk_cell BK152.out 0).trans rfl; have hcz31_1 : w30.cell? ⟨gb152, 1, none⟩ = some (.int .i64 0) := (blk_cell BK152.out 1).trans rfl; have hfz31_0 := blk_frozen BK152.out 0; have hfz31_1 := blk_frozen BK152.out 1; have p153 : 0 ≤ ((ji26) : Int) := of_decide_eq_true (by first | (with_reducible assumption) | assumption); have q153 : (ji26) < (l2.length : Int) := of_decide_eq_true (by first | (with_reducible assumption) | assumption); obtain ⟨ad153, e153, hx153_0, hx153_1⟩ := at_T59 HR2.out (ji26) p153 q153; obtain rfl : ad151 = ad153 := (by injection e153); have hn153_0 : ad151.block ≠ gb152 := Nat.ne_of_lt (Nat.lt_of_lt_of_le (by have := World.block_lt_of_cell? _ _ hx153_0; first | rwa [add_block] at this | exact this) GW152.out); have hn153_1 : ad151.block ≠ gb152 := Nat.ne_of_lt (Nat.lt_of_lt_of_le (by have := World.block_lt_of_cell? _ _ hx153_0; first | rwa [add_block] at this | exact this) GW152.out); replace hx153_0 := (HB.out.cell (World.block_lt_of_cell? w _ hx153_0)).trans hx153_0; replace hx153_1 := (HB.out.cell (World.block_lt_of_cell? w _ hx153_1)).trans hx153_1; replace hx153_0 := (cell_far (p := ⟨gb152, 0, none⟩) (by first | (rw [add_block]; exact hn153_0) | (show (Addr.add _ _).block ≠ _; rw [add_block]; exact hn153_0) | exact hn153_0) (.int .i64 ((rd_T59 l2 x8_1).f0))).trans hx153_0; replace hx153_1 := (cell_far (p := ⟨gb152, 0, none⟩) (by first | (rw [add_block]; exact hn153_0) | (show (Addr.add _ _).block ≠ _; rw [add_block]; exact hn153_0) | exact hn153_0) (.int .i64 ((rd_T59 l2 x8_1).f0))).trans hx153_1; replace hx153_0 := (cell_far (p := ⟨gb152, 1, none⟩) (by first | (rw [add_block]; exact hn153_1) | (show (Addr.add _ _).block ≠ _; rw [add_block]; exact hn153_1) | exact hn153_1) (.int .i64 ((rd_T59 l2 x8_1).f1))).trans hx153_0; replace hx153_1 := (cell_far (p := ⟨gb152, 1, none⟩) (by first | (rw [add_block]; exact hn153_1) | (show (Addr.add _ _).block ≠ _; rw [add_block]; exact hn153_1) | exact hn153_1) (.int .i64 ((rd_T59 l2 x8_1).f1))).trans hx153_1; (try have hy153_0 := fun (n_ : Nat) => (show ((((w30.drewN n_).setCell ⟨gb152, 0, none⟩ (.int .i64 ((rd_T59 l2 x8_1).f0))).setCell ⟨gb152, 1, none⟩ (.int .i64 ((rd_T59 l2 x8_1).f1)))).cell? _ = some _ from hx153_0)); (try have hy153_1 := fun (n_ : Nat) => (show ((((w30.drewN n_).setCell ⟨gb152, 0, none⟩ (.int .i64 ((rd_T59 l2 x8_1).f0))).setCell ⟨gb152, 1, none⟩ (.int .i64 ((rd_T59 l2 x8_1).f1)))).cell? _ = some _ from hx153_1)); clear hn153_0; clear hn153_1; replace p153 := eq_true p153; replace q153 := eq_true q153))
                                repeat (go_quiet (first | ((with_reducible refine gate_dst (N := 9) rfl ?_); refine box_event ?hg (N := 9) ?hd (cs := #[.int .i64 0, .int .i64 0]) (t := 59) ?hr ?_; (case hd => rfl); (case hg => rfl); (case hr => first | (go_simp; done) | (go_simp; rfl)); intro gb152 hg w30 hbox hb; have n0_ := Aside0.mk (below_step (by repeat (first | (with_reducible first | exact HB.out | apply below_alloc | apply pw_below_drewN | apply below_drew1) | exact HB.out)) hb); have n1_ := Aside0.mk (hbox); have n2_ := Aside0.mk ((by rw [hg]; exact (below_size (by repeat (first | (with_reducible first | exact HB.out | apply below_alloc | apply pw_below_drewN | apply below_drew1) | exact HB.out))) : w.heap.size ≤ gb152)); have n3_ := Aside0.mk ((by rw [hg]; exact (below_size (by repeat (first | (with_reducible first | exact HB.out | apply below_alloc | apply pw_below_drewN | apply below_drew1) | exact HB.out))) : w.heap.size ≤ gb152)); clear HB; have HB := n0_; have BK152 := n1_; have GW152 := n2_; have GE152 := n3_; clear n0_ n1_ n2_ n3_; clear hb hbox hg; have hcz31_0 : w30.cell? ⟨gb152, 0, none⟩ = some (.int .i64 0) := (blk_cell BK152.out 0).trans rfl; have hcz31_1 : w30.cell? ⟨gb152, 1, none⟩ = some (.int .i64 0) := (blk_cell BK152.out 1).trans rfl; have hfz31_0 := blk_frozen BK152.out 0; have hfz31_1 := blk_frozen BK152.out 1; have p153 : 0 ≤ ((ji26) : Int) := of_decide_eq_true (by first | (with_reducible assumption) | assumption); have q153 : (ji26) < (l2.length : Int) := of_decide_eq_true (by first | (with_reducible assumption) | assumption); obtain ⟨ad153, e153, hx153_0, hx153_1⟩ := at_T59 HR2.out (ji26) p153 q153; obtain rfl : ad151 = ad153 := (by injection e153); have hn153_0 : ad151.block ≠ gb152 := Nat.ne_of_lt (Nat.lt_of_lt_of_le (by have := World.block_lt_of_cell? _ _ hx153_0; first | rwa [add_block] at this | exact this) GW152.out); have hn153_1 : ad151.block ≠ gb152 := Nat.ne_of_lt (Nat.lt_of_lt_of_le (by have := World.block_lt_of_cell? _ _ hx153_0; first | rwa [add_block] at this | exact this) GW152.out); replace hx153_0 := (HB.out.cell (World.block_lt_of_cell? w _ hx153_0)).trans hx153_0; replace hx153_1 := (HB.out.cell (World.block_lt_of_cell? w _ hx153_1)).trans hx153_1; replace hx153_0 := (cell_far (p := ⟨gb152, 0, none⟩) (by first | (rw [add_block]; exact hn153_0) | (show (Addr.add _ _).block ≠ _; rw [add_block]; exact hn153_0) | exact hn153_0) (.int .i64 ((rd_T59 l2 x8_1).f0))).trans hx153_0; replace hx153_1 := (cell_far (p := ⟨gb152, 0, none⟩) (by first | (rw [add_block]; exact hn153_0) | (show (Addr.add _ _).block ≠ _; rw [add_block]; exact hn153_0) | exact hn153_0) (.int .i64 ((rd_T59 l2 x8_1).f0))).trans hx153_1; replace hx153_0 := (cell_far (p := ⟨gb152, 1, none⟩) (by first | (rw [add_block]; exact hn153_1) | (show (Addr.add _ _).block ≠ _; rw [add_block]; exact hn153_1) | exact hn153_1) (.int .i64 ((rd_T59 l2 x8_1).f1))).trans hx153_0; replace hx153_1 := (cell_far (p := ⟨gb152, 1, none⟩) (by first | (rw [add_block]; exact hn153_1) | (show (Addr.add _ _).block ≠ _; rw [add_block]; exact hn153_1) | exact hn153_1) (.int .i64 ((rd_T59 l2 x8_1).f1))).trans hx153_1; (try have hy153_0 := fun (n_ : Nat) => (show ((((w30.drewN n_).setCell ⟨gb152, 0, none⟩ (.int .i64 ((rd_T59 l2 x8_1).f0))).setCell ⟨gb152, 1, none⟩ (.int .i64 ((rd_T59 l2 x8_1).f1)))).cell? _ = some _ from hx153_0)); (try have hy153_1 := fun (n_ : Nat) => (show ((((w30.drewN n_).setCell ⟨gb152, 0, none⟩ (.int .i64 ((rd_T59 l2 x8_1).f0))).setCell ⟨gb152, 1, none⟩ (.int .i64 ((rd_T59 l2 x8_1).f1)))).cell? _ = some _ from hx153_1)); clear hn153_0; clear hn153_1; replace p153 := eq_true p153; replace q153 := eq_true q153)); try go_wp2_with (first | ((with_reducible refine gate_dst (N := 9) rfl ?_); refine box_event ?hg (N := 9) ?hd (cs := #[.int .i64 0, .int .i64 0]) (t := 59) ?hr ?_; (case hd => rfl); (case hg => rfl); (case hr => first | (go_simp; done) | (go_simp; rfl)); intro gb152 hg w30 hbox hb; have n0_ := Aside0.mk (below_step (by repeat (first | (with_reducible first | exact HB.out | apply below_alloc | apply pw_below_drewN | apply below_drew1) | exact HB.out)) hb); have n1_ := Aside0.mk (hbox); have n2_ := Aside0.mk ((by rw [hg]; exact (below_size (by repeat (first | (with_reducible first | exact HB.out | apply below_alloc | apply pw_below_drewN | apply below_drew1) | exact HB.out))) : w.heap.size ≤ gb152)); have n3_ := Aside0.mk ((by rw [hg]; exact (below_size (by repeat (first | (with_reducible first | exact HB.out | apply below_alloc | apply pw_below_drewN | apply below_drew1) | exact HB.out))) : w.heap.size ≤ gb152)); clear HB; have HB := n0_; have BK152 := n1_; have GW152 := n2_; have GE152 := n3_; clear n0_ n1_ n2_ n3_; clear hb hbox hg; have hcz31_0 : w30.cell? ⟨gb152, 0, none⟩ = some (.int .i64 0) := (blk_cell BK152.out 0).trans rfl; have hcz31_1 : w30.cell? ⟨gb152, 1, none⟩ = some (.int .i64 0) := (blk_cell BK152.out 1).trans rfl; have hfz31_0 := blk_frozen BK152.out 0; have hfz31_1 := blk_frozen BK152.out 1; have p153 : 0 ≤ ((ji26) : Int) := of_decide_eq_true (by first | (with_reducible assumption) | assumption); have q153 : (ji26) < (l2.length : Int) := of_decide_eq_true (by first | (with_reducible assumption) | assumption); obtain ⟨ad153, e153, hx153_0, hx153_1⟩ := at_T59 HR2.out (ji26) p153 q153; obtain rfl : ad151 = ad153 := (by injection e153); have hn153_0 : ad151.block ≠ gb152 := Nat.ne_of_lt (Nat.lt_of_lt_of_le (by have := World.block_lt_of_cell? _ _ hx153_0; first | rwa [add_block] at this | exact this) GW152.out); have hn153_1 : ad151.block ≠ gb152 := Nat.ne_of_lt (Nat.lt_of_lt_of_le (by have := World.block_lt_of_cell? _ _ hx153_0; first | rwa [add_block] at this | exact this) GW152.out); replace hx153_0 := (HB.out.cell (World.block_lt_of_cell? w _ hx153_0)).trans hx153_0; replace hx153_1 := (HB.out.cell (World.block_lt_of_cell? w _ hx153_1)).trans hx153_1; replace hx153_0 := (cell_far (p := ⟨gb152, 0, none⟩) (by first | (rw [add_block]; exact hn153_0) | (show (Addr.add _ _).block ≠ _; rw [add_block]; exact hn153_0) | exact hn153_0) (.int .i64 ((rd_T59 l2 x8_1).f0))).trans hx153_0; replace hx153_1 := (cell_far (p := ⟨gb152, 0, none⟩) (by first | (rw [add_block]; exact hn153_0) | (show (Addr.add _ _).block ≠ _; rw [add_block]; exact hn153_0) | exact hn153_0) (.int .i64 ((rd_T59 l2 x8_1).f0))).trans hx153_1; replace hx153_0 := (cell_far (p := ⟨gb152, 1, none⟩) (by first | (rw [add_block]; exact hn153_1) | (show (Addr.add _ _).block ≠ _; rw [add_block]; exact hn153_1) | exact hn153_1) (.int .i64 ((rd_T59 l2 x8_1).f1))).trans hx153_0; replace hx153_1 := (cell_far (p := ⟨gb152, 1, none⟩) (by first | (rw [add_block]; exact hn153_1) | (show (Addr.add _ _).block ≠ _; rw [add_block]; exact hn153_1) | exact hn153_1) (.int .i64 ((rd_T59 l2 x8_1).f1))).trans hx153_1; (try have hy153_0 := fun (n_ : Nat) => (show ((((w30.drewN n_).setCell ⟨gb152, 0, none⟩ (.int .i64 ((rd_T59 l2 x8_1).f0))).setCell ⟨gb152, 1, none⟩ (.int .i64 ((rd_T59 l2 x8_1).f1)))).cell? _ = some _ from hx153_0)); (try have hy153_1 := fun (n_ : Nat) => (show ((((w30.drewN n_).setCell ⟨gb152, 0, none⟩ (.int .i64 ((rd_T59 l2 x8_1).f0))).setCell ⟨gb152, 1, none⟩ (.int .i64 ((rd_T59 l2 x8_1).f1)))).cell? _ = some _ from hx153_1)); clear hn153_0; clear hn153_1; replace p153 := eq_true p153; replace q153 := eq_true q153)))
                                go_ret
                                exact ⟨by first | rfl | (simp [errW_none, errW_some] <;> rfl) | (simp only [← hji16, ← hji21, ← hji26]; first | rfl | (simp [errW_none, errW_some] <;> rfl)) | (simp [*, errW_none, errW_some] <;> rfl), by repeat (first | (with_reducible first | exact HB.out | apply below_alloc | apply pw_below_drewN | apply below_drew1 | refine below_set ?_ GE152.out) | exact HB.out)⟩
                              · rw [if_neg c29] at H
                                have c29b0 : decide (((rd_T59 l2 x8_1).f0) ≤ ((rd_T59 l2 (ji26)).f0)) = false := decide_eq_false c29
                                clear c29
                                have c32b0 := eq_true (of_decide_eq_true (by first | (with_reducible assumption) | assumption) : 0 ≤ ((rd_T59 l2 x8_1).f0))
                                obtain ⟨ji33, hji33⟩ : ∃ j_ : Int, (shl .i64 1 ((rd_T59 l2 x8_1).f0)) = j_ := ⟨_, rfl⟩
                                replace H : (drovewayref04_isPairing.l0 k1 a0 l1 l2 (wrap64 (x7_1 + (wrap64 ((ji33) + (shl .i64 1 ((rd_T59 l2 x8_1).f1)))))) (wrap64 (x8_1 + 1))) = some r := by first | (rw [hji33] at H; exact H) | (simp only [hji33] at H ⊢; exact H)
                                have hji33_ : (IntKind.i64.wrap (1 * 2 ^ min ((rd_T59 l2 x8_1).f0).toNat 64)) = ji33 := hji33
                                have hji33z : ((rd_T59 l2 x8_1).f0) ≤ 64 → (IntKind.i64.wrap (1 * 2 ^ ((rd_T59 l2 x8_1).f0).toNat)) = ji33 := shl_small hji33
                                have hji33u : (IntKind.i64.wrap (2 ^ min ((rd_T59 l2 x8_1).f0).toNat 64)) = ji33 := by have h_ := hji33_; rw [Int.one_mul] at h_; exact h_
                                have hji33v : ((rd_T59 l2 x8_1).f0) ≤ 64 → (IntKind.i64.wrap (2 ^ ((rd_T59 l2 x8_1).f0).toNat)) = ji33 := fun hle_ => by have h_ := hji33z hle_; rw [Int.one_mul] at h_; exact h_
                                have hji33y : (wrap64 (1 * 2 ^ min ((rd_T59 l2 x8_1).f0).toNat 64)) = ji33 := (i64_w _).symm.trans hji33_
                                have hji33x : ((rd_T59 l2 x8_1).f0) ≤ 64 → (wrap64 (1 * 2 ^ ((rd_T59 l2 x8_1).f0).toNat)) = ji33 := fun h_ => (i64_w _).symm.trans (hji33z h_)
                                have c34b0 := eq_true (of_decide_eq_true (by first | (with_reducible assumption) | assumption) : 0 ≤ ((rd_T59 l2 x8_1).f1))
                                obtain ⟨ji35, hji35⟩ : ∃ j_ : Int, (shl .i64 1 ((rd_T59 l2 x8_1).f1)) = j_ := ⟨_, rfl⟩
                                replace H : (drovewayref04_isPairing.l0 k1 a0 l1 l2 (wrap64 (x7_1 + (wrap64 ((ji33) + (ji35))))) (wrap64 (x8_1 + 1))) = some r := by first | (rw [hji35] at H; exact H) | (simp only [hji35] at H ⊢; exact H)
                                have hji35_ : (IntKind.i64.wrap (1 * 2 ^ min ((rd_T59 l2 x8_1).f1).toNat 64)) = ji35 := hji35
                                have hji35z : ((rd_T59 l2 x8_1).f1) ≤ 64 → (IntKind.i64.wrap (1 * 2 ^ ((rd_T59 l2 x8_1).f1).toNat)) = ji35 := shl_small hji35
                                have hji35u : (IntKind.i64.wrap (2 ^ min ((rd_T59 l2 x8_1).f1).toNat 64)) = ji35 := by have h_ := hji35_; rw [Int.one_mul] at h_; exact h_
                                have hji35v : ((rd_T59 l2 x8_1).f1) ≤ 64 → (IntKind.i64.wrap (2 ^ ((rd_T59 l2 x8_1).f1).toNat)) = ji35 := fun hle_ => by have h_ := hji35z hle_; rw [Int.one_mul] at h_; exact h_
                                have hji35y : (wrap64 (1 * 2 ^ min ((rd_T59 l2 x8_1).f1).toNat 64)) = ji35 := (i64_w _).symm.trans hji35_
                                have hji35x : ((rd_T59 l2 x8_1).f1) ≤ 64 → (wrap64 (1 * 2 ^ ((rd_T59 l2 x8_1).f1).toNat)) = ji35 := fun h_ => (i64_w _).symm.trans (hji35z h_)
                                have H' := Aside0.mk H
                                clear H
                                have p151 : 0 ≤ (x8_1 : Int) := of_decide_eq_true (by first | (with_reducible assumption) | assumption)
                                have q151 : x8_1 < (l2.length : Int) := of_decide_eq_true (by first | (with_reducible assumption) | assumption)
                                obtain ⟨ad151, e151, hx151_0, hx151_1⟩ := at_T59 HR2.out x8_1 p151 q151
                                cases e151
                                replace hx151_0 := (HB.out.cell (World.block_lt_of_cell? w _ hx151_0)).trans hx151_0
                                replace hx151_1 := (HB.out.cell (World.block_lt_of_cell? w _ hx151_1)).trans hx151_1
                                replace p151 := eq_true p151
                                replace q151 := eq_true q151
                                go_wp2_with (first | ((with_reducible refine gate_dst (N := 9) rfl ?_); refine box_event ?hg (N := 9) ?hd (cs := #[.int .i64 0, .int .i64 0]) (t := 59) ?hr ?_; (case hd => rfl); (case hg => rfl); (case hr => first | (go_simp; done) | (go_simp; rfl)); intro gb152 hg w36 hbox hb; have n0_ := Aside0.mk (below_step (by repeat (first | (with_reducible first | exact HB.out | apply below_alloc | apply pw_below_drewN | apply below_drew1) | exact HB.out)) hb); have n1_ := Aside0.mk (hbox); have n2_ := Aside0.mk ((by rw [hg]; exact (below_size (by repeat (first | (with_reducible first | exact HB.out | apply below_alloc | apply pw_below_drewN | apply below_drew1) | exact HB.out))) : w.heap.size ≤ gb152)); have n3_ := Aside0.mk ((by rw [hg]; exact (below_size (by repeat (first | (with_reducible first | exact HB.out | apply below_alloc | apply pw_below_drewN | apply below_drew1) | exact HB.out))) : w.heap.size ≤ gb152)); clear HB; have HB := n0_; have BK152 := n1_; have GW152 := n2_; have GE152 := n3_; clear n0_ n1_ n2_ n3_; clear hb hbox hg; have hcz37_0 : w36.cell? ⟨gb152, 0, none⟩ = some (.int .i64 0) := (blk_cell BK152.out 0).trans rfl; have hcz37_1 : w36.cell? ⟨gb152, 1, none⟩ = some (.int .i64 0) := (blk_cell BK152.out 1).trans rfl; have hfz37_0 := blk_frozen BK152.out 0; have hfz37_1 := blk_frozen BK152.out 1; have p153 : 0 ≤ ((ji26) : Int) := of_decide_eq_true (by first | (with_reducible assumption) | assumption); have q153 : (ji26) < (l2.length : Int) := of_decide_eq_true (by first | (with_reducible assumption) | assumption); obtain ⟨ad153, e153, hx153_0, hx153_1⟩ := at_T59 HR2.out (ji26) p153 q153; obtain rfl : ad151 = ad153 := (by injection e153); have hn153_0 : ad151.block ≠ gb152 := Nat.ne_of_lt (Nat.lt_of_lt_of_le (by have := World.block_lt_of_cell? _ _ hx153_0; first | rwa [add_block] at this | exact this) GW152.out); have hn153_1 : ad151.block ≠ gb152 := Nat.ne_of_lt (Nat.lt_of_lt_of_le (by have := World.block_lt_of_cell? _ _ hx153_0; first | rwa [add_block] at this | exact this) GW152.out); replace hx153_0 := (HB.out.cell (World.block_lt_of_cell? w _ hx153_0)).trans hx153_0; replace hx153_1 := (HB.out.cell (World.block_lt_of_cell? w _ hx153_1)).trans hx153_1; replace hx153_0 := (cell_far (p := ⟨gb152, 0, none⟩) (by first | (rw [add_block]; exact hn153_0) | (show (Addr.add _ _).block ≠ _; rw [add_block]; exact hn153_0) | exact hn153_0) (.int .i64 ((rd_T59 l2 x8_1).f0))).trans hx153_0; replace hx153_1 := (cell_far (p := ⟨gb152, 0, none⟩) (by first | (rw [add_block]; exact hn153_0) | (show (Addr.add _ _).block ≠ _; rw [add_block]; exact hn153_0) | exact hn153_0) (.int .i64 ((rd_T59 l2 x8_1).f0))).trans hx153_1; replace hx153_0 := (cell_far (p := ⟨gb152, 1, none⟩) (by first | (rw [add_block]; exact hn153_1) | (show (Addr.add _ _).block ≠ _; rw [add_block]; exact hn153_1) | exact hn153_1) (.int .i64 ((rd_T59 l2 x8_1).f1))).trans hx153_0; replace hx153_1 := (cell_far (p := ⟨gb152, 1, none⟩) (by first | (rw [add_block]; exact hn153_1) | (show (Addr.add _ _).block ≠ _; rw [add_block]; exact hn153_1) | exact hn153_1) (.int .i64 ((rd_T59 l2 x8_1).f1))).trans hx153_1; (try have hy153_0 := fun (n_ : Nat) => (show ((((w36.drewN n_).setCell ⟨gb152, 0, none⟩ (.int .i64 ((rd_T59 l2 x8_1).f0))).setCell ⟨gb152, 1, none⟩ (.int .i64 ((rd_T59 l2 x8_1).f1)))).cell? _ = some _ from hx153_0)); (try have hy153_1 := fun (n_ : Nat) => (show ((((w36.drewN n_).setCell ⟨gb152, 0, none⟩ (.int .i64 ((rd_T59 l2 x8_1).f0))).setCell ⟨gb152, 1, none⟩ (.int .i64 ((rd_T59 l2 x8_1).f1)))).cell? _ = some _ from hx153_1)); clear hn153_0; clear hn153_1; replace p153 := eq_true p153; replace q153 := eq_true q153))
                                repeat (go_quiet (first | ((with_reducible refine gate_dst (N := 9) rfl ?_); refine box_event ?hg (N := 9) ?hd (cs := #[.int .i64 0, .int .i64 0]) (t := 59) ?hr ?_; (case hd => rfl); (case hg => rfl); (case hr => first | (go_simp; done) | (go_simp; rfl)); intro gb152 hg w36 hbox hb; have n0_ := Aside0.mk (below_step (by repeat (first | (with_reducible first | exact HB.out | apply below_alloc | apply pw_below_drewN | apply below_drew1) | exact HB.out)) hb); have n1_ := Aside0.mk (hbox); have n2_ := Aside0.mk ((by rw [hg]; exact (below_size (by repeat (first | (with_reducible first | exact HB.out | apply below_alloc | apply pw_below_drewN | apply below_drew1) | exact HB.out))) : w.heap.size ≤ gb152)); have n3_ := Aside0.mk ((by rw [hg]; exact (below_size (by repeat (first | (with_reducible first | exact HB.out | apply below_alloc | apply pw_below_drewN | apply below_drew1) | exact HB.out))) : w.heap.size ≤ gb152)); clear HB; have HB := n0_; have BK152 := n1_; have GW152 := n2_; have GE152 := n3_; clear n0_ n1_ n2_ n3_; clear hb hbox hg; have hcz37_0 : w36.cell? ⟨gb152, 0, none⟩ = some (.int .i64 0) := (blk_cell BK152.out 0).trans rfl; have hcz37_1 : w36.cell? ⟨gb152, 1, none⟩ = some (.int .i64 0) := (blk_cell BK152.out 1).trans rfl; have hfz37_0 := blk_frozen BK152.out 0; have hfz37_1 := blk_frozen BK152.out 1; have p153 : 0 ≤ ((ji26) : Int) := of_decide_eq_true (by first | (with_reducible assumption) | assumption); have q153 : (ji26) < (l2.length : Int) := of_decide_eq_true (by first | (with_reducible assumption) | assumption); obtain ⟨ad153, e153, hx153_0, hx153_1⟩ := at_T59 HR2.out (ji26) p153 q153; obtain rfl : ad151 = ad153 := (by injection e153); have hn153_0 : ad151.block ≠ gb152 := Nat.ne_of_lt (Nat.lt_of_lt_of_le (by have := World.block_lt_of_cell? _ _ hx153_0; first | rwa [add_block] at this | exact this) GW152.out); have hn153_1 : ad151.block ≠ gb152 := Nat.ne_of_lt (Nat.lt_of_lt_of_le (by have := World.block_lt_of_cell? _ _ hx153_0; first | rwa [add_block] at this | exact this) GW152.out); replace hx153_0 := (HB.out.cell (World.block_lt_of_cell? w _ hx153_0)).trans hx153_0; replace hx153_1 := (HB.out.cell (World.block_lt_of_cell? w _ hx153_1)).trans hx153_1; replace hx153_0 := (cell_far (p := ⟨gb152, 0, none⟩) (by first | (rw [add_block]; exact hn153_0) | (show (Addr.add _ _).block ≠ _; rw [add_block]; exact hn153_0) | exact hn153_0) (.int .i64 ((rd_T59 l2 x8_1).f0))).trans hx153_0; replace hx153_1 := (cell_far (p := ⟨gb152, 0, none⟩) (by first | (rw [add_block]; exact hn153_0) | (show (Addr.add _ _).block ≠ _; rw [add_block]; exact hn153_0) | exact hn153_0) (.int .i64 ((rd_T59 l2 x8_1).f0))).trans hx153_1; replace hx153_0 := (cell_far (p := ⟨gb152, 1, none⟩) (by first | (rw [add_block]; exact hn153_1) | (show (Addr.add _ _).block ≠ _; rw [add_block]; exact hn153_1) | exact hn153_1) (.int .i64 ((rd_T59 l2 x8_1).f1))).trans hx153_0; replace hx153_1 := (cell_far (p := ⟨gb152, 1, none⟩) (by first | (rw [add_block]; exact hn153_1) | (show (Addr.add _ _).block ≠ _; rw [add_block]; exact hn153_1) | exact hn153_1) (.int .i64 ((rd_T59 l2 x8_1).f1))).trans hx153_1; (try have hy153_0 := fun (n_ : Nat) => (show ((((w36.drewN n_).setCell ⟨gb152, 0, none⟩ (.int .i64 ((rd_T59 l2 x8_1).f0))).setCell ⟨gb152, 1, none⟩ (.int .i64 ((rd_T59 l2 x8_1).f1)))).cell? _ = some _ from hx153_0)); (try have hy153_1 := fun (n_ : Nat) => (show ((((w36.drewN n_).setCell ⟨gb152, 0, none⟩ (.int .i64 ((rd_T59 l2 x8_1).f0))).setCell ⟨gb152, 1, none⟩ (.int .i64 ((rd_T59 l2 x8_1).f1)))).cell? _ = some _ from hx153_1)); clear hn153_0; clear hn153_1; replace p153 := eq_true p153; replace q153 := eq_true q153)); try go_wp2_with (first | ((with_reducible refine gate_dst (N := 9) rfl ?_); refine box_event ?hg (N := 9) ?hd (cs := #[.int .i64 0, .int .i64 0]) (t := 59) ?hr ?_; (case hd => rfl); (case hg => rfl); (case hr => first | (go_simp; done) | (go_simp; rfl)); intro gb152 hg w36 hbox hb; have n0_ := Aside0.mk (below_step (by repeat (first | (with_reducible first | exact HB.out | apply below_alloc | apply pw_below_drewN | apply below_drew1) | exact HB.out)) hb); have n1_ := Aside0.mk (hbox); have n2_ := Aside0.mk ((by rw [hg]; exact (below_size (by repeat (first | (with_reducible first | exact HB.out | apply below_alloc | apply pw_below_drewN | apply below_drew1) | exact HB.out))) : w.heap.size ≤ gb152)); have n3_ := Aside0.mk ((by rw [hg]; exact (below_size (by repeat (first | (with_reducible first | exact HB.out | apply below_alloc | apply pw_below_drewN | apply below_drew1) | exact HB.out))) : w.heap.size ≤ gb152)); clear HB; have HB := n0_; have BK152 := n1_; have GW152 := n2_; have GE152 := n3_; clear n0_ n1_ n2_ n3_; clear hb hbox hg; have hcz37_0 : w36.cell? ⟨gb152, 0, none⟩ = some (.int .i64 0) := (blk_cell BK152.out 0).trans rfl; have hcz37_1 : w36.cell? ⟨gb152, 1, none⟩ = some (.int .i64 0) := (blk_cell BK152.out 1).trans rfl; have hfz37_0 := blk_frozen BK152.out 0; have hfz37_1 := blk_frozen BK152.out 1; have p153 : 0 ≤ ((ji26) : Int) := of_decide_eq_true (by first | (with_reducible assumption) | assumption); have q153 : (ji26) < (l2.length : Int) := of_decide_eq_true (by first | (with_reducible assumption) | assumption); obtain ⟨ad153, e153, hx153_0, hx153_1⟩ := at_T59 HR2.out (ji26) p153 q153; obtain rfl : ad151 = ad153 := (by injection e153); have hn153_0 : ad151.block ≠ gb152 := Nat.ne_of_lt (Nat.lt_of_lt_of_le (by have := World.block_lt_of_cell? _ _ hx153_0; first | rwa [add_block] at this | exact this) GW152.out); have hn153_1 : ad151.block ≠ gb152 := Nat.ne_of_lt (Nat.lt_of_lt_of_le (by have := World.block_lt_of_cell? _ _ hx153_0; first | rwa [add_block] at this | exact this) GW152.out); replace hx153_0 := (HB.out.cell (World.block_lt_of_cell? w _ hx153_0)).trans hx153_0; replace hx153_1 := (HB.out.cell (World.block_lt_of_cell? w _ hx153_1)).trans hx153_1; replace hx153_0 := (cell_far (p := ⟨gb152, 0, none⟩) (by first | (rw [add_block]; exact hn153_0) | (show (Addr.add _ _).block ≠ _; rw [add_block]; exact hn153_0) | exact hn153_0) (.int .i64 ((rd_T59 l2 x8_1).f0))).trans hx153_0; replace hx153_1 := (cell_far (p := ⟨gb152, 0, none⟩) (by first | (rw [add_block]; exact hn153_0) | (show (Addr.add _ _).block ≠ _; rw [add_block]; exact hn153_0) | exact hn153_0) (.int .i64 ((rd_T59 l2 x8_1).f0))).trans hx153_1; replace hx153_0 := (cell_far (p := ⟨gb152, 1, none⟩) (by first | (rw [add_block]; exact hn153_1) | (show (Addr.add _ _).block ≠ _; rw [add_block]; exact hn153_1) | exact hn153_1) (.int .i64 ((rd_T59 l2 x8_1).f1))).trans hx153_0; replace hx153_1 := (cell_far (p := ⟨gb152, 1, none⟩) (by first | (rw [add_block]; exact hn153_1) | (show (Addr.add _ _).block ≠ _; rw [add_block]; exact hn153_1) | exact hn153_1) (.int .i64 ((rd_T59 l2 x8_1).f1))).trans hx153_1; (try have hy153_0 := fun (n_ : Nat) => (show ((((w36.drewN n_).setCell ⟨gb152, 0, none⟩ (.int .i64 ((rd_T59 l2 x8_1).f0))).setCell ⟨gb152, 1, none⟩ (.int .i64 ((rd_T59 l2 x8_1).f1)))).cell? _ = some _ from hx153_0)); (try have hy153_1 := fun (n_ : Nat) => (show ((((w36.drewN n_).setCell ⟨gb152, 0, none⟩ (.int .i64 ((rd_T59 l2 x8_1).f0))).setCell ⟨gb152, 1, none⟩ (.int .i64 ((rd_T59 l2 x8_1).f1)))).cell? _ = some _ from hx153_1)); clear hn153_0; clear hn153_1; replace p153 := eq_true p153; replace q153 := eq_true q153)))
                                go_roundg k1
                                case measure => have := HK1.out; omega
                                case rel => exact ⟨(wrap64 (x7_1 + (wrap64 ((ji33) + (ji35))))), (wrap64 (x8_1 + 1)), (by first | rfl | (simp; done) | (simp only [← hji33, ← hji35] <;> (first | rfl | simp)) | (simp [*]; done)), (by first | rfl | (simp; done) | (simp [*]; done)), H', ⟨by have := HK1.out; omega⟩, ⟨by repeat (first | (with_reducible first | exact HB.out | apply below_alloc | apply pw_below_drewN | apply below_drew1 | refine below_set ?_ GE152.out) | exact HB.out)⟩⟩
                            · rw [if_neg c28] at H
                              exact absurd H (by simp)
                          · rw [if_neg c27] at H
                            exact absurd H (by simp)
                        · rw [if_neg c25] at H
                          have c25b0 : decide (0 < x8_1) = false := decide_eq_false c25
                          clear c25
                          have c38b0 := eq_true (of_decide_eq_true (by first | (with_reducible assumption) | assumption) : 0 ≤ ((rd_T59 l2 x8_1).f0))
                          obtain ⟨ji39, hji39⟩ : ∃ j_ : Int, (shl .i64 1 ((rd_T59 l2 x8_1).f0)) = j_ := ⟨_, rfl⟩
                          replace H : (drovewayref04_isPairing.l0 k1 a0 l1 l2 (wrap64 (x7_1 + (wrap64 ((ji39) + (shl .i64 1 ((rd_T59 l2 x8_1).f1)))))) (wrap64 (x8_1 + 1))) = some r := by first | (rw [hji39] at H; exact H) | (simp only [hji39] at H ⊢; exact H)
                          have hji39_ : (IntKind.i64.wrap (1 * 2 ^ min ((rd_T59 l2 x8_1).f0).toNat 64)) = ji39 := hji39
                          have hji39z : ((rd_T59 l2 x8_1).f0) ≤ 64 → (IntKind.i64.wrap (1 * 2 ^ ((rd_T59 l2 x8_1).f0).toNat)) = ji39 := shl_small hji39
                          have hji39u : (IntKind.i64.wrap (2 ^ min ((rd_T59 l2 x8_1).f0).toNat 64)) = ji39 := by have h_ := hji39_; rw [Int.one_mul] at h_; exact h_
                          have hji39v : ((rd_T59 l2 x8_1).f0) ≤ 64 → (IntKind.i64.wrap (2 ^ ((rd_T59 l2 x8_1).f0).toNat)) = ji39 := fun hle_ => by have h_ := hji39z hle_; rw [Int.one_mul] at h_; exact h_
                          have hji39y : (wrap64 (1 * 2 ^ min ((rd_T59 l2 x8_1).f0).toNat 64)) = ji39 := (i64_w _).symm.trans hji39_
                          have hji39x : ((rd_T59 l2 x8_1).f0) ≤ 64 → (wrap64 (1 * 2 ^ ((rd_T59 l2 x8_1).f0).toNat)) = ji39 := fun h_ => (i64_w _).symm.trans (hji39z h_)
                          have c40b0 := eq_true (of_decide_eq_true (by first | (with_reducible assumption) | assumption) : 0 ≤ ((rd_T59 l2 x8_1).f1))
                          obtain ⟨ji41, hji41⟩ : ∃ j_ : Int, (shl .i64 1 ((rd_T59 l2 x8_1).f1)) = j_ := ⟨_, rfl⟩
                          replace H : (drovewayref04_isPairing.l0 k1 a0 l1 l2 (wrap64 (x7_1 + (wrap64 ((ji39) + (ji41))))) (wrap64 (x8_1 + 1))) = some r := by first | (rw [hji41] at H; exact H) | (simp only [hji41] at H ⊢; exact H)
                          have hji41_ : (IntKind.i64.wrap (1 * 2 ^ min ((rd_T59 l2 x8_1).f1).toNat 64)) = ji41 := hji41
                          have hji41z : ((rd_T59 l2 x8_1).f1) ≤ 64 → (IntKind.i64.wrap (1 * 2 ^ ((rd_T59 l2 x8_1).f1).toNat)) = ji41 := shl_small hji41
                          have hji41u : (IntKind.i64.wrap (2 ^ min ((rd_T59 l2 x8_1).f1).toNat 64)) = ji41 := by have h_ := hji41_; rw [Int.one_mul] at h_; exact h_
                          have hji41v : ((rd_T59 l2 x8_1).f1) ≤ 64 → (IntKind.i64.wrap (2 ^ ((rd_T59 l2 x8_1).f1).toNat)) = ji41 := fun hle_ => by have h_ := hji41z hle_; rw [Int.one_mul] at h_; exact h_
                          have hji41y : (wrap64 (1 * 2 ^ min ((rd_T59 l2 x8_1).f1).toNat 64)) = ji41 := (i64_w _).symm.trans hji41_
                          have hji41x : ((rd_T59 l2 x8_1).f1) ≤ 64 → (wrap64 (1 * 2 ^ ((rd_T59 l2 x8_1).f1).toNat)) = ji41 := fun h_ => (i64_w _).symm.trans (hji41z h_)
                          have H' := Aside0.mk H
                          clear H
                          have p151 : 0 ≤ (x8_1 : Int) := of_decide_eq_true (by first | (with_reducible assumption) | assumption)
                          have q151 : x8_1 < (l2.length : Int) := of_decide_eq_true (by first | (with_reducible assumption) | assumption)
                          obtain ⟨ad151, e151, hx151_0, hx151_1⟩ := at_T59 HR2.out x8_1 p151 q151
                          cases e151
                          replace hx151_0 := (HB.out.cell (World.block_lt_of_cell? w _ hx151_0)).trans hx151_0
                          replace hx151_1 := (HB.out.cell (World.block_lt_of_cell? w _ hx151_1)).trans hx151_1
                          replace p151 := eq_true p151
                          replace q151 := eq_true q151
                          go_wp2_with (first | ((with_reducible refine gate_dst (N := 9) rfl ?_); refine box_event ?hg (N := 9) ?hd (cs := #[.int .i64 0, .int .i64 0]) (t := 59) ?hr ?_; (case hd => rfl); (case hg => rfl); (case hr => first | (go_simp; done) | (go_simp; rfl)); intro gb152 hg w42 hbox hb; have n0_ := Aside0.mk (below_step (by repeat (first | (with_reducible first | exact HB.out | apply below_alloc | apply pw_below_drewN | apply below_drew1) | exact HB.out)) hb); have n1_ := Aside0.mk (hbox); have n2_ := Aside0.mk ((by rw [hg]; exact (below_size (by repeat (first | (with_reducible first | exact HB.out | apply below_alloc | apply pw_below_drewN | apply below_drew1) | exact HB.out))) : w.heap.size ≤ gb152)); have n3_ := Aside0.mk ((by rw [hg]; exact (below_size (by repeat (first | (with_reducible first | exact HB.out | apply below_alloc | apply pw_below_drewN | apply below_drew1) | exact HB.out))) : w.heap.size ≤ gb152)); clear HB; have HB := n0_; have BK152 := n1_; have GW152 := n2_; have GE152 := n3_; clear n0_ n1_ n2_ n3_; clear hb hbox hg; have hcz43_0 : w42.cell? ⟨gb152, 0, none⟩ = some (.int .i64 0) := (blk_cell BK152.out 0).trans rfl; have hcz43_1 : w42.cell? ⟨gb152, 1, none⟩ = some (.int .i64 0) := (blk_cell BK152.out 1).trans rfl; have hfz43_0 := blk_frozen BK152.out 0; have hfz43_1 := blk_frozen BK152.out 1))
                          repeat (go_quiet (first | ((with_reducible refine gate_dst (N := 9) rfl ?_); refine box_event ?hg (N := 9) ?hd (cs := #[.int .i64 0, .int .i64 0]) (t := 59) ?hr ?_; (case hd => rfl); (case hg => rfl); (case hr => first | (go_simp; done) | (go_simp; rfl)); intro gb152 hg w42 hbox hb; have n0_ := Aside0.mk (below_step (by repeat (first | (with_reducible first | exact HB.out | apply below_alloc | apply pw_below_drewN | apply below_drew1) | exact HB.out)) hb); have n1_ := Aside0.mk (hbox); have n2_ := Aside0.mk ((by rw [hg]; exact (below_size (by repeat (first | (with_reducible first | exact HB.out | apply below_alloc | apply pw_below_drewN | apply below_drew1) | exact HB.out))) : w.heap.size ≤ gb152)); have n3_ := Aside0.mk ((by rw [hg]; exact (below_size (by repeat (first | (with_reducible first | exact HB.out | apply below_alloc | apply pw_below_drewN | apply below_drew1) | exact HB.out))) : w.heap.size ≤ gb152)); clear HB; have HB := n0_; have BK152 := n1_; have GW152 := n2_; have GE152 := n3_; clear n0_ n1_ n2_ n3_; clear hb hbox hg; have hcz43_0 : w42.cell? ⟨gb152, 0, none⟩ = some (.int .i64 0) := (blk_cell BK152.out 0).trans rfl; have hcz43_1 : w42.cell? ⟨gb152, 1, none⟩ = some (.int .i64 0) := (blk_cell BK152.out 1).trans rfl; have hfz43_0 := blk_frozen BK152.out 0; have hfz43_1 := blk_frozen BK152.out 1)); try go_wp2_with (first | ((with_reducible refine gate_dst (N := 9) rfl ?_); refine box_event ?hg (N := 9) ?hd (cs := #[.int .i64 0, .int .i64 0]) (t := 59) ?hr ?_; (case hd => rfl); (case hg => rfl); (case hr => first | (go_simp; done) | (go_simp; rfl)); intro gb152 hg w42 hbox hb; have n0_ := Aside0.mk (below_step (by repeat (first | (with_reducible first | exact HB.out | apply below_alloc | apply pw_below_drewN | apply below_drew1) | exact HB.out)) hb); have n1_ := Aside0.mk (hbox); have n2_ := Aside0.mk ((by rw [hg]; exact (below_size (by repeat (first | (with_reducible first | exact HB.out | apply below_alloc | apply pw_below_drewN | apply below_drew1) | exact HB.out))) : w.heap.size ≤ gb152)); have n3_ := Aside0.mk ((by rw [hg]; exact (below_size (by repeat (first | (with_reducible first | exact HB.out | apply below_alloc | apply pw_below_drewN | apply below_drew1) | exact HB.out))) : w.heap.size ≤ gb152)); clear HB; have HB := n0_; have BK152 := n1_; have GW152 := n2_; have GE152 := n3_; clear n0_ n1_ n2_ n3_; clear hb hbox hg; have hcz43_0 : w42.cell? ⟨gb152, 0, none⟩ = some (.int .i64 0) := (blk_cell BK152.out 0).trans rfl; have hcz43_1 : w42.cell? ⟨gb152, 1, none⟩ = some (.int .i64 0) := (blk_cell BK152.out 1).trans rfl; have hfz43_0 := blk_frozen BK152.out 0; have hfz43_1 := blk_frozen BK152.out 1)))
                          go_roundg k1
                          case measure => have := HK1.out; omega
                          case rel => exact ⟨(wrap64 (x7_1 + (wrap64 ((ji39) + (ji41))))), (wrap64 (x8_1 + 1)), (by first | rfl | (simp; done) | (simp only [← hji39, ← hji41] <;> (first | rfl | simp)) | (simp [*]; done)), (by first | rfl | (simp; done) | (simp [*]; done)), H', ⟨by have := HK1.out; omega⟩, ⟨by repeat (first | (with_reducible first | exact HB.out | apply below_alloc | apply pw_below_drewN | apply below_drew1 | refine below_set ?_ GE152.out) | exact HB.out)⟩⟩
                    · rw [if_neg c20] at H
                      exact absurd H (by simp)
                · rw [if_neg c15] at H
                  exact absurd H (by simp)
        · rw [if_neg c5] at H
          exact absurd H (by simp)
      · rw [if_neg c4] at H
        have c4b0 : decide (x8_1 < (l2.length : Int)) = false := decide_eq_false c4
        clear c4
        have H' := Aside0.mk H
        clear H
        go_wp2
        repeat (go_quiet (fail); try go_wp2)
        go_loopg [10] k1 (fun kq v10 w' => ∃ (x10_2 : Int), v10 = .int .i64 x10_2 ∧ Aside0 (drovewayref04_isPairing.l1 kq l1 l2 x10_2 = some r) ∧ Aside0 (kq ≤ k1) ∧ Aside0 (Below w.heap.size w w'))
        case atStart => exact ⟨(0), (by first | rfl | (simp; done) | (simp [*]; done)), H', ⟨Nat.le_refl _⟩, ⟨by repeat (first | (with_reducible first | exact HB.out | apply below_alloc | apply pw_below_drewN | apply below_drew1) | exact HB.out)⟩⟩
        case round =>
          clear H'
          try clear c1
          try clear p1
          try clear q1
          try clear hx1
          try clear c2
          try clear p2
          try clear c3
          try clear c4
          try clear c4b0
          try clear c5
          try clear c5b0
          try clear c6
          try clear c6b0
          try clear p6
          try clear c9
          try clear c9b0
          try clear c12
          try clear c12b0
          try clear c15
          try clear c15b0
          try clear c15b1
          try clear p15
          try clear q15
          try clear hx15
          try clear c17
          try clear c17b0
          try clear c17b1
          try clear c20
          try clear c20b0
          try clear c20b1
          try clear c22
          try clear c22b0
          try clear c22b1
          try clear c25
          try clear c25b0
          try clear c27
          try clear c27b0
          try clear c28
          try clear c28b0
          try clear c29
          try clear c29b0
          try clear c32
          try clear c32b0
          try clear c34
          try clear c34b0
          try clear c38
          try clear c38b0
          try clear c40
          try clear c40b0
          try clear hcz11_0
          try clear hcz11_1
          try clear hcz14_0
          try clear hcz14_1
          try clear hcz19_0
          try clear hcz19_1
          try clear hcz24_0
          try clear hcz24_1
          try clear hcz31_0
          try clear hcz31_1
          try clear hcz37_0
          try clear hcz37_1
          try clear hcz43_0
          try clear hcz43_1
          try clear hcz8_0
          try clear hcz8_1
          try clear hfz11_0
          try clear hfz11_1
          try clear hfz14_0
          try clear hfz14_1
          try clear hfz19_0
          try clear hfz19_1
          try clear hfz24_0
          try clear hfz24_1
          try clear hfz31_0
          try clear hfz31_1
          try clear hfz37_0
          try clear hfz37_1
          try clear hfz43_0
          try clear hfz43_1
          try clear hfz8_0
          try clear hfz8_1
          try clear hx151_0
          try clear hx151_1
          try clear hx153_0
          try clear hx153_1
          try clear p151
          try clear p153
          try clear p2
          try clear q151
          try clear q153
          obtain ⟨x10_2, rfl, HA, HK2, HB⟩ := hrel
          cases gk with
          | zero => exact absurd HA.out (by simp [drovewayref04_isPairing.l1])
          | succ k2 =>
            have H := HA.out
            clear HA
            simp only [drovewayref04_isPairing.l1] at H
            by_cases c44 : x10_2 < (l1.length : Int)
            · rw [if_pos c44] at H
              have c44b0 : decide (x10_2 < (l1.length : Int)) = true := decide_eq_true c44
              clear c44
              have H' := Aside0.mk H
              clear H
              go_wp2
              repeat (go_quiet (fail); try go_wp2)
              go_loopg [11, 12] k2 (fun kq v11 v12 w' => ∃ (x11_3 : Bool) (x12_3 : Int), v11 = .bool x11_3 ∧ v12 = .int .i64 x12_3 ∧ Aside0 (drovewayref04_isPairing.l2 kq l1 l2 x10_2 x11_3 x12_3 = some r) ∧ Aside0 (kq ≤ k2) ∧ Aside0 (Below w.heap.size w w'))
              case atStart => exact ⟨(false), (0), (by first | rfl | (simp; done) | (simp [*]; done)), (by first | rfl | (simp; done) | (simp [*]; done)), H', ⟨Nat.le_refl _⟩, ⟨by repeat (first | (with_reducible first | exact HB.out | apply below_alloc | apply pw_below_drewN | apply below_drew1) | exact HB.out)⟩⟩
              case round =>
                clear H'
                try clear c1
                try clear p1
                try clear q1
                try clear hx1
                try clear c2
                try clear p2
                try clear c3
                try clear c4
                try clear c4b0
                try clear c5
                try clear c5b0
                try clear c6
                try clear c6b0
                try clear p6
                try clear c9
                try clear c9b0
                try clear c12
                try clear c12b0
                try clear c15
                try clear c15b0
                try clear c15b1
                try clear p15
                try clear q15
                try clear hx15
                try clear c17
                try clear c17b0
                try clear c17b1
                try clear c20
                try clear c20b0
                try clear c20b1
                try clear c22
                try clear c22b0
                try clear c22b1
                try clear c25
                try clear c25b0
                try clear c27
                try clear c27b0
                try clear c28
                try clear c28b0
                try clear c29
                try clear c29b0
                try clear c32
                try clear c32b0
                try clear c34
                try clear c34b0
                try clear c38
                try clear c38b0
                try clear c40
                try clear c40b0
                try clear c44
                try clear c44b0
                try clear hcz11_0
                try clear hcz11_1
                try clear hcz14_0
                try clear hcz14_1
                try clear hcz19_0
                try clear hcz19_1
                try clear hcz24_0
                try clear hcz24_1
                try clear hcz31_0
                try clear hcz31_1
                try clear hcz37_0
                try clear hcz37_1
                try clear hcz43_0
                try clear hcz43_1
                try clear hcz8_0
                try clear hcz8_1
                try clear hfz11_0
                try clear hfz11_1
                try clear hfz14_0
                try clear hfz14_1
                try clear hfz19_0
                try clear hfz19_1
                try clear hfz24_0
                try clear hfz24_1
                try clear hfz31_0
                try clear hfz31_1
                try clear hfz37_0
                try clear hfz37_1
                try clear hfz43_0
                try clear hfz43_1
                try clear hfz8_0
                try clear hfz8_1
                try clear hx151_0
                try clear hx151_1
                try clear hx153_0
                try clear hx153_1
                try clear p1
                try clear p15
                try clear p151
                try clear p153
                try clear p2
                try clear p6
                try clear q1
                try clear q15
                try clear q151
                try clear q153
                obtain ⟨x11_3, x12_3, rfl, rfl, HA, HK3, HB⟩ := hrel
                cases gk with
                | zero => exact absurd HA.out (by simp [drovewayref04_isPairing.l2])
                | succ k3 =>
                  have H := HA.out
                  clear HA
                  simp only [drovewayref04_isPairing.l2] at H
                  by_cases c45 : x12_3 < (l2.length : Int)
                  · rw [if_pos c45] at H
                    have c45b0 : decide (x12_3 < (l2.length : Int)) = true := decide_eq_true c45
                    clear c45
                    by_cases c46 : x11_3 = true
                    · subst c46
                      have H1 : (drovewayref04_isPairing.l2 k3 l1 l2 x10_2 true (wrap64 (x12_3 + 1))) = some r := by rw [if_pos rfl] at H; exact H
                      clear H
                      have H := H1
                      clear H1
                      have H' := Aside0.mk H
                      clear H
                      go_wp2
                      repeat (go_quiet (fail); try go_wp2)
                      go_roundg k3
                      case measure => have := HK1.out; have := HK2.out; have := HK3.out; omega
                      case rel => exact ⟨(true), (wrap64 (x12_3 + 1)), (by first | rfl | (simp; done) | (simp [*]; done)), (by first | rfl | (simp; done) | (simp [*]; done)), H', ⟨by have := HK1.out; have := HK2.out; have := HK3.out; omega⟩, ⟨by repeat (first | (with_reducible first | exact HB.out | apply below_alloc | apply pw_below_drewN | apply below_drew1) | exact HB.out)⟩⟩
                    · replace c46 := Bool.eq_false_iff.mpr c46
                      subst c46
                      have H1 : (if 0 ≤ x10_2 then (if x10_2 < (l1.length : Int) then (if 0 ≤ x12_3 then (if 0 ≤ ((rd_T59 l2 x12_3).f0) then (if (Int.tmod (shr .i64 (rd l1 x10_2) ((rd_T59 l2 x12_3).f0)) 2) = 1 then (if 0 ≤ ((rd_T59 l2 x12_3).f1) then (drovewayref04_isPairing.l2 k3 l1 l2 x10_2 ((Int.tmod (shr .i64 (rd l1 x10_2) ((rd_T59 l2 x12_3).f1)) 2) == 1) (wrap64 (x12_3 + 1))) else (none)) else (drovewayref04_isPairing.l2 k3 l1 l2 x10_2 false (wrap64 (x12_3 + 1)))) else (none)) else (none)) else (none)) else (none)) = some r := by rw [if_neg (show ¬ (false = true) by decide)] at H; exact H
                      clear H
                      have H := H1
                      clear H1
                      by_cases c47 : 0 ≤ x10_2
                      · rw [if_pos c47] at H
                        have c47b0 : decide (0 ≤ x10_2) = true := decide_eq_true c47
                        clear c47
                        by_cases c48 : x10_2 < (l1.length : Int)
                        · rw [if_pos c48] at H
                          have c48b0 : decide (x10_2 < (l1.length : Int)) = true := decide_eq_true c48
                          clear c48
                          by_cases c49 : 0 ≤ x12_3
                          · rw [if_pos c49] at H
                            have c49b0 : decide (0 ≤ x12_3) = true := decide_eq_true c49
                            clear c49
                            by_cases c50 : 0 ≤ ((rd_T59 l2 x12_3).f0)
                            · rw [if_pos c50] at H
                              have c50b0 := eq_true c50
                              have c50b1 : decide (0 ≤ ((rd_T59 l2 x12_3).f0)) = true := decide_eq_true c50
                              clear c50
                              obtain ⟨ji51, hji51⟩ : ∃ j_ : Int, (shr .i64 (rd l1 x10_2) ((rd_T59 l2 x12_3).f0)) = j_ := ⟨_, rfl⟩
                              replace H : (if (Int.tmod (ji51) 2) = 1 then (if 0 ≤ ((rd_T59 l2 x12_3).f1) then (drovewayref04_isPairing.l2 k3 l1 l2 x10_2 ((Int.tmod (shr .i64 (rd l1 x10_2) ((rd_T59 l2 x12_3).f1)) 2) == 1) (wrap64 (x12_3 + 1))) else (none)) else (drovewayref04_isPairing.l2 k3 l1 l2 x10_2 false (wrap64 (x12_3 + 1)))) = some r := by first | (rw [hji51] at H; exact H) | (simp only [hji51] at H ⊢; exact H)
                              have hji51_ : ((rd l1 x10_2) / 2 ^ min ((rd_T59 l2 x12_3).f0).toNat 64) = ji51 := hji51
                              have hji51z : ((rd_T59 l2 x12_3).f0) ≤ 64 → ((rd l1 x10_2) / 2 ^ ((rd_T59 l2 x12_3).f0).toNat) = ji51 := shr_small hji51
                              by_cases c52 : (Int.tmod (ji51) 2) = 1
                              · rw [if_pos c52] at H
                                have c52b0 : ((Int.tmod (ji51) 2) == 1) = true := beq_iff_eq.mpr c52
                                have c52b1 : ((Int.tmod (ji51) 2) != 1) = false := bne_eq_false_iff_eq.mpr c52
                                clear c52
                                by_cases c53 : 0 ≤ ((rd_T59 l2 x12_3).f1)
                                · rw [if_pos c53] at H
                                  have c53b0 := eq_true c53
                                  have c53b1 : decide (0 ≤ ((rd_T59 l2 x12_3).f1)) = true := decide_eq_true c53
                                  clear c53
                                  obtain ⟨ji54, hji54⟩ : ∃ j_ : Int, (shr .i64 (rd l1 x10_2) ((rd_T59 l2 x12_3).f1)) = j_ := ⟨_, rfl⟩
                                  replace H : (drovewayref04_isPairing.l2 k3 l1 l2 x10_2 ((Int.tmod (ji54) 2) == 1) (wrap64 (x12_3 + 1))) = some r := by first | (rw [hji54] at H; exact H) | (simp only [hji54] at H ⊢; exact H)
                                  have hji54_ : ((rd l1 x10_2) / 2 ^ min ((rd_T59 l2 x12_3).f1).toNat 64) = ji54 := hji54
                                  have hji54z : ((rd_T59 l2 x12_3).f1) ≤ 64 → ((rd l1 x10_2) / 2 ^ ((rd_T59 l2 x12_3).f1).toNat) = ji54 := shr_small hji54
                                  have H' := Aside0.mk H
                                  clear H
                                  have p154 : 0 ≤ (x10_2 : Int) := of_decide_eq_true (by first | (with_reducible assumption) | assumption)
                                  have q154 : x10_2 < (l1.length : Int) := of_decide_eq_true (by first | (with_reducible assumption) | assumption)
                                  obtain ⟨ad154, e154, hx154_0⟩ := Kd.at_int HR1.out x10_2 p154 q154
                                  cases e154
                                  replace hx154_0 := (HB.out.cell (World.block_lt_of_cell? w _ hx154_0)).trans hx154_0
                                  replace p154 := eq_true p154
                                  replace q154 := eq_true q154
                                  have p155 : 0 ≤ (x12_3 : Int) := of_decide_eq_true (by first | (with_reducible assumption) | assumption)
                                  have q155 : x12_3 < (l2.length : Int) := of_decide_eq_true (by first | (with_reducible assumption) | assumption)
                                  obtain ⟨ad155, e155, hx155_0, hx155_1⟩ := at_T59 HR2.out x12_3 p155 q155
                                  cases e155
                                  replace hx155_0 := (HB.out.cell (World.block_lt_of_cell? w _ hx155_0)).trans hx155_0
                                  replace hx155_1 := (HB.out.cell (World.block_lt_of_cell? w _ hx155_1)).trans hx155_1
                                  replace p155 := eq_true p155
                                  replace q155 := eq_true q155
                                  have p156 : 0 ≤ (x10_2 : Int) := of_decide_eq_true (by first | (with_reducible assumption) | assumption)
                                  have q156 : x10_2 < (l1.length : Int) := of_decide_eq_true (by first | (with_reducible assumption) | assumption)
                                  obtain ⟨ad156, e156, hx156_0⟩ := Kd.at_int HR1.out x10_2 p156 q156
                                  obtain rfl : ad154 = ad156 := (by injection e156)
                                  replace hx156_0 := (HB.out.cell (World.block_lt_of_cell? w _ hx156_0)).trans hx156_0
                                  replace p156 := eq_true p156
                                  replace q156 := eq_true q156
                                  have p157 : 0 ≤ (x12_3 : Int) := of_decide_eq_true (by first | (with_reducible assumption) | assumption)
                                  have q157 : x12_3 < (l2.length : Int) := of_decide_eq_true (by first | (with_reducible assumption) | assumption)
                                  obtain ⟨ad157, e157, hx157_0, hx157_1⟩ := at_T59 HR2.out x12_3 p157 q157
                                  obtain rfl : ad155 = ad157 := (by injection e157)
                                  replace hx157_0 := (HB.out.cell (World.block_lt_of_cell? w _ hx157_0)).trans hx157_0
                                  replace hx157_1 := (HB.out.cell (World.block_lt_of_cell? w _ hx157_1)).trans hx157_1
                                  replace p157 := eq_true p157
                                  replace q157 := eq_true q157
                                  go_wp2
                                  repeat (go_quiet (fail); try go_wp2)
                                  go_roundg k3
                                  case measure => have := HK1.out; have := HK2.out; have := HK3.out; omega
                                  case rel => exact ⟨(((Int.tmod (ji54) 2) == 1)), (wrap64 (x12_3 + 1)), (by first | rfl | (simp; done) | (simp only [← hji54] <;> (first | rfl | simp)) | (simp [*]; done)), (by first | rfl | (simp; done) | (simp [*]; done)), H', ⟨by have := HK1.out; have := HK2.out; have := HK3.out; omega⟩, ⟨by repeat (first | (with_reducible first | exact HB.out | apply below_alloc | apply pw_below_drewN | apply below_drew1) | exact HB.out)⟩⟩
                                · rw [if_neg c53] at H
                                  exact absurd H (by simp)
                              · rw [if_neg c52] at H
                                have c52b0 : ((Int.tmod (ji51) 2) == 1) = false := beq_eq_false_iff_ne.mpr c52
                                have c52b1 : ((Int.tmod (ji51) 2) != 1) = true := bne_iff_ne.mpr c52
                                have H' := Aside0.mk H
                                clear H
                                have p154 : 0 ≤ (x10_2 : Int) := of_decide_eq_true (by first | (with_reducible assumption) | assumption)
                                have q154 : x10_2 < (l1.length : Int) := of_decide_eq_true (by first | (with_reducible assumption) | assumption)
                                obtain ⟨ad154, e154, hx154_0⟩ := Kd.at_int HR1.out x10_2 p154 q154
                                cases e154
                                replace hx154_0 := (HB.out.cell (World.block_lt_of_cell? w _ hx154_0)).trans hx154_0
                                replace p154 := eq_true p154
                                replace q154 := eq_true q154
                                have p155 : 0 ≤ (x12_3 : Int) := of_decide_eq_true (by first | (with_reducible assumption) | assumption)
                                have q155 : x12_3 < (l2.length : Int) := of_decide_eq_true (by first | (with_reducible assumption) | assumption)
                                obtain ⟨ad155, e155, hx155_0, hx155_1⟩ := at_T59 HR2.out x12_3 p155 q155
                                cases e155
                                replace hx155_0 := (HB.out.cell (World.block_lt_of_cell? w _ hx155_0)).trans hx155_0
                                replace hx155_1 := (HB.out.cell (World.block_lt_of_cell? w _ hx155_1)).trans hx155_1
                                replace p155 := eq_true p155
                                replace q155 := eq_true q155
                                go_wp2
                                repeat (go_quiet (fail); try go_wp2)
                                go_roundg k3
                                case measure => have := HK1.out; have := HK2.out; have := HK3.out; omega
                                case rel => exact ⟨(false), (wrap64 (x12_3 + 1)), (by first | rfl | (simp; done) | (simp [*]; done)), (by first | rfl | (simp; done) | (simp [*]; done)), H', ⟨by have := HK1.out; have := HK2.out; have := HK3.out; omega⟩, ⟨by repeat (first | (with_reducible first | exact HB.out | apply below_alloc | apply pw_below_drewN | apply below_drew1) | exact HB.out)⟩⟩
                            · rw [if_neg c50] at H
                              exact absurd H (by simp)
                          · rw [if_neg c49] at H
                            exact absurd H (by simp)
                        · rw [if_neg c48] at H
                          exact absurd H (by simp)
                      · rw [if_neg c47] at H
                        exact absurd H (by simp)
                  · rw [if_neg c45] at H
                    have c45b0 : decide (x12_3 < (l2.length : Int)) = false := decide_eq_false c45
                    clear c45
                    by_cases c55 : x11_3 = true
                    · subst c55
                      have H1 : (drovewayref04_isPairing.l1 k3 l1 l2 (wrap64 (x10_2 + 1))) = some r := by rw [if_pos rfl] at H; exact H
                      clear H
                      have H := H1
                      clear H1
                      have H' := Aside0.mk H
                      clear H
                      go_wp2
                      repeat (go_quiet (fail); try go_wp2)
                      go_roundg k3
                      case measure => have := HK1.out; have := HK2.out; have := HK3.out; omega
                      case rel => exact ⟨(wrap64 (x10_2 + 1)), (by first | rfl | (simp; done) | (simp [*]; done)), H', ⟨by have := HK1.out; have := HK2.out; have := HK3.out; omega⟩, ⟨by repeat (first | (with_reducible first | exact HB.out | apply below_alloc | apply pw_below_drewN | apply below_drew1) | exact HB.out)⟩⟩
                    · replace c55 := Bool.eq_false_iff.mpr c55
                      subst c55
                      have H1 : (some false) = some r := by rw [if_neg (show ¬ (false = true) by decide)] at H; exact H
                      clear H
                      have H := H1
                      clear H1
                      obtain rfl := Option.some.inj H
                      go_wp2
                      repeat (go_quiet (fail); try go_wp2)
                      go_ret
                      exact ⟨by first | rfl | (simp [errW_none, errW_some] <;> rfl) | (simp [*, errW_none, errW_some] <;> rfl), by repeat (first | (with_reducible first | exact HB.out | apply below_alloc | apply pw_below_drewN | apply below_drew1) | exact HB.out)⟩
            · rw [if_neg c44] at H
              have c44b0 : decide (x10_2 < (l1.length : Int)) = false := decide_eq_false c44
              clear c44
              obtain rfl := Option.some.inj H
              go_wp2
              repeat (go_quiet (fail); try go_wp2)
              go_ret
              exact ⟨by first | rfl | (simp [errW_none, errW_some] <;> rfl) | (simp [*, errW_none, errW_some] <;> rfl), by repeat (first | (with_reducible first | exact HB.out | apply below_alloc | apply pw_below_drewN | apply below_drew1) | exact HB.out)⟩

end
end Go.Proofs.Ytbjpjjokamaliaa.B

/- few, Field, Written, free, chosen, as they are called (printed). -/
namespace Go.Proofs.Ytbjpjjokamaliaa.B
open Go.Proofs.Ytbjpjjokamaliaa.A
open Go.RowKit Go.Proofs.YtbjpjjokamaliaaW.PrintWords Go.Proofs.YtbjpjjokamaliaaW.PrintLast Go.Proofs.YtbjpjjokamaliaaW.PrintMore
section
attribute [local go_sem] max2_int min2_int max_two min_two max_three min_three max_four min_four   -- for this text's walks alone
set_option linter.unusedVariables false
set_option linter.unusedSimpArgs false
attribute [local go_sem high] eqA59
theorem info3 : (Try.prog.info? 3).map (fun i => (i.zero, i.size, i.bytes)) = some (some (.int .i64 0), 1, 8) := by kernel_rfl
theorem info5 : (Try.prog.info? 5).map (fun i => (i.zero, i.size, i.bytes)) = some (some (.int .u8 0), 1, 1) := by kernel_rfl
/-! ### drovewaylaw04_few: function 11 -/
def drovewaylaw04_few.f (l0 : List Int) (a1 : ByteArray) (a2 : ByteArray) : Option (Bool) := if (l0.length : Int) ≤ 40 then (if (a1.size : Int) ≤ 40 then (some (decide ((a2.size : Int) ≤ 40))) else (some false)) else (some false)
set_option maxHeartbeats 8000000 in
set_option maxRecDepth 100000 in
theorem drovewaylaw04_few.calls (A0 : Option Addr) (c0 : Nat) (l0 : List Int) (a1 : ByteArray) (a2 : ByteArray) (r : Bool) (w : World) (hr0 : Kd.C (Kd.int .i64) w A0 l0.length l0) (hc0 : l0.length ≤ c0) (h : drovewaylaw04_few.f l0 a1 a2 = some r) :
    Calls Try.prog 11 #[.slice A0 l0.length c0, .string a1, .string a2] w fun e w' => e = .returned (.bool r) ∧ Drawn0 w w' := by
  have HR0 := Aside0.mk hr0
  have HC0 := Aside0.mk hc0
  clear hr0 hc0
  have H : (if (l0.length : Int) ≤ 40 then (if (a1.size : Int) ≤ 40 then (some (decide ((a2.size : Int) ≤ 40))) else (some false)) else (some false)) = some r := h
  clear h
  by_cases c4 : (l0.length : Int) ≤ 40
  · rw [if_pos c4] at H
    have c4b0 : decide ((l0.length : Int) ≤ 40) = true := decide_eq_true c4
    have c4b1 : decide (l0.length ≤ 40) = true := decide_eq_true (by omega)
    clear c4
    by_cases c5 : (a1.size : Int) ≤ 40
    · rw [if_pos c5] at H
      have c5b0 : decide ((a1.size : Int) ≤ 40) = true := decide_eq_true c5
      have c5b1 : decide (a1.size ≤ 40) = true := decide_eq_true (by omega)
      clear c5
      obtain rfl := Option.some.inj H
      go_enter Try.func11, Try.ntmps11
      go_wp2
      go_ret
      exact ⟨by first | rfl | (simp; done) | (simp [*]; done), by repeat (first | exact Drawn0.refl _ | apply Drawn0.step)⟩
    · rw [if_neg c5] at H
      have c5b0 : decide ((a1.size : Int) ≤ 40) = false := decide_eq_false c5
      have c5b1 : decide (a1.size ≤ 40) = false := decide_eq_false (by omega)
      clear c5
      obtain rfl := Option.some.inj H
      go_enter Try.func11, Try.ntmps11
      go_wp2
      go_ret
      exact ⟨by first | rfl | (simp; done) | (simp [*]; done), by repeat (first | exact Drawn0.refl _ | apply Drawn0.step)⟩
  · rw [if_neg c4] at H
    have c4b0 : decide ((l0.length : Int) ≤ 40) = false := decide_eq_false c4
    have c4b1 : decide (l0.length ≤ 40) = false := decide_eq_false (by omega)
    clear c4
    obtain rfl := Option.some.inj H
    go_enter Try.func11, Try.ntmps11
    go_wp2
    go_ret
    exact ⟨by first | rfl | (simp; done) | (simp [*]; done), by repeat (first | exact Drawn0.refl _ | apply Drawn0.step)⟩

-- by hand: function 14 (ambush_Winner)

-- by hand: function 20 (ambush_Needs)

-- by hand: function 21 (ambush_Danger)

-- by hand: function 26 (ambush_Pairing)

/-! ### drovewayref04_Field: function 17 -/
mutual
def drovewayref04_Field.j0 : Nat → Int → List Int → Bool → Option (Int)
  | 0, _, _, _ => none
  | k + 1, x0, x1, x11 => if x11 = true then (some 2) else (if (x1.length : Int) > 12 then (some 3) else (drovewayref04_Field.l0 k x0 x1 0))
def drovewayref04_Field.l0 : Nat → Int → List Int → Int → Option (Int)
  | 0, _, _, _ => none
  | k + 1, x0, x1, x5 => if x5 < (x1.length : Int) then (if 0 ≤ x5 then (if (rd x1 x5) < 1 then (some 2) else (if 0 ≤ x0 then (if (rd x1 x5) ≥ (shl .i64 1 x0) then (some 2) else (drovewayref04_Field.l0 k x0 x1 (wrap64 (x5 + 1)))) else (none))) else (none)) else (some 0)
end
def drovewayref04_Field.f (k : Nat) (a0 : Int) (l1 : List Int) : Option (Int) := if a0 < 1 then (drovewayref04_Field.j0 k a0 l1 true) else (drovewayref04_Field.j0 k a0 l1 (decide (a0 > 9)))
theorem drovewayref04_Field.mono_l : ∀ k, (∀ y0 y1 y2, LeO (drovewayref04_Field.j0 k y0 y1 y2) (drovewayref04_Field.j0 (k + 1) y0 y1 y2)) ∧ (∀ y0 y1 y2, LeO (drovewayref04_Field.l0 k y0 y1 y2) (drovewayref04_Field.l0 (k + 1) y0 y1 y2))
  | 0 => ⟨fun _ _ _ r h => by simp [drovewayref04_Field.j0] at h, fun _ _ _ r h => by simp [drovewayref04_Field.l0] at h⟩
  | k + 1 => by
    obtain ⟨ih0, ih1⟩ := drovewayref04_Field.mono_l k
    refine ⟨?_, ?_⟩
    · intro y0 y1 y2
      unfold drovewayref04_Field.j0
      repeat' first
      | (with_reducible exact ih0 _ _ _)
      | (with_reducible exact ih1 _ _ _)
      | (with_reducible exact LeO.refl _)
      | (with_reducible exact LeO.none _)
      | (with_reducible refine LeO.ite ?_ ?_)
      | (with_reducible refine LeO.bind ?_ (fun _ => ?_))
      | exact ih0 _ _ _
      | exact ih1 _ _ _
      | exact LeO.none _
      | refine LeO.ite ?_ ?_
      | refine LeO.bind ?_ (fun _ => ?_)
    · intro y0 y1 y2
      unfold drovewayref04_Field.l0
      repeat' first
      | (with_reducible exact ih0 _ _ _)
      | (with_reducible exact ih1 _ _ _)
      | (with_reducible exact LeO.refl _)
      | (with_reducible exact LeO.none _)
      | (with_reducible refine LeO.ite ?_ ?_)
      | (with_reducible refine LeO.bind ?_ (fun _ => ?_))
      | exact ih0 _ _ _
      | exact ih1 _ _ _
      | exact LeO.none _
      | refine LeO.ite ?_ ?_
      | refine LeO.bind ?_ (fun _ => ?_)
theorem drovewayref04_Field.mono : ∀ a0 a1 k, LeO (drovewayref04_Field.f k a0 a1) (drovewayref04_Field.f (k + 1) a0 a1) := by
  intro a0 a1 k
  obtain ⟨ih0, ih1⟩ := drovewayref04_Field.mono_l k
  unfold drovewayref04_Field.f
  repeat' first
      | (with_reducible exact ih0 _ _ _)
      | (with_reducible exact ih1 _ _ _)
      | (with_reducible exact LeO.refl _)
      | (with_reducible exact LeO.none _)
      | (with_reducible refine LeO.ite ?_ ?_)
      | (with_reducible refine LeO.bind ?_ (fun _ => ?_))
      | exact ih0 _ _ _
      | exact ih1 _ _ _
      | exact LeO.none _
      | refine LeO.ite ?_ ?_
      | refine LeO.bind ?_ (fun _ => ?_)
set_option maxHeartbeats 8000000 in
set_option maxRecDepth 100000 in
theorem drovewayref04_Field.calls (k : Nat) (a0 : Int) (A1 : Option Addr) (c1 : Nat) (l1 : List Int) (r : Int) (w : World) (hr1 : Kd.C (Kd.int .i64) w A1 l1.length l1) (hc1 : l1.length ≤ c1) (h : drovewayref04_Field.f k a0 l1 = some r) :
    Calls Try.prog 17 #[.int .i64 a0, .slice A1 l1.length c1] w fun e w' => e = .returned (.int .i64 r) ∧ Drawn0 w w' := by
  have HR1 := Aside0.mk hr1
  have HC1 := Aside0.mk hc1
  clear hr1 hc1
  have H : (if a0 < 1 then (drovewayref04_Field.j0 k a0 l1 true) else (drovewayref04_Field.j0 k a0 l1 (decide (a0 > 9)))) = some r := h
  clear h
  have HC3 := Aside0.mk H
  clear H
  go_enter Try.func17, Try.ntmps17
  go_upto_region 1 with (fail)
  repeat (go_quiet (fail); go_upto_region 1 with (fail))
  go_cut [11] (fun v11 wc => ∃ (kq : Nat) (x11_2 : Bool), v11 = .bool x11_2 ∧ Aside0 (drovewayref04_Field.j0 kq a0 l1 x11_2 = some r) ∧ Aside0 (kq ≤ k) ∧ Drawn0 w wc)
  case first =>
    have H := HC3.out
    clear HC3
    by_cases c4 : a0 < 1
    · rw [if_pos c4] at H
      have c4b0 : decide (a0 < 1) = true := decide_eq_true c4
      clear c4
      (first | rw [c4b0] | (simp only [i64_w, i32_w]; rw [c4b0]) | skip)
      have H' := Aside0.mk H
      clear H
      go_wp2
      repeat (go_quiet (fail); try go_wp2)
      go_meet
      case rel => exact ⟨_, (true), (by first | rfl | (simp; done) | (simp [*]; done)), H', ⟨by first | omega | exact Nat.le_refl _⟩, by repeat (first | exact Drawn0.refl _ | apply Drawn0.step)⟩
    · rw [if_neg c4] at H
      have c4b0 : decide (a0 < 1) = false := decide_eq_false c4
      clear c4
      (first | rw [c4b0] | (simp only [i64_w, i32_w]; rw [c4b0]) | skip)
      have H' := Aside0.mk H
      clear H
      go_wp2
      repeat (go_quiet (fail); try go_wp2)
      go_meet
      case rel => exact ⟨_, (decide (a0 > 9)), (by first | rfl | (simp; done) | (simp [*]; done)), H', ⟨by first | omega | exact Nat.le_refl _⟩, by repeat (first | exact Drawn0.refl _ | apply Drawn0.step)⟩
  case rest =>
    clear HC3
    try clear c1
    try clear p2
    try clear c4
    try clear c4b0
    obtain ⟨kq, x11_2, rfl, HA, HJ2, ⟨mc2, rfl⟩⟩ := hcut
    cases kq with
    | zero => exact absurd HA.out (by simp [drovewayref04_Field.j0])
    | succ kj2 =>
      have H := HA.out
      clear HA
      simp only [drovewayref04_Field.j0] at H
      by_cases c5 : x11_2 = true
      · subst c5
        have H1 : (some 2) = some r := by rw [if_pos rfl] at H; exact H
        clear H
        have H := H1
        clear H1
        obtain rfl := Option.some.inj H
        go_wp2
        repeat (go_quiet (fail); try go_wp2)
        go_ret
        exact ⟨by first | rfl | (simp; done) | (simp [*]; done), by repeat (first | exact Drawn0.refl _ | apply Drawn0.step)⟩
      · replace c5 := Bool.eq_false_iff.mpr c5
        subst c5
        have H1 : (if (l1.length : Int) > 12 then (some 3) else (drovewayref04_Field.l0 kj2 a0 l1 0)) = some r := by rw [if_neg (show ¬ (false = true) by decide)] at H; exact H
        clear H
        have H := H1
        clear H1
        by_cases c6 : (l1.length : Int) > 12
        · rw [if_pos c6] at H
          have c6b0 : decide (12 < (l1.length : Int)) = true := decide_eq_true c6
          have c6b1 : decide (12 < l1.length) = true := decide_eq_true (by omega)
          clear c6
          obtain rfl := Option.some.inj H
          go_wp2
          repeat (go_quiet (fail); try go_wp2)
          go_ret
          exact ⟨by first | rfl | (simp; done) | (simp [*]; done), by repeat (first | exact Drawn0.refl _ | apply Drawn0.step)⟩
        · rw [if_neg c6] at H
          have c6b0 : decide (12 < (l1.length : Int)) = false := decide_eq_false c6
          have c6b1 : decide (12 < l1.length) = false := decide_eq_false (by omega)
          clear c6
          have H' := Aside0.mk H
          clear H
          go_wp2
          repeat (go_quiet (fail); try go_wp2)
          go_loopg [5] kj2 (fun kq v5 w' => ∃ (x5_2 : Int), v5 = .int .i64 x5_2 ∧ Aside0 (drovewayref04_Field.l0 kq a0 l1 x5_2 = some r) ∧ Aside0 (kq ≤ kj2) ∧ Drawn0 w w')
          case atStart => exact ⟨(0), (by first | rfl | (simp; done) | (simp [*]; done)), H', ⟨Nat.le_refl _⟩, by repeat (first | exact Drawn0.refl _ | apply Drawn0.step)⟩
          case round =>
            clear H'
            try clear c1
            try clear c2
            try clear p2
            try clear c4
            try clear c4b0
            try clear c5
            try clear c6
            try clear c6b0
            try clear c6b1
            try clear p2
            obtain ⟨x5_2, rfl, HA, HK2, ⟨m2, rfl⟩⟩ := hrel
            cases gk with
            | zero => exact absurd HA.out (by simp [drovewayref04_Field.l0])
            | succ k2 =>
              have H := HA.out
              clear HA
              simp only [drovewayref04_Field.l0] at H
              by_cases c7 : x5_2 < (l1.length : Int)
              · rw [if_pos c7] at H
                have c7b0 : decide (x5_2 < (l1.length : Int)) = true := decide_eq_true c7
                clear c7
                by_cases c8 : 0 ≤ x5_2
                · rw [if_pos c8] at H
                  have c8b0 : decide (0 ≤ x5_2) = true := decide_eq_true c8
                  clear c8
                  by_cases c9 : (rd l1 x5_2) < 1
                  · rw [if_pos c9] at H
                    have c9b0 : decide ((rd l1 x5_2) < 1) = true := decide_eq_true c9
                    clear c9
                    obtain rfl := Option.some.inj H
                    have p134 : 0 ≤ (x5_2 : Int) := of_decide_eq_true (by first | (with_reducible assumption) | assumption)
                    have q134 : x5_2 < (l1.length : Int) := of_decide_eq_true (by first | (with_reducible assumption) | assumption)
                    obtain ⟨ad134, e134, hx134_0⟩ := Kd.at_int HR1.out x5_2 p134 q134
                    cases e134
                    replace p134 := eq_true p134
                    replace q134 := eq_true q134
                    go_wp2
                    repeat (go_quiet (fail); try go_wp2)
                    go_ret
                    exact ⟨by first | rfl | (simp; done) | (simp [*]; done), by repeat (first | exact Drawn0.refl _ | apply Drawn0.step)⟩
                  · rw [if_neg c9] at H
                    have c9b0 : decide ((rd l1 x5_2) < 1) = false := decide_eq_false c9
                    clear c9
                    by_cases c10 : 0 ≤ a0
                    · rw [if_pos c10] at H
                      have c10b0 := eq_true c10
                      have c10b1 : decide (0 ≤ a0) = true := decide_eq_true c10
                      clear c10
                      obtain ⟨ji11, hji11⟩ : ∃ j_ : Int, (shl .i64 1 a0) = j_ := ⟨_, rfl⟩
                      replace H : (if (rd l1 x5_2) ≥ (ji11) then (some 2) else (drovewayref04_Field.l0 k2 a0 l1 (wrap64 (x5_2 + 1)))) = some r := by first | (rw [hji11] at H; exact H) | (simp only [hji11] at H ⊢; exact H)
                      have hji11_ : (IntKind.i64.wrap (1 * 2 ^ min a0.toNat 64)) = ji11 := hji11
                      have hji11z : a0 ≤ 64 → (IntKind.i64.wrap (1 * 2 ^ a0.toNat)) = ji11 := shl_small hji11
                      have hji11u : (IntKind.i64.wrap (2 ^ min a0.toNat 64)) = ji11 := by have h_ := hji11_; rw [Int.one_mul] at h_; exact h_
                      have hji11v : a0 ≤ 64 → (IntKind.i64.wrap (2 ^ a0.toNat)) = ji11 := fun hle_ => by have h_ := hji11z hle_; rw [Int.one_mul] at h_; exact h_
                      have hji11y : (wrap64 (1 * 2 ^ min a0.toNat 64)) = ji11 := (i64_w _).symm.trans hji11_
                      have hji11x : a0 ≤ 64 → (wrap64 (1 * 2 ^ a0.toNat)) = ji11 := fun h_ => (i64_w _).symm.trans (hji11z h_)
                      by_cases c12 : (rd l1 x5_2) ≥ (ji11)
                      · rw [if_pos c12] at H
                        have c12b0 : decide ((ji11) ≤ (rd l1 x5_2)) = true := decide_eq_true c12
                        clear c12
                        obtain rfl := Option.some.inj H
                        have p134 : 0 ≤ (x5_2 : Int) := of_decide_eq_true (by first | (with_reducible assumption) | assumption)
                        have q134 : x5_2 < (l1.length : Int) := of_decide_eq_true (by first | (with_reducible assumption) | assumption)
                        obtain ⟨ad134, e134, hx134_0⟩ := Kd.at_int HR1.out x5_2 p134 q134
                        cases e134
                        replace p134 := eq_true p134
                        replace q134 := eq_true q134
                        have p135 : 0 ≤ (x5_2 : Int) := of_decide_eq_true (by first | (with_reducible assumption) | assumption)
                        have q135 : x5_2 < (l1.length : Int) := of_decide_eq_true (by first | (with_reducible assumption) | assumption)
                        obtain ⟨ad135, e135, hx135_0⟩ := Kd.at_int HR1.out x5_2 p135 q135
                        obtain rfl : ad134 = ad135 := (by injection e135)
                        replace p135 := eq_true p135
                        replace q135 := eq_true q135
                        go_wp2
                        repeat (go_quiet (fail); try go_wp2)
                        go_ret
                        exact ⟨by first | rfl | (simp; done) | (simp only [← hji11] <;> (first | rfl | simp)) | (simp [*]; done), by repeat (first | exact Drawn0.refl _ | apply Drawn0.step)⟩
                      · rw [if_neg c12] at H
                        have c12b0 : decide ((ji11) ≤ (rd l1 x5_2)) = false := decide_eq_false c12
                        clear c12
                        have H' := Aside0.mk H
                        clear H
                        have p134 : 0 ≤ (x5_2 : Int) := of_decide_eq_true (by first | (with_reducible assumption) | assumption)
                        have q134 : x5_2 < (l1.length : Int) := of_decide_eq_true (by first | (with_reducible assumption) | assumption)
                        obtain ⟨ad134, e134, hx134_0⟩ := Kd.at_int HR1.out x5_2 p134 q134
                        cases e134
                        replace p134 := eq_true p134
                        replace q134 := eq_true q134
                        have p135 : 0 ≤ (x5_2 : Int) := of_decide_eq_true (by first | (with_reducible assumption) | assumption)
                        have q135 : x5_2 < (l1.length : Int) := of_decide_eq_true (by first | (with_reducible assumption) | assumption)
                        obtain ⟨ad135, e135, hx135_0⟩ := Kd.at_int HR1.out x5_2 p135 q135
                        obtain rfl : ad134 = ad135 := (by injection e135)
                        replace p135 := eq_true p135
                        replace q135 := eq_true q135
                        go_wp2
                        repeat (go_quiet (fail); try go_wp2)
                        go_roundg k2
                        case measure => have := HJ2.out; have := HK2.out; omega
                        case rel => exact ⟨(wrap64 (x5_2 + 1)), (by first | rfl | (simp; done) | (simp [*]; done)), H', ⟨by have := HJ2.out; have := HK2.out; omega⟩, by repeat (first | exact Drawn0.refl _ | apply Drawn0.step)⟩
                    · rw [if_neg c10] at H
                      exact absurd H (by simp)
                · rw [if_neg c8] at H
                  exact absurd H (by simp)
              · rw [if_neg c7] at H
                have c7b0 : decide (x5_2 < (l1.length : Int)) = false := decide_eq_false c7
                clear c7
                obtain rfl := Option.some.inj H
                go_wp2
                repeat (go_quiet (fail); try go_wp2)
                go_ret
                exact ⟨by first | rfl | (simp; done) | (simp [*]; done), by repeat (first | exact Drawn0.refl _ | apply Drawn0.step)⟩

end
end Go.Proofs.Ytbjpjjokamaliaa.B

/- What few and Field compute (plain). -/
namespace Go.Proofs.Ytbjpjjokamaliaa.B
open Go.Proofs.Ytbjpjjokamaliaa.A
open Go.RowKit Go.Proofs.YtbjpjjokamaliaaW.PrintWords Go.Proofs.YtbjpjjokamaliaaW.PrintLast

theorem few_eq (l : List Int) (s t : ByteArray) : drovewaylaw04_few.f l s t = some (decide ((l.length : Int) ≤ 40 ∧ (s.size : Int) ≤ 40 ∧ (t.size : Int) ≤ 40)) := by
  unfold drovewaylaw04_few.f
  by_cases h1 : (l.length : Int) ≤ 40
  · by_cases h2 : (s.size : Int) ≤ 40
    · rw [if_pos h1, if_pos h2]; simp [h1, h2]
    · rw [if_pos h1, if_neg h2]; simp [h2]
  · rw [if_neg h1]; simp [h1]
theorem shl_two {m : Nat} (h1 : 1 ≤ m) (h9 : m ≤ 9) : shl .i64 1 (m : Int) = 2 ^ m := by
  have : ∀ m : Nat, m < 10 → shl .i64 1 (m : Int) = (2 : Int) ^ m := by decide +kernel
  exact this m (by omega)
def bad (m : Nat) (x : Int) : Bool := decide (x < 1) || decide (2 ^ m ≤ x)
theorem Field_l0 {m : Nat} (h1 : 1 ≤ m) (h9 : m ≤ 9) (l : List Int) (h12 : l.length ≤ 12) : ∀ n i, l.length - i = n → i ≤ l.length →
    Ev (fun k => drovewayref04_Field.l0 k m l (i : Int)) (if ((l.drop i).any (bad m)) = true then 2 else 0) := by
  intro n
  induction n with
  | zero =>
    intro i hn hi
    have e : l.drop i = [] := List.drop_eq_nil_of_le (by omega)
    rw [e]
    refine Ev.step (f := fun _ => some 0) (fun k => ?_) (Ev.now _)
    rw [drovewayref04_Field.l0, if_neg (by omega)]
  | succ n ih =>
    intro i hn hi
    have hlt : i < l.length := by omega
    have ed : l.drop i = l[i] :: l.drop (i + 1) := List.drop_eq_getElem_cons hlt
    have er : rd l (i : Int) = l[i] := by simp [rd, List.getD_eq_getElem?_getD, hlt]
    have ew : wrap64 ((i : Int) + 1) = ((i + 1 : Nat) : Int) := by rw [wrap64_id] <;> omega
    rw [ed]
    have ih' := ih (i + 1) (by omega) (by omega)
    clear ed ih
    generalize l.drop (i + 1) = t at *
    have hun : ∀ k, drovewayref04_Field.l0 (k + 1) m l (i : Int) = if l[i] < 1 then some 2 else if l[i] ≥ 2 ^ m then some 2 else drovewayref04_Field.l0 k m l ((i + 1 : Nat) : Int) := by
      intro k
      rw [drovewayref04_Field.l0, if_pos (by omega), if_pos (by omega), er, shl_two h1 h9, ew, if_pos (show (0 : Int) ≤ m by omega)]
    by_cases b1 : l[i] < 1
    · refine Ev.step (f := fun _ => some 2) (fun k => by rw [hun, if_pos b1]) ?_
      have : ((l[i] :: t).any (bad m)) = true := by simp [List.any_cons, bad, b1]
      rw [if_pos this]
      exact Ev.now _
    · by_cases b2 : l[i] ≥ 2 ^ m
      · refine Ev.step (f := fun _ => some 2) (fun k => by rw [hun, if_neg b1, if_pos b2]) ?_
        have : ((l[i] :: t).any (bad m)) = true := by
          have b2' : 2 ^ m ≤ l[i] := b2
          simp [List.any_cons, bad, b2']
        rw [if_pos this]
        exact Ev.now _
      · refine Ev.step (fun k => by rw [hun, if_neg b1, if_neg b2]) ?_
        have : ((l[i] :: t).any (bad m)) = (t.any (bad m)) := by
          have b2' : ¬ 2 ^ m ≤ l[i] := b2
          simp [List.any_cons, bad, b1, b2']
        rw [this]
        exact ih'
theorem Field_ev (m : Int) (l : List Int) : Ev (fun k => drovewayref04_Field.f k m l) (okF m l) := by
  by_cases h1 : m < 1 ∨ 9 < m
  · have : okF m l = 2 := by unfold okF; rw [if_pos h1]
    rw [this]
    refine Ev.congr (f := fun k => drovewayref04_Field.j0 k m l true) (fun k => ?_) (Ev.step (f := fun _ => some 2) (fun k => ?_) (Ev.now _))
    · unfold drovewayref04_Field.f
      by_cases h : m < 1
      · rw [if_pos h]
      · rw [if_neg h]
        have : m > 9 := by omega
        simp [this]
    · rw [drovewayref04_Field.j0, if_pos rfl]
  · have hc : Ev (fun k => drovewayref04_Field.j0 k m l false) (okF m l) := by
      by_cases h12 : 12 < l.length
      · have : okF m l = 3 := by unfold okF; rw [if_neg h1, if_pos h12]
        rw [this]
        refine Ev.step (f := fun _ => some 3) (fun k => ?_) (Ev.now _)
        rw [drovewayref04_Field.j0, if_neg (by decide), if_pos (by omega)]
      · obtain ⟨n, rfl⟩ : ∃ n : Nat, m = n := ⟨m.toNat, by omega⟩
        have hb := Field_l0 (m := n) (by omega) (by omega) l (by omega) _ 0 rfl (by omega)
        have : okF (n : Int) l = if ((l.drop 0).any (bad n)) = true then 2 else 0 := by unfold okF; rw [if_neg h1, if_neg h12]; rfl
        rw [this]
        refine Ev.step (fun k => ?_) hb
        rw [drovewayref04_Field.j0, if_neg (by decide), if_neg (by omega)]
        rfl
    refine Ev.congr (fun k => ?_) hc
    unfold drovewayref04_Field.f
    rw [if_neg (by omega)]
    have : ¬ m > 9 := by omega
    simp [this]
theorem shr_bit (y k : Nat) (hk : k ≤ 9) : Int.tmod (shr .i64 (y : Int) (k : Int)) 2 = if y.testBit k = true then 1 else 0 := by
  have e : shr .i64 (y : Int) (k : Int) = ((y / 2 ^ k : Nat) : Int) := by
    unfold shr
    have : min ((k : Int)).toNat IntKind.i64.bits = k := by
      have : IntKind.i64.bits = 64 := rfl
      omega
    rw [this]
    simp
  rw [e, Nat.testBit_eq_decide_div_mod_eq]
  have h : Int.tmod ((y / 2 ^ k : Nat) : Int) 2 = ((y / 2 ^ k % 2 : Nat) : Int) := by
    rw [Int.tmod_eq_emod_of_nonneg (Int.natCast_nonneg _)]; rfl
  rw [h]
  by_cases q : y / 2 ^ k % 2 = 1
  · rw [if_pos (by simpa using q), q]; rfl
  · rw [if_neg (by simpa using q)]
    have : y / 2 ^ k % 2 = 0 := by omega
    rw [this]; rfl
end Go.Proofs.Ytbjpjjokamaliaa.B

/- The search for a pairing: what it finds is one, and it finds one with the fewest pairs if there is any. -/
namespace Go.Proofs.Ytbjpjjokamaliaa.B
open Go.Proofs.Ytbjpjjokamaliaa.A
open Go.RowKit Go.Proofs.YtbjpjjokamaliaaW.PrintWords Go.Proofs.YtbjpjjokamaliaaW.PrintMore

theorem setN_bit (q : S59) (i : Nat) : (setN q).testBit i = true ↔ i = q.f0.toNat ∨ i = q.f1.toNat := by
  unfold setN
  rw [Nat.testBit_or, tb_two, tb_two]
  simp
theorem and_zero {a b : Nat} : a &&& b = 0 ↔ ∀ i, a.testBit i = true → b.testBit i = false := by
  constructor
  · intro h i hi
    have : (a &&& b).testBit i = false := by rw [h]; exact Nat.zero_testBit i
    rw [Nat.testBit_and, hi] at this
    simpa using this
  · intro h
    refine Nat.eq_of_testBit_eq fun i => ?_
    rw [Nat.testBit_and, Nat.zero_testBit]
    cases e : a.testBit i with
    | false => rfl
    | true => rw [h i e]; rfl
theorem goodP_cons {m used : Nat} {prev : Int} {q : S59} {ps : List S59} : goodP m used prev (q :: ps) = true ↔ (0 ≤ q.f0 ∧ q.f0 < q.f1 ∧ q.f1 < m ∧ used &&& setN q = 0 ∧ prev < q.f0) ∧ goodP m (used ||| setN q) q.f0 ps = true := by
  rw [goodP]
  simp only [Bool.and_eq_true, decide_eq_true_eq, and_assoc]
theorem goodP_mem {m : Nat} : ∀ (ps : List S59) (used : Nat) (prev : Int), goodP m used prev ps = true → ∀ q ∈ ps, 0 ≤ q.f0 ∧ q.f0 < q.f1 ∧ q.f1 < m ∧ used &&& setN q = 0
  | [], _, _, _, q, hq => by cases hq
  | a :: ps, used, prev, h, q, hq => by
    obtain ⟨⟨h1, h2, h3, h4, _⟩, hr⟩ := goodP_cons.1 h
    rcases List.mem_cons.1 hq with rfl | hq
    · exact ⟨h1, h2, h3, h4⟩
    · obtain ⟨g1, g2, g3, g4⟩ := goodP_mem ps _ _ hr q hq
      refine ⟨g1, g2, g3, ?_⟩
      rw [and_zero] at g4 ⊢
      intro i hi
      exact g4 i (by rw [Nat.testBit_or, hi]; rfl)
theorem goodP_one {m : Nat} : ∀ (ps : List S59) (used : Nat) (prev : Int), goodP m used prev ps = true → ∀ q ∈ ps, ∀ q' ∈ ps, ∀ i, (setN q).testBit i = true → (setN q').testBit i = true → q = q'
  | [], _, _, _, q, hq, _, _, _, _, _ => by cases hq
  | a :: ps, used, prev, h, q, hq, q', hq', i, hi, hi' => by
    obtain ⟨_, hr⟩ := goodP_cons.1 h
    have hx : ∀ b ∈ ps, (setN a).testBit i = true → (setN b).testBit i = true → False := by
      intro b hb h1 h2
      have := (goodP_mem ps _ _ hr b hb).2.2.2
      rw [and_zero] at this
      have := this i (by rw [Nat.testBit_or, h1]; simp)
      rw [h2] at this; cases this
    rcases List.mem_cons.1 hq with e1 | k1
    · rcases List.mem_cons.1 hq' with e2 | k2
      · rw [e1, e2]
      · rw [e1] at hi
        exact (hx q' k2 hi hi').elim
    · rcases List.mem_cons.1 hq' with e2 | k2
      · rw [e2] at hi'
        exact (hx q k1 hi' hi).elim
      · exact goodP_one ps _ _ hr q k1 q' k2 i hi hi'
def useL (u : Nat) : List S59 → Nat
  | [] => u
  | q :: ps => useL (u ||| setN q) ps
def lastF (pv : Int) : List S59 → Int
  | [] => pv
  | q :: ps => lastF q.f0 ps
theorem goodP_app {m : Nat} : ∀ (xs ys : List S59) (u : Nat) (pv : Int), goodP m u pv (xs ++ ys) = (goodP m u pv xs && goodP m (useL u xs) (lastF pv xs) ys)
  | [], ys, u, pv => by simp [goodP, useL, lastF]
  | q :: xs, ys, u, pv => by
    rw [List.cons_append, goodP, goodP, goodP_app xs ys, useL, lastF]
    simp only [Bool.and_assoc]
theorem useL_app : ∀ (xs ys : List S59) (u : Nat), useL u (xs ++ ys) = useL (useL u xs) ys
  | [], ys, u => rfl
  | q :: xs, ys, u => by rw [List.cons_append, useL, useL, useL_app xs ys]
theorem lastF_app : ∀ (xs ys : List S59) (pv : Int), lastF pv (xs ++ ys) = lastF (lastF pv xs) ys
  | [], ys, pv => rfl
  | q :: xs, ys, pv => by rw [List.cons_append, lastF, lastF, lastF_app xs ys]
theorem lastOk_iff (ps : List S59) (a : Nat) : lastOk ps a = true ↔ lastF (-1) ps ≤ (a : Int) := by
  rcases List.eq_nil_or_concat ps with rfl | ⟨xs, q, rfl⟩
  · simp [lastOk, lastF]
  · rw [List.concat_eq_append, lastF_app]
    simp [lastOk, lastF]
theorem useL_last {ps : List S59} {a : Nat} (h0 : ∀ q ∈ ps, 0 ≤ q.f0) (h : lastF (-1) ps = (a : Int)) : (useL 0 ps).testBit a = true := by
  rcases List.eq_nil_or_concat ps with rfl | ⟨xs, q, rfl⟩
  · simp [lastF] at h
  · rw [List.concat_eq_append] at h h0 ⊢
    rw [lastF_app] at h
    rw [useL_app]
    simp only [lastF] at h
    simp only [useL]
    have := h0 q (by simp)
    have hb : (setN q).testBit a = true := by rw [setN_bit]; omega
    rw [Nat.testBit_or, hb]; simp
theorem firstN_ex {α : Type} {f : Nat → Option α} {r : α} : ∀ {k}, firstN f k = some r → ∃ i, i < k ∧ f i = some r
  | 0, h => by cases h
  | k + 1, h => by
    cases e : firstN f k with
    | some r' =>
      have := firstN_hit e 1
      rw [this] at h
      cases h
      obtain ⟨i, hi, hf⟩ := firstN_ex e
      exact ⟨i, by omega, hf⟩
    | none =>
      rw [firstN_succ_none e] at h
      exact ⟨k, by omega, h⟩
theorem firstN_first {α : Type} {f : Nat → Option α} {i n : Nat} (hi : i < n) (h : (f i).isSome = true) : ∃ j, j ≤ i ∧ ∃ r, f j = some r ∧ firstN f n = some r := by
  cases e : firstN f i with
  | some r =>
    obtain ⟨j, hj, hf⟩ := firstN_ex e
    have := firstN_hit e (n - i)
    rw [show i + (n - i) = n by omega] at this
    exact ⟨j, by omega, r, hf, this⟩
  | none =>
    obtain ⟨r, hr⟩ := Option.isSome_iff_exists.1 h
    exact ⟨i, Nat.le_refl _, r, hr, firstN_some hi e hr⟩
theorem srch_sound (l : List Int) (m : Nat) : ∀ k used ps r, srch l m k used ps = some r → goodP m 0 (-1) ps = true → useL 0 ps = used → isPB m l r = true ∧ r.length = ps.length + k := by
  intro k
  induction k with
  | zero =>
    intro used ps r h hg _
    rw [srch] at h
    split at h
    · rename_i hm
      cases h
      unfold isPB
      rw [hg, hm]
      exact ⟨rfl, rfl⟩
    · cases h
  | succ k ih =>
    intro used ps r h hg hu
    rw [srch] at h
    obtain ⟨a, ha, h⟩ := firstN_ex h
    obtain ⟨b, hb, h⟩ := firstN_ex h
    by_cases hc : a < b ∧ okB used ps a b = true
    · rw [if_pos hc] at h
      obtain ⟨hab, hok⟩ := hc
      unfold okB at hok
      rw [Bool.and_eq_true, decide_eq_true_eq] at hok
      obtain ⟨h1, h2⟩ := hok
      rw [lastOk_iff] at h2
      have hne : lastF (-1) ps ≠ (a : Int) := by
        intro e
        have hb := useL_last (fun q hq => (goodP_mem ps _ _ hg q hq).1) e
        rw [hu] at hb
        have := (and_zero.1 h1) a hb
        have hs : (setN (pr a b)).testBit a = true := by rw [setN_bit]; simp [pr]
        rw [hs] at this; cases this
      have hg2 : goodP m 0 (-1) (ps ++ [pr a b]) = true := by
        rw [goodP_app, hg, hu, Bool.true_and, goodP_cons]
        exact ⟨⟨by show (0 : Int) ≤ (a : Int); omega, by show (a : Int) < (b : Int); omega, by show (b : Int) < (m : Int); omega, h1, by show lastF (-1) ps < (a : Int); omega⟩, rfl⟩
      obtain ⟨r1, r2⟩ := ih _ _ r h hg2 (by rw [useL_app, hu]; rfl)
      exact ⟨r1, by rw [r2]; simp; omega⟩
    · rw [if_neg hc] at h; cases h
end Go.Proofs.Ytbjpjjokamaliaa.B

/- The specification's isPairing, plain: it tells whether pairs are a pairing. -/
namespace Go.Proofs.Ytbjpjjokamaliaa.B
open Go.Proofs.Ytbjpjjokamaliaa.A
open Go.RowKit Go.Proofs.YtbjpjjokamaliaaW.PrintWords Go.Proofs.YtbjpjjokamaliaaW.PrintMore

theorem orP_table : (List.range 512).all (fun d => (List.range 9).all fun i => d.testBit i || decide (d + 2 ^ i = d ||| 2 ^ i)) = true := by decide +kernel
theorem orP {a i : Nat} (ha : a < 512) (hi : i < 9) (h : a.testBit i = false) : a + 2 ^ i = a ||| 2 ^ i := by
  have h1 := List.all_eq_true.1 orP_table a (List.mem_range.2 ha)
  have h2 := List.all_eq_true.1 h1 i (List.mem_range.2 hi)
  rw [h] at h2
  simpa using h2
theorem shl_two' {k : Nat} (h : k < 10) : shl .i64 1 (k : Int) = ((2 ^ k : Nat) : Int) := by
  have : ∀ m : Nat, m < 10 → shl .i64 1 (m : Int) = ((2 ^ m : Nat) : Int) := by decide +kernel
  exact this k h
theorem inP_bits {m : Nat} {x : Int} (h0 : 0 ≤ x) {q : S59} (hq : okQ m q = true) (h9 : m ≤ 9) :
    inP x q = ((Int.tmod (shr .i64 x q.f0) 2 == 1) && (Int.tmod (shr .i64 x q.f1) 2 == 1)) := by
  obtain ⟨h1, h2, h3, h4⟩ := okQ_iff.1 hq
  obtain ⟨y, rfl⟩ := Int.eq_ofNat_of_zero_le h0
  obtain ⟨a, ha⟩ := Int.eq_ofNat_of_zero_le h1
  obtain ⟨b, hb⟩ := Int.eq_ofNat_of_zero_le h3
  rw [ha, hb, shr_bit y a (by omega), shr_bit y b (by omega)]
  have hl : inP (y : Int) q = (y.testBit a && y.testBit b) := by
    have e : inP (y : Int) q = true ↔ (y.testBit a && y.testBit b) = true := by
      unfold inP
      rw [decide_eq_true_iff, Int.toNat_natCast, Bool.and_eq_true]
      constructor
      · intro h
        have hb' : ∀ i, (setN q).testBit i = true → y.testBit i = true := fun i hi => by
          have h2 : (less (setN q) y).testBit i = false := by rw [h]; exact Nat.zero_testBit i
          rw [tb_less, hi] at h2
          simpa using h2
        exact ⟨hb' a ((setN_bit q a).2 (.inl (by omega))), hb' b ((setN_bit q b).2 (.inr (by omega)))⟩
      · rintro ⟨h1, h2⟩
        refine Nat.eq_of_testBit_eq fun i => ?_
        rw [Nat.zero_testBit, tb_less]
        cases hs : (setN q).testBit i with
        | false => rfl
        | true =>
          rcases (setN_bit q i).1 hs with e | e
          · have : i = a := by omega
            subst this; rw [h1]; rfl
          · have : i = b := by omega
            subst this; rw [h2]; rfl
    exact Bool.eq_iff_iff.2 e
  rw [hl]
  cases y.testBit a <;> cases y.testBit b <;> rfl
theorem and_setN {used : Nat} {q : S59} : used &&& setN q = 0 ↔ used.testBit q.f0.toNat = false ∧ used.testBit q.f1.toNat = false := by
  rw [Nat.and_comm, and_zero]
  constructor
  · intro h
    exact ⟨h _ ((setN_bit q _).2 (.inl rfl)), h _ ((setN_bit q _).2 (.inr rfl))⟩
  · rintro ⟨h1, h2⟩ i hi
    rcases (setN_bit q i).1 hi with rfl | rfl
    · exact h1
    · exact h2
theorem add_setN {m used : Nat} (h9 : m ≤ 9) (hu : used < 2 ^ m) {q : S59} (hq : okQ m q = true) (hlt : q.f0 < q.f1) (hz : used &&& setN q = 0) :
    wrap64 ((used : Int) + wrap64 (shl .i64 1 q.f0 + shl .i64 1 q.f1)) = ((used ||| setN q : Nat) : Int) := by
  obtain ⟨h1, h2, h3, h4⟩ := okQ_iff.1 hq
  obtain ⟨z1, z2⟩ := and_setN.1 hz
  have hsn := setN_lt (okQ_iff.1 hq)
  have h512 : (2 : Nat) ^ m ≤ 2 ^ 9 := Nat.pow_le_pow_right (by decide) h9
  obtain ⟨a, ha⟩ := Int.eq_ofNat_of_zero_le h1
  obtain ⟨b, hb⟩ := Int.eq_ofNat_of_zero_le h3
  have ea : q.f0.toNat = a := by omega
  have eb : q.f1.toNat = b := by omega
  rw [ea] at z1; rw [eb] at z2
  have o1 := orP (a := used) (i := a) (by omega) (by omega) z1
  have z3 : (used ||| 2 ^ a).testBit b = false := by
    rw [Nat.testBit_or, z2, tb_two]
    simp; omega
  have hu2 : used ||| 2 ^ a < 2 ^ m := or_lt hu (Nat.pow_lt_pow_right (by decide) (by omega))
  have o2 := orP (a := used ||| 2 ^ a) (i := b) (by omega) (by omega) z3
  have hs : used ||| setN q = used + 2 ^ a + 2 ^ b := by
    unfold setN
    rw [ea, eb, o1, o2, Nat.or_assoc]
  have hlt2 : used ||| setN q < 2 ^ m := or_lt hu hsn
  rw [ha, hb, shl_two' (by omega), shl_two' (by omega)]
  have p1 : (2 : Nat) ^ a ≤ 512 := by omega
  have p2 : (2 : Nat) ^ b ≤ 512 := by omega
  generalize (2 : Nat) ^ a = x at *
  generalize (2 : Nat) ^ b = y at *
  rw [hs]
  have : wrap64 ((x : Int) + (y : Int)) = (x : Int) + (y : Int) := by rw [wrap64_id] <;> omega
  rw [this, wrap64_id] <;> omega

theorem rIsP_l2 {m : Nat} {l : List Int} {ps : List S59} (h9 : m ≤ 9) (h40 : ps.length ≤ 1000) (hq : ∀ q ∈ ps, okQ m q = true) (i : Nat) (hi : i < l.length) (hx : 0 ≤ rd l (i : Int)) (R : Bool) (hrest : Ev (fun k => drovewayref04_isPairing.l1 k l ps (wrap64 ((i : Int) + 1))) R) :
    ∀ n j (acc : Bool), ps.length - j = n → j ≤ ps.length → Ev (fun k => drovewayref04_isPairing.l2 k l ps (i : Int) acc (j : Int)) ((acc || (ps.drop j).any (inP (rd l (i : Int)))) && R) := by
  intro n
  induction n with
  | zero =>
    intro j acc hn hj
    have e : j = ps.length := by omega
    subst e
    rw [List.drop_length]
    cases acc
    · refine Ev.step (f := fun _ => some false) (fun k => ?_) (Ev.now false)
      rw [drovewayref04_isPairing.l2, if_neg (by omega), if_neg (by decide)]
    · simp only [Bool.true_or, Bool.true_and]
      refine Ev.step (fun k => ?_) hrest
      rw [drovewayref04_isPairing.l2, if_neg (by omega), if_pos rfl]
  | succ n ih =>
    intro j acc hn hj
    have hlt : j < ps.length := by omega
    have ew : wrap64 ((j : Int) + 1) = ((j + 1 : Nat) : Int) := by rw [wrap64_id] <;> omega
    have ed : ps.drop j = ps[j] :: ps.drop (j + 1) := List.drop_eq_getElem_cons hlt
    have er := rdT ps j hlt
    have hok := hq ps[j] (List.getElem_mem hlt)
    obtain ⟨q1, q2, q3, q4⟩ := okQ_iff.1 hok
    rw [ed, List.any_cons, inP_bits hx hok h9]
    cases acc
    · have := ih (j + 1) ((Int.tmod (shr .i64 (rd l (i : Int)) ps[j].f0) 2 == 1) && (Int.tmod (shr .i64 (rd l (i : Int)) ps[j].f1) 2 == 1)) (by omega) (by omega)
      rw [Bool.false_or]
      refine Ev.step (fun k => ?_) this
      rw [drovewayref04_isPairing.l2, if_pos (by omega), if_neg (by decide), if_pos (by omega), if_pos (by omega), if_pos (by omega), er, if_pos q1, ew]
      by_cases c : Int.tmod (shr .i64 (rd l (i : Int)) ps[j].f0) 2 = 1
      · rw [if_pos c, if_pos q3, c]; rfl
      · rw [if_neg c, beq_eq_false_iff_ne.2 c]; rfl
    · have := ih (j + 1) true (by omega) (by omega)
      simp only [Bool.true_or] at this ⊢
      refine Ev.step (fun k => ?_) this
      rw [drovewayref04_isPairing.l2, if_pos (by omega), if_pos rfl, ew]
theorem rd_at (l : List Int) (i : Nat) (h : i < l.length) : rd l (i : Int) = l[i] := by
  unfold rd
  simp [List.getD_eq_getElem?_getD, h]
theorem rIsP_l1 {m : Nat} {l : List Int} {ps : List S59} (h9 : m ≤ 9) (h40 : ps.length ≤ 1000) (hl : okL m l) (hl40 : l.length ≤ 1000) (hq : ∀ q ∈ ps, okQ m q = true) :
    ∀ n i, l.length - i = n → i ≤ l.length → Ev (fun k => drovewayref04_isPairing.l1 k l ps (i : Int)) (metB (l.drop i) ps) := by
  intro n
  induction n with
  | zero =>
    intro i hn hi
    have e : i = l.length := by omega
    subst e
    rw [List.drop_length]
    refine Ev.step (f := fun _ => some true) (fun k => ?_) (Ev.now true)
    rw [drovewayref04_isPairing.l1, if_neg (by omega)]
  | succ n ih =>
    intro i hn hi
    have hlt : i < l.length := by omega
    have ew : wrap64 ((i : Int) + 1) = ((i + 1 : Nat) : Int) := by rw [wrap64_id] <;> omega
    have ed : l.drop i = l[i] :: l.drop (i + 1) := List.drop_eq_getElem_cons hlt
    have er := rd_at l i hlt
    have hx : 0 ≤ rd l (i : Int) := by
      rw [er]
      have := hl l[i] (List.getElem_mem hlt)
      omega
    have hr := ih (i + 1) (by omega) (by omega)
    rw [← ew] at hr
    have h2 := rIsP_l2 h9 h40 hq i hlt hx _ hr ps.length 0 false (by omega) (Nat.zero_le _)
    have em : metB (l.drop i) ps = ((false || (ps.drop 0).any (inP (rd l (i : Int)))) && metB (l.drop (i + 1)) ps) := by
      rw [ed, er]; rfl
    rw [em]
    refine Ev.step (fun k => ?_) h2
    rw [drovewayref04_isPairing.l1, if_pos (by omega)]
    rfl
theorem rIsP_l0 {m : Nat} {l : List Int} (hF : okF m l = 0) (ps : List S59) (h40 : ps.length ≤ 1000) : ∀ n i (used : Nat) (prev : Int), ps.length - i = n → i ≤ ps.length → used < 2 ^ m →
    ((i = 0 ∧ prev = -1) ∨ (0 < i ∧ prev = (rd_T59 ps ((i - 1 : Nat) : Int)).f0)) → (∀ j, (h : j < i) → (h2 : j < ps.length) → okQ m ps[j] = true) →
    Ev (fun k => drovewayref04_isPairing.l0 k m l ps used (i : Int)) (goodP m used prev (ps.drop i) && metB l ps) := by
  have h9 : m ≤ 9 := by have := okF_m hF; omega
  intro n
  induction n with
  | zero =>
    intro i used prev hn hi hu hp hall
    have e : i = ps.length := by omega
    have hd : ps.drop i = [] := List.drop_eq_nil_of_le (by omega)
    rw [hd]
    have hl : l.length ≤ 1000 := by
      unfold okF at hF
      split at hF
      · cases hF
      · split at hF
        · cases hF
        · omega
    have h1 := rIsP_l1 h9 h40 (okF_L hF) hl (fun q hq => by
      obtain ⟨j, hj, rfl⟩ := List.getElem_of_mem hq
      exact hall j (by omega) hj) l.length 0 (by omega) (Nat.zero_le _)
    have em : (goodP m used prev [] && metB l ps) = metB (l.drop 0) ps := by simp [goodP]
    rw [em]
    refine Ev.step (fun k => ?_) h1
    rw [drovewayref04_isPairing.l0, if_neg (by omega)]
    rfl
  | succ n ih =>
    intro i used prev hn hi hu hp hall
    have hlt : i < ps.length := by omega
    have ew : wrap64 ((i : Int) + 1) = ((i + 1 : Nat) : Int) := by rw [wrap64_id] <;> omega
    have ed : ps.drop i = ps[i] :: ps.drop (i + 1) := List.drop_eq_getElem_cons hlt
    have g1 : (i : Int) < (ps.length : Int) := by omega
    have g2 : (0 : Int) ≤ (i : Int) := by omega
    rw [ed, goodP]
    have er := rdT ps i hlt
    have hin : ∀ j, (h : j < i + 1) → (h2 : j < ps.length) → okQ m ps[i] = true → okQ m ps[j] = true := by
      intro j h h2 hq
      by_cases e : j = i
      · subst e; exact hq
      · exact hall j (by omega) h2
    have ihn := fun used' (hu' : used' < 2 ^ m) (hq : okQ m ps[i] = true) => ih (i + 1) used' (ps[i]).f0 (by omega) (by omega) hu' (.inr ⟨by omega, by rw [Nat.add_sub_cancel, er]⟩) (fun j h h2 => hin j h h2 hq)
    clear ih hin hall
    have hpv : (i : Int) > 0 → 0 ≤ wrap64 ((i : Int) - 1) ∧ wrap64 ((i : Int) - 1) < (ps.length : Int) ∧ (rd_T59 ps (wrap64 ((i : Int) - 1))).f0 = prev := by
      intro h0
      rcases hp with ⟨h, _⟩ | ⟨h, hh⟩
      · omega
      · have e : wrap64 ((i : Int) - 1) = ((i - 1 : Nat) : Int) := by rw [wrap64_id] <;> omega
        rw [e]
        exact ⟨by omega, by omega, hh.symm⟩
    have hpz : ¬ (i : Int) > 0 → prev = -1 := by
      intro h0
      rcases hp with ⟨_, h⟩ | ⟨h, _⟩
      · exact h
      · omega
    clear hp
    generalize ps.drop (i + 1) = rest at *
    generalize hq : ps[i] = q at *
    by_cases c1 : q.f0 < 0
    · refine Ev.step (f := fun _ => some false) (fun k => ?_) ?_
      · rw [drovewayref04_isPairing.l0, if_pos g1, if_pos g2, er, if_pos c1]
      · have : decide (0 ≤ q.f0) = false := decide_eq_false (by omega)
        rw [this]; exact Ev.now _
    · have d1 : decide (0 ≤ q.f0) = true := decide_eq_true (by omega)
      by_cases c3 : q.f1 ≥ (m : Int)
      · refine Ev.step (f := fun _ => some false) (fun k => ?_) ?_
        · rw [drovewayref04_isPairing.l0, if_pos g1, if_pos g2, er, if_neg c1, if_pos c3]
        · have : decide (q.f1 < (m : Int)) = false := decide_eq_false (by omega)
          rw [this, d1, Bool.and_false]; exact Ev.now _
      · have d3 : decide (q.f1 < (m : Int)) = true := decide_eq_true (by omega)
        by_cases c2 : q.f0 ≥ q.f1
        · refine Ev.step (f := fun _ => some false) (fun k => ?_) ?_
          · rw [drovewayref04_isPairing.l0, if_pos g1, if_pos g2, er, if_neg c1, if_neg c3, if_pos c2]
          · have : decide (q.f0 < q.f1) = false := decide_eq_false (by omega)
            rw [this, d1, d3]; exact Ev.now _
        · have d2 : decide (q.f0 < q.f1) = true := decide_eq_true (by omega)
          have hok : okQ m q = true := okQ_iff.2 ⟨by omega, by omega, by omega, by omega⟩
          have hsn := setN_lt (okQ_iff.1 hok)
          have ihn' := ihn (used ||| setN q) (or_lt hu hsn) hok
          clear ihn
          have e0 : Int.tmod (shr .i64 (used : Int) q.f0) 2 = if used.testBit q.f0.toNat = true then 1 else 0 := by
            have := shr_bit used q.f0.toNat (by omega)
            rwa [Int.toNat_of_nonneg (by omega)] at this
          have e1 : Int.tmod (shr .i64 (used : Int) q.f1) 2 = if used.testBit q.f1.toNat = true then 1 else 0 := by
            have := shr_bit used q.f1.toNat (by omega)
            rwa [Int.toNat_of_nonneg (by omega)] at this
          have hun : ∀ k, drovewayref04_isPairing.l0 (k + 1) m l ps used (i : Int) = (if used.testBit q.f0.toNat = true then some false else if used.testBit q.f1.toNat = true then some false else (if (i : Int) > 0 then (if 0 ≤ (wrap64 ((i : Int) - 1)) then (if (wrap64 ((i : Int) - 1)) < (ps.length : Int) then (if ((rd_T59 ps (wrap64 ((i : Int) - 1))).f0) ≥ q.f0 then (some false) else (drovewayref04_isPairing.l0 k m l ps (wrap64 ((used : Int) + wrap64 (shl .i64 1 q.f0 + shl .i64 1 q.f1))) ((i + 1 : Nat) : Int))) else (none)) else (none)) else (drovewayref04_isPairing.l0 k m l ps (wrap64 ((used : Int) + wrap64 (shl .i64 1 q.f0 + shl .i64 1 q.f1))) ((i + 1 : Nat) : Int)))) := by
            intro k
            rw [drovewayref04_isPairing.l0, if_pos g1, if_pos g2, er, if_neg c1, if_neg c3, if_neg c2, if_pos (by omega), e0, ew]
            by_cases b0 : used.testBit q.f0.toNat = true
            · rw [if_pos b0, if_pos b0, if_pos rfl]
            · rw [if_neg b0, if_neg b0, if_neg (by decide), if_pos (by omega), e1]
              by_cases b1 : used.testBit q.f1.toNat = true
              · rw [if_pos b1, if_pos b1, if_pos rfl]
              · rw [if_neg b1, if_neg b1, if_neg (by decide)]
          by_cases c4 : used &&& setN q = 0
          · have d4 : decide (used &&& setN q = 0) = true := decide_eq_true c4
            obtain ⟨z1, z2⟩ := and_setN.1 c4
            have eadd := add_setN h9 hu hok (by omega) c4
            rw [z1, z2, eadd] at hun
            simp only [Bool.false_eq_true, if_false] at hun
            by_cases c5 : (i : Int) > 0
            · obtain ⟨p1, p2, p3⟩ := hpv c5
              by_cases c6 : prev ≥ q.f0
              · refine Ev.step (f := fun _ => some false) (fun k => ?_) ?_
                · rw [hun, if_pos c5, if_pos p1, if_pos p2, p3, if_pos c6]
                · have : decide (prev < q.f0) = false := decide_eq_false (by omega)
                  rw [this, d1, d2, d3, d4]; exact Ev.now _
              · have d5 : decide (prev < q.f0) = true := decide_eq_true (by omega)
                rw [d1, d2, d3, d4, d5]
                refine Ev.step (fun k => ?_) ihn'
                rw [hun, if_pos c5, if_pos p1, if_pos p2, p3, if_neg c6]
            · have d5 : decide (prev < q.f0) = true := decide_eq_true (by have := hpz c5; omega)
              rw [d1, d2, d3, d4, d5]
              refine Ev.step (fun k => ?_) ihn'
              rw [hun, if_neg c5]
          · have d4 : decide (used &&& setN q = 0) = false := decide_eq_false c4
            refine Ev.step (f := fun _ => some false) (fun k => ?_) ?_
            · rw [hun]
              by_cases b0 : used.testBit q.f0.toNat = true
              · rw [if_pos b0]
              · rw [if_neg b0]
                by_cases b1 : used.testBit q.f1.toNat = true
                · rw [if_pos b1]
                · exact absurd (and_setN.2 ⟨by simpa using b0, by simpa using b1⟩) c4
            · rw [d1, d2, d3, d4]; exact Ev.now _
theorem rIsP_ev {m : Nat} {l : List Int} (hF : okF m l = 0) (ps : List S59) (h40 : ps.length ≤ 1000) : Ev (fun k => drovewayref04_isPairing.f k m l ps) (isPB m l ps) :=
  rIsP_l0 hF ps h40 _ 0 0 (-1) rfl (Nat.zero_le _) (Nat.two_pow_pos m) (.inl ⟨rfl, rfl⟩) (fun j h => by omega)
end Go.Proofs.Ytbjpjjokamaliaa.B

/- append to a row of pairs that is cut to its own length: one step of a region that draws its order. -/
namespace Go.Proofs.Ytbjpjjokamaliaa.B
open Go.Proofs.Ytbjpjjokamaliaa.A
open Go.RowKit Go.Proofs.YtbjpjjokamaliaaW.PrintWords Go.Proofs.YtbjpjjokamaliaaW.PrintMore

theorem grown_some {w w' : World} (h : w.grownBy w' none) (row : Option Nat) : w.grownBy w' row := ⟨h.os, h.tape, h.output, h.size, fun k hk _ => h.block k hk (by intro e; cases e)⟩
theorem append59_run {W : World} {B : Nat} {A1 : Option Addr} {n c1 : Nat} {now : List S59} (p : S59) (ty : TypeId) (HO : Kd.R k59 59 W B (fun _ => True) (.slice A1 n c1) now) (hB : B ≤ W.heap.size) (hn : n ≤ 1000) :
    ∃ v1 w1, (Builtin.append_ #[46, 46] ty #[.slice A1 n n, .slice (some ⟨W.heap.size, 0, none⟩) 1 1]).run Try.prog (W.alloc (.cells #[.int .i64 p.f0, .int .i64 p.f1] 59)) = .ok v1 w1 ∧ Kd.R k59 59 w1 B (fun _ => True) v1 (now ++ [p]) ∧ Below W.heap.size W w1 := by
  obtain ⟨i0, hi, hzz⟩ := Option.map_eq_some_iff.1 info59
  simp only [Prod.mk.injEq] at hzz
  obtain ⟨hz0, hz1, hz2⟩ := hzz
  have hnl : n = now.length := (Kd.R_reads' HO).1
  obtain ⟨h0, inner, hown, hr⟩ := HO
  have hnews := World.news_of_block (cs := #[.int .i64 p.f0, .int .i64 p.f1]) (t := 59) (fr := (0, 0)) (heap_alloc_new W (.cells #[.int .i64 p.f0, .int .i64 p.f1] 59))
  have hsz : k59.sz = 2 := rfl
  have key : ∃ v1 w1, (Builtin.append_ #[46, 46] ty #[.slice A1 n n, .slice (some ⟨W.heap.size, 0, none⟩) 1 1]).run Try.prog (W.alloc (.cells #[.int .i64 p.f0, .int .i64 p.f1] 59)) = .ok v1 w1 ∧ w1.ownsRow (W.heap.size + 1) 59 2 v1 (n + 1) (inner ++ [.int .i64 p.f0, .int .i64 p.f1]) ∧ (W.alloc (.cells #[.int .i64 p.f0, .int .i64 p.f1] 59)).grownBy w1 none := by
    rcases hown.2 with ⟨e1, e2⟩ | ⟨g, cap, cur, e1, hg, hh, hc, hcm, hcs, ht⟩
    · injection e1 with e3 e4 e5
      subst e3 e4
      have hin : inner = [] := by
        have := hown.1
        rw [← hnl, Nat.zero_mul] at this
        exact List.eq_nil_of_length_eq_zero this
      rw [hin]
      obtain ⟨v1, w1, h1, h2, h3, _⟩ := run_append_own_at (P := Try.prog) (W.alloc (.cells #[.int .i64 p.f0, .int .i64 p.f1] 59)) (W.heap.size + 1) 46 ty 59 i0 (.agg #[.int .i64 0, .int .i64 0]) 2 16 Try.underlying46 hi hz0 hz1 hz2 rfl (by decide) (.slice none 0 0) 0 [] (own_nil _ _ _ _) ⟨W.heap.size, 0, none⟩ 1 1 [.int .i64 p.f0, .int .i64 p.f1] rfl hnews (by intro u hu; simp at hu; rcases hu with rfl | rfl <;> rfl) (by decide) (by decide) (by simp)
      exact ⟨v1, w1, h1, h2, h3⟩
    · injection e1 with e3 e4 e5
      subst e3
      rw [hsz] at hcs ht hown
      have hlen := hown.1
      rw [← hnl] at hlen ht
      have holds : ∀ j u, inner[j]? = some u → (W.alloc (.cells #[.int .i64 p.f0, .int .i64 p.f1] 59)).cell? ((⟨g, 0, none⟩ : Addr).add j) = some u := by
        intro j u hu
        have hgl : g < W.heap.size := by
          have := (Array.getElem?_eq_some_iff.1 hh).1
          exact this
        have hb2 : (W.alloc (.cells #[.int .i64 p.f0, .int .i64 p.f1] 59)).heap[g]? = some (.cells cur 59 (0, 0)) := by
          rw [← hh]
          exact (below_alloc (Below.refl W.heap.size W) _).block g hgl
        refine World.news_of_block hb2 j u ?_
        rw [← ht, List.getElem?_take] at hu
        split at hu
        · exact hu
        · cases hu
      obtain ⟨v1, w1, h1, h2, h3⟩ := run_append_arg_grows (P := Try.prog) (w := W.alloc (.cells #[.int .i64 p.f0, .int .i64 p.f1] 59)) 46 ty 59 i0 (.agg #[.int .i64 0, .int .i64 0]) 2 16 Try.underlying46 hi hz0 hz1 hz2 rfl (by decide) ⟨g, 0, none⟩ n n inner hlen holds ⟨W.heap.size, 0, none⟩ 1 1 [.int .i64 p.f0, .int .i64 p.f1] rfl hnews (by omega) (by simp only [maxLen]; omega) (by omega)
      exact ⟨v1, w1, h1, by simpa using h2, h3⟩
  obtain ⟨v1, w1, h1, h2, h3⟩ := key
  have hgr : W.grownBy w1 none := World.grownBy.trans (World.grownBy_alloc W _ _) h3
  refine ⟨v1, w1, h1, ?_, (below_alloc (Below.refl W.heap.size W) _).grown h3 (by simp) (fun k hk => by cases hk)⟩
  have hown1 : w1.ownsRow B 59 k59.sz v1 (now.length + 1) (inner ++ [.int .i64 p.f0, .int .i64 p.f1]) := by rw [← hnl]; exact own_weaken h2 (by omega)
  refine Kd.R_appended (okp := fun _ => False) h0 hr (k59_mkM _ _ _ p) (fun _ hk => hk.elim) (fun _ _ => trivial) hown1 (grown_some hgr _) ?_
  right
  rcases h2.2 with ⟨_, e⟩ | ⟨g, cap, cur, e, hg, _⟩
  · omega
  · exact ⟨g, by rw [e]; rfl, by omega⟩
section
variable {ops : Array Oper} {o : Oper} {a : Act} {Q : Exit → Act → World → Prop} {K : Act → World → Prop}
theorem step_append59 {W : World} {B : Nat} {A1 : Option Addr} {n c1 : Nat} {now : List S59} (p : S59) (hw : Region.wanted o (yielded ops a.tmps) = true) (s x : Operand) (ho : o.op = .call { callee := .builtin .append, args := #[s, x], argTypes := #[46, 46] })
    (hs : a.eval s = .slice A1 n n) (hx : a.eval x = .slice (some ⟨W.heap.size, 0, none⟩) 1 1) (HO : Kd.R k59 59 W B (fun _ => True) (.slice A1 n c1) now) (hB : B ≤ W.heap.size) (hn : n ≤ 1000)
    (h : ∀ v1 w1, Kd.R k59 59 w1 B (fun _ => True) v1 (now ++ [p]) → Below W.heap.size W w1 → K (a.put o.dst v1) w1) :
    if Region.wanted o (yielded ops a.tmps) = true then Oper.wp Try.prog o a (W.alloc (.cells #[.int .i64 p.f0, .int .i64 p.f1] 59)) K Q else K (a.put o.dst undef) (W.alloc (.cells #[.int .i64 p.f0, .int .i64 p.f1] 59)) := by
  obtain ⟨v1, w1, hr, h1, h2⟩ := append59_run p o.type HO hB hn
  rw [if_pos hw]
  unfold Oper.wp execOp
  simp only [ho, resolve, invoke, builtin, Sem.run_bind, Sem.run_pure, Result.andThen_ok, List.map_toArray, List.map_cons, List.map_nil, hs, hx, hr]
  exact h v1 w1 h1 h2
end
end Go.Proofs.Ytbjpjjokamaliaa.B

/- The specification's search for a pairing: the walk. (Printed by gen_e4.py.) -/
namespace Go.Proofs.Ytbjpjjokamaliaa.B
open Go.Proofs.Ytbjpjjokamaliaa.A
open Go.RowKit Go.Proofs.YtbjpjjokamaliaaW.PrintWords Go.Proofs.YtbjpjjokamaliaaW.PrintMore

theorem bit_ask (y a : Nat) : (((y : Int) / 2 ^ a).tmod 2 == 1) = y.testBit a := by
  have e : ((y : Int) / 2 ^ a) = ((y / 2 ^ a : Nat) : Int) := by simp
  rw [e, Int.tmod_eq_emod_of_nonneg (Int.natCast_nonneg _), Nat.testBit_eq_decide_div_mod_eq]
  by_cases h : y / 2 ^ a % 2 = 1
  · have : ((y / 2 ^ a : Nat) : Int) % 2 = 1 := by omega
    rw [this, decide_eq_true h]; rfl
  · have : ((y / 2 ^ a : Nat) : Int) % 2 = 0 := by omega
    rw [this, decide_eq_false h]; rfl
theorem wrap_two {a : Nat} (h : a ≤ 9) : IntKind.i64.wrap (2 ^ a) = 2 ^ a := by
  have : ∀ m : Nat, m < 10 → IntKind.i64.wrap (2 ^ m) = (2 : Int) ^ m := by decide +kernel
  exact this a (by omega)
theorem or_two {m used a b : Nat} (h9 : m ≤ 9) (hu : used < 2 ^ m) (ha : a < m) (hb : b < m) : bits .or .i64 (bits .or .i64 (used : Int) (2 ^ a)) (2 ^ b) = ((used ||| setN (pr a b) : Nat) : Int) := by
  have e1 : (2 : Int) ^ a = ((2 ^ a : Nat) : Int) := by simp
  have e2 : (2 : Int) ^ b = ((2 ^ b : Nat) : Int) := by simp
  have l1 : (2 : Nat) ^ a < 2 ^ m := Nat.pow_lt_pow_right (by decide) ha
  have l2 : (2 : Nat) ^ b < 2 ^ m := Nat.pow_lt_pow_right (by decide) hb
  rw [e1, e2, or64 _ _ (lt62 hu (by omega)) (lt62 l1 (by omega)), or64 _ _ (lt62 (or_lt hu l1) (by omega)) (lt62 l2 (by omega)), Nat.or_assoc]
  rfl

set_option linter.unusedSimpArgs false
def PrSaid (l : List Int) (m : Nat) (A : Option Addr) (c many B k : Nat) : Prop :=
  ∀ (used : Nat) (now : List S59) (v : Value) (W : World), Kd.R k59 59 W B (fun _ => True) v now → B ≤ W.heap.size → now.length + k = many → used < 2 ^ m → goodP m 0 (-1) now = true → useL 0 now = used → Kd.C (Kd.int .i64) W A l.length l →
    Calls Try.prog 51 #[.int .i64 m, .slice A l.length c, .int .i64 many, v, .int .i64 used] W fun e w' => ∃ v', e = .returned (.tuple #[v', .bool (srch l m k used now).isSome]) ∧ (∀ ps, srch l m k used now = some ps → Kd.R k59 59 w' B (fun _ => True) v' ps) ∧ Below W.heap.size W w'

set_option maxRecDepth 100000 in
set_option maxHeartbeats 800000 in
theorem pr_zero (l : List Int) (m : Nat) (hF : okF m l = 0) (A : Option Addr) (c many B : Nat) (hc : l.length ≤ c) (h9 : many ≤ 9) : PrSaid l m A c many B 0 := by
  intro used now v W hR hB hn hu hg _ hr
  obtain ⟨A2, c2, rfl, hc2, hC⟩ := Kd.R_reads hR
  rw [Nat.add_zero] at hn
  subst hn
  have e0 : srch l m 0 used now = if isPB m l now = true then some now else none := by
    rw [srch]
    unfold isPB
    rw [hg, Bool.true_and]
  rw [e0]
  obtain ⟨k, hk⟩ := (rIsP_ev hF now (by omega)).rounds
  have HR := Aside0.mk hR
  have HC := Aside0.mk hc
  have HCC := Aside0.mk hC
  have HC2 := Aside0.mk hc2
  have HA := Aside0.mk hr
  have HK := Aside0.mk hk
  obtain ⟨b, hb⟩ : ∃ b, isPB m l now = b := ⟨_, rfl⟩
  rw [hb] at HK ⊢
  obtain ⟨S, hS⟩ : ∃ S, (if b = true then some now else none) = S := ⟨_, rfl⟩
  have HS1 : Aside0 (S.isSome = b) := ⟨by rw [← hS]; cases b <;> rfl⟩
  have HS2 : Aside0 (∀ ps, S = some ps → ps = now) := ⟨fun ps hp => by rw [← hS] at hp; cases b <;> cases hp; rfl⟩
  rw [hS]
  clear hR hg hr hC hc2 hc hk hb e0 hS
  go_enter Try.func51, Try.ntmps51
  go_wp2_with (go_at_call 53; refine (drovewayref04_isPairing.calls k m A c l A2 c2 now b _ HA.out HC.out HCC.out HC2.out HK.out).mono ?_; rintro e w2 ⟨rfl, hb2⟩; have HB2 := Aside0.mk hb2; clear hb2)
  go_ret2
  refine ⟨_, by rw [HS1.out]; rfl, fun ps hp => ?_, HB2.out⟩
  have := HS2.out ps hp
  subst this
  exact Kd.R_below HR.out HB2.out

theorem last_ok_nil (used a b : Nat) (h : used &&& setN (pr a b) = 0) : okB used [] a b = true := by simp [okB, lastOk, h]
theorem last_ok_cat {used a b : Nat} {q : List S59} {p : S59} (h : used &&& setN (pr a b) = 0) (hp : p.f0 ≤ (a : Int)) : okB used (q ++ [p]) a b = true := by simp [okB, lastOk, h, hp]
theorem good_next {m used a b : Nat} {now : List S59} (hg : goodP m 0 (-1) now = true) (hu : useL 0 now = used) (hab : a < b) (hb : b < m) (h0 : used &&& setN (pr a b) = 0) (hk : okB used now a b = true) : goodP m 0 (-1) (now ++ [pr a b]) = true := by
  rw [goodP_app, hg, Bool.true_and, hu, goodP_cons]
  have hl : lastF (-1) now ≤ (a : Int) := by
    unfold okB at hk
    rw [Bool.and_eq_true] at hk
    exact (lastOk_iff now a).1 hk.2
  have hne : lastF (-1) now ≠ (a : Int) := fun e => by
    have := useL_last (fun q hq => (goodP_mem now _ _ hg q hq).1) e
    rw [hu] at this
    have hz : used.testBit a = false := (and_setN.1 h0).1
    rw [hz] at this
    cases this
  refine ⟨⟨by show (0 : Int) ≤ (a : Int); omega, by show (a : Int) < (b : Int); omega, by show (b : Int) < m; omega, h0, by show lastF (-1) now < (a : Int); omega⟩, rfl⟩

set_option maxRecDepth 100000 in
set_option maxHeartbeats 3200000 in
theorem pr_step (l : List Int) (m : Nat) (h9 : m ≤ 9) (A : Option Addr) (c many B k : Nat) (hm9 : many ≤ 9) (ih : PrSaid l m A c many B k) : PrSaid l m A c many B (k + 1) := by
  intro used now v W hR hB hn hu hg hus hr
  have HI := Aside0.mk ih
  have HB := Aside0.mk hB
  have HN := Aside0.mk hn
  have HU := Aside0.mk hu
  have HUse := Aside0.mk hus
  have HA := Aside0.mk hr
  have HGood : Aside0 (∀ a b : Nat, a < b → b < m → used &&& setN (pr a b) = 0 → okB used now a b = true → goodP m 0 (-1) (now ++ [pr a b]) = true) := ⟨fun a b h1 h2 h3 h4 => good_next hg hus h1 h2 h3 h4⟩
  obtain ⟨S, hS⟩ : ∃ S, srch l m (k + 1) used now = S := ⟨_, rfl⟩
  have HS := Aside0.mk hS
  rw [hS]
  have hne : ((now.length : Int) == (many : Int)) = false := by rw [beq_eq_false_iff_ne]; omega
  have hne2 : ¬ (now.length : Int) = (many : Int) := by omega
  rcases List.eq_nil_or_concat now with hnil | ⟨q, p, hcc⟩
  · obtain ⟨A2, c2, rfl, hc2, _⟩ := Kd.R_reads hR
    have hl0 : now.length = 0 := by rw [hnil]; rfl
    have HR : Aside0 (Kd.R k59 59 W B (fun _ => True) (.slice A2 0 c2) now) := ⟨by rw [← hl0]; exact hR⟩
    have HLast : Aside0 (∀ a b : Nat, used &&& setN (pr a b) = 0 → 0 ≤ a → okB used now a b = true) := ⟨fun a b h _ => by rw [hnil]; exact last_ok_nil used a b h⟩
    have hne0 : ((0 : Int) == (many : Int)) = false := by rw [hl0] at hne; exact hne
    have hm0 : ¬ (0 : Int) = (many : Int) := by rw [hl0] at hne2; exact hne2
    rw [hl0]
    clear hnil ih hB hn hu hus hr hS hg hR hl0 hne hne2 hc2
    go_enter Try.func51, Try.ntmps51
    go_wp2
    go_loopg [13, 14, 15, 16] m (fun gg v13 _ _ _ wr => ∃ a : Nat, 0 ≤ a ∧ a ≤ m ∧ m - a ≤ gg ∧ v13 = .int .i64 a ∧ Aside0 (Below W.heap.size W wr) ∧ Aside0 (firstN (fun a => firstN (fun b => if a < b ∧ okB used now a b = true then srch l m k (used ||| setN (pr a b)) (now ++ [pr a b]) else none) m) a = none))
    case atStart => exact ⟨0, Nat.zero_le _, Nat.zero_le _, by omega, rfl, ⟨Below.refl _ _⟩, ⟨rfl⟩⟩
    case round =>
      obtain ⟨a, hlo, ha, hgg, rfl, HBr, HF⟩ := hrel
      by_cases hlt : a < m
      · have hltz : (a : Int) < (m : Int) := by omega
        go_wp2
        have HG : Aside0 (firstN (fun b => if a < b ∧ okB used now a b = true then srch l m k (used ||| setN (pr a b)) (now ++ [pr a b]) else none) (a + 1) = none) := ⟨firstN_none _ fun i hi => by rw [if_neg (by omega)]⟩
        go_loopg [14, 15, 16] m (fun gg2 v14 _ _ wr => ∃ b : Nat, a < b ∧ b ≤ m ∧ m - b ≤ gg2 ∧ v14 = .int .i64 b ∧ Aside0 (Below W.heap.size W wr) ∧ Aside0 (firstN (fun b => if a < b ∧ okB used now a b = true then srch l m k (used ||| setN (pr a b)) (now ++ [pr a b]) else none) b = none))
        case atStart => exact ⟨a + 1, by omega, by omega, by omega, by go_num, HBr, HG⟩
        case round =>
          clear HBr HG
          obtain ⟨b, hab, hb, hgg2, rfl, HBr, HG⟩ := hrel
          by_cases hblt : b < m
          · have hbltz : (b : Int) < (m : Int) := by omega
            have ka := bit_ask used a
            have kb := bit_ask used b
            cases hta : used.testBit a with
            | true =>
              rw [hta] at ka
              have HT : Aside0 (okB used now a b = false) := ⟨okB_no fun e => by have hz : used.testBit a = false := (and_setN.1 e).1; rw [hz] at hta; cases hta⟩
              clear hta
              go_wp2
              go_roundg (m - (b + 1))
              case measure => omega
              case rel => exact ⟨b + 1, by omega, by omega, by omega, by go_num, HBr, ⟨by rw [firstN_succ_none HG.out, if_neg (fun h => by rw [HT.out] at h; exact absurd h.2 (by decide))]⟩⟩
            | false =>
              rw [hta] at ka
              cases htb : used.testBit b with
              | true =>
                rw [htb] at kb
                have HT : Aside0 (okB used now a b = false) := ⟨okB_no fun e => by have hz : used.testBit b = false := (and_setN.1 e).2; rw [hz] at htb; cases htb⟩
                clear hta htb
                go_wp2
                go_roundg (m - (b + 1))
                case measure => omega
                case rel => exact ⟨b + 1, by omega, by omega, by omega, by go_num, HBr, ⟨by rw [firstN_succ_none HG.out, if_neg (fun h => by rw [HT.out] at h; exact absurd h.2 (by decide))]⟩⟩
              | false =>
                rw [htb] at kb
                have HUS : Aside0 (used &&& setN (pr a b) = 0) := ⟨and_setN.2 ⟨hta, htb⟩⟩
                have HOKB : Aside0 (okB used now a b = true) := ⟨HLast.out a b HUS.out hlo⟩
                clear hta htb
                have HRW : Aside0 (Kd.R k59 59 wr.drew B (fun _ => True) (.slice A2 0 c2) now) := ⟨Kd.R_below HR.out (below_drew HBr.out)⟩
                have HBW : Aside0 (B ≤ wr.drew.heap.size) := ⟨Nat.le_trans HB.out HBr.out.size⟩
                obtain ⟨R, hRR⟩ : ∃ R, srch l m k (used ||| setN (pr a b)) (now ++ [pr a b]) = R := ⟨_, rfl⟩
                have HRR := Aside0.mk hRR
                have hor := or_two h9 HU.out hlt hblt
                have hwa : IntKind.i64.wrap (2 ^ a) = 2 ^ a := wrap_two (by omega)
                have hwb : IntKind.i64.wrap (2 ^ b) = 2 ^ b := wrap_two (by omega)
                have HREC : Aside0 (∀ (v4 : Value) (w4 : World), Kd.R k59 59 w4 B (fun _ => True) v4 (now ++ [pr a b]) → Below wr.drew.heap.size wr.drew w4 → Calls Try.prog 51 #[.int .i64 m, .slice A l.length c, .int .i64 many, v4, .int .i64 (used ||| setN (pr a b) : Nat)] w4 fun e w' => ∃ v', e = .returned (.tuple #[v', .bool R.isSome]) ∧ (∀ ps, R = some ps → Kd.R k59 59 w' B (fun _ => True) v' ps) ∧ Below w4.heap.size w4 w') := ⟨fun v4 w4 h1 h2 => by
                  rw [← HRR.out]
                  exact HI.out (used ||| setN (pr a b)) (now ++ [pr a b]) v4 w4 h1 (Nat.le_trans HBW.out h2.size) (by rw [List.length_append, List.length_singleton]; have := HN.out; omega) (or_lt HU.out (setN_lt ⟨by show (0 : Int) ≤ (a : Int); omega, by show (a : Int) < m; omega, by show (0 : Int) ≤ (b : Int); omega, by show (b : Int) < m; omega⟩)) (HGood.out a b hab hblt HUS.out (HOKB.out)) (by rw [useL_app, HUse.out]; rfl) (Kd.C_below HA.out ((below_drew HBr.out).trans (Below.mono h2 HBr.out.size)))⟩
                clear hRR
                have hn9 : now.length ≤ 9 := by have := HN.out; omega
                go_wp2
                refine wp_region_noPanic ?_
                refine wp_region_held_drew (S := fun _ => True) (by kernel_rfl) trivial (fun hHeld => ?_)
                refine H_on 0 63 ?vn0 rfl rfl (by kernel_rfl) (by kernel_rfl) (by kernel_rfl) (by rfl) ?hn0 hHeld ?rn0
                case hn0 => (intro w hSw; (try dsimp only at hSw); go_simp <;> with_reducible rfl)
                simp only [Act.put, List.setIfInBounds_toArray, List.set_cons_zero, List.set_cons_succ]
                refine H_on 1 64 ?vn1 rfl rfl (by kernel_rfl) (by kernel_rfl) (by kernel_rfl) (by rfl) ?hn1 hHeld ?rn1
                case hn1 => (intro w hSw; (try dsimp only at hSw); go_simp <;> with_reducible rfl)
                simp only [Act.put, List.setIfInBounds_toArray, List.set_cons_zero, List.set_cons_succ]
                refine H_on 2 65 ?vn2 rfl rfl (by kernel_rfl) (by kernel_rfl) (by kernel_rfl) (by rfl) ?hn2 hHeld ?rn2
                case hn2 => (intro w hSw; (try dsimp only at hSw); go_simp <;> with_reducible rfl)
                simp only [Act.put, List.setIfInBounds_toArray, List.set_cons_zero, List.set_cons_succ]
                refine H_on 3 66 ?vn3 rfl rfl (by kernel_rfl) (by kernel_rfl) (by kernel_rfl) (by rfl) ?hn3 hHeld ?rn3
                case hn3 => (intro w hSw; (try dsimp only at hSw); go_simp <;> with_reducible rfl)
                simp only [Act.put, List.setIfInBounds_toArray, List.set_cons_zero, List.set_cons_succ]
                refine H_on 4 67 ?vn4 rfl rfl (by kernel_rfl) (by kernel_rfl) (by kernel_rfl) (by rfl) ?hn4 hHeld ?rn4
                case hn4 => (intro w hSw; (try dsimp only at hSw); go_simp <;> with_reducible rfl)
                simp only [Act.put, List.setIfInBounds_toArray, List.set_cons_zero, List.set_cons_succ]
                refine H_on 5 68 ?vn5 rfl rfl (by kernel_rfl) (by kernel_rfl) (by kernel_rfl) (by rfl) ?hn5 hHeld ?rn5
                case hn5 => (intro w hSw; (try dsimp only at hSw); go_simp <;> with_reducible rfl)
                simp only [Act.put, List.setIfInBounds_toArray, List.set_cons_zero, List.set_cons_succ]
                refine H_on 6 69 ?vn6 rfl rfl (by kernel_rfl) (by kernel_rfl) (by kernel_rfl) (by rfl) ?hn6 hHeld ?rn6
                case hn6 => (intro w hSw; (try dsimp only at hSw); go_simp <;> with_reducible rfl)
                simp only [Act.put, List.setIfInBounds_toArray, List.set_cons_zero, List.set_cons_succ]
                refine H_on 7 70 ?vn7 rfl rfl (by kernel_rfl) (by kernel_rfl) (by kernel_rfl) (by rfl) ?hn7 hHeld ?rn7
                case hn7 => (intro w hSw; (try dsimp only at hSw); go_simp <;> with_reducible rfl)
                simp only [Act.put, List.setIfInBounds_toArray, List.set_cons_zero, List.set_cons_succ]
                refine H_on 8 71 ?vn8 rfl rfl (by kernel_rfl) (by kernel_rfl) (by kernel_rfl) (by rfl) ?hn8 hHeld ?rn8
                case hn8 => (intro w hSw; (try dsimp only at hSw); go_simp <;> with_reducible rfl)
                simp only [Act.put, List.setIfInBounds_toArray, List.set_cons_zero, List.set_cons_succ]
                refine H_on 9 72 ?vn9 rfl rfl (by kernel_rfl) (by kernel_rfl) (by kernel_rfl) (by rfl) ?hn9 hHeld ?rn9
                case hn9 => (intro w hSw; (try dsimp only at hSw); go_simp <;> with_reducible rfl)
                simp only [Act.put, List.setIfInBounds_toArray, List.set_cons_zero, List.set_cons_succ]
                refine H_on 10 73 ?vn10 rfl rfl (by kernel_rfl) (by kernel_rfl) (by kernel_rfl) (by rfl) ?hn10 hHeld ?rn10
                case hn10 => (intro w hSw; (try dsimp only at hSw); go_simp <;> with_reducible rfl)
                simp only [Act.put, List.setIfInBounds_toArray, List.set_cons_zero, List.set_cons_succ]
                refine H_on 11 74 ?vn11 rfl rfl (by kernel_rfl) (by kernel_rfl) (by kernel_rfl) (by rfl) ?hn11 hHeld ?rn11
                case hn11 => (intro w hSw; (try dsimp only at hSw); go_simp <;> with_reducible rfl)
                simp only [Act.put, List.setIfInBounds_toArray, List.set_cons_zero, List.set_cons_succ]
                refine H_on 14 77 ?vn14 rfl rfl (by kernel_rfl) (by kernel_rfl) (by kernel_rfl) (by rfl) ?hn14 hHeld ?rn14
                case hn14 => (intro w hSw; (try dsimp only at hSw); go_simp <;> with_reducible rfl)
                simp only [Act.put, List.setIfInBounds_toArray, List.set_cons_zero, List.set_cons_succ]
                refine H_on 15 78 ?vn15 rfl rfl (by kernel_rfl) (by kernel_rfl) (by kernel_rfl) (by rfl) ?hn15 hHeld ?rn15
                case hn15 => (intro w hSw; (try dsimp only at hSw); go_simp <;> with_reducible rfl)
                simp only [Act.put, List.setIfInBounds_toArray, List.set_cons_zero, List.set_cons_succ]
                refine H_on 16 79 ?vn16 rfl rfl (by kernel_rfl) (by kernel_rfl) (by kernel_rfl) (by rfl) ?hn16 hHeld ?rn16
                case hn16 => (intro w hSw; (try dsimp only at hSw); go_simp <;> with_reducible rfl)
                simp only [Act.put, List.setIfInBounds_toArray, List.set_cons_zero, List.set_cons_succ]
                refine H_on 17 80 ?vn17 rfl rfl (by kernel_rfl) (by kernel_rfl) (by kernel_rfl) (by rfl) ?hn17 hHeld ?rn17
                case hn17 => (intro w hSw; (try dsimp only at hSw); go_simp <;> with_reducible rfl)
                simp only [Act.put, List.setIfInBounds_toArray, List.set_cons_zero, List.set_cons_succ]
                refine H_on 18 81 ?vn18 rfl rfl (by kernel_rfl) (by kernel_rfl) (by kernel_rfl) (by rfl) ?hn18 hHeld ?rn18
                case hn18 => (intro w hSw; (try dsimp only at hSw); go_simp <;> with_reducible rfl)
                simp only [Act.put, List.setIfInBounds_toArray, List.set_cons_zero, List.set_cons_succ]
                refine H_on 19 82 ?vn19 rfl rfl (by kernel_rfl) (by kernel_rfl) (by kernel_rfl) (by rfl) ?hn19 hHeld ?rn19
                case hn19 => (intro w hSw; (try dsimp only at hSw); go_simp <;> with_reducible rfl)
                simp only [Act.put, List.setIfInBounds_toArray, List.set_cons_zero, List.set_cons_succ]
                refine H_on 20 83 ?vn20 rfl rfl (by kernel_rfl) (by kernel_rfl) (by kernel_rfl) (by rfl) ?hn20 hHeld ?rn20
                case hn20 => (intro w hSw; (try dsimp only at hSw); go_simp <;> with_reducible rfl)
                simp only [Act.put, List.setIfInBounds_toArray, List.set_cons_zero, List.set_cons_succ]
                refine wpAnyH_ready (rs := [12]) (by kernel_rfl) (by simp) ?_
                refine AllReadyH.cons rfl (fun K hK => ?_) AllReadyH.nil
                go_simp
                refine hK.out _ _ trivial (fun hHeld => ?_)
                clear hK K
                try simp only [Act.put, List.setIfInBounds_toArray, List.set_cons_zero, List.set_cons_succ]
                refine wpAnyH_ready (rs := [13]) (by kernel_rfl) (by simp) ?_
                refine AllReadyH.cons rfl (fun K hK => ?_) AllReadyH.nil
                refine step_append59 (W := wr.drew) (B := B) (A1 := A2) (n := 0) (c1 := c2) (now := now) (pr a b) (by rfl) _ _ rfl rfl rfl HRW.out HBW.out (by omega) ?_
                intro v4 w4 hR4 hb4
                have HR4 := Aside0.mk hR4
                have HB4 := Aside0.mk hb4
                clear hR4 hb4
                refine hK.out _ _ trivial (fun hHeld => ?_)
                clear hK K
                try simp only [Act.put, List.setIfInBounds_toArray, List.set_cons_zero, List.set_cons_succ]
                refine wpAnyH_ready (rs := [21]) (by kernel_rfl) (by simp) ?_
                refine AllReadyH.cons rfl (fun K hK => ?_) AllReadyH.nil
                go_simp
                refine (HREC.out v4 w4 HR4.out HB4.out).mono ?_
                rintro e w5 ⟨v5, rfl, hR5, hb5⟩
                have HR5 := Aside0.mk hR5
                have HB5 := Aside0.mk hb5
                clear hR5 hb5
                go_wp2_with fail
                refine hK.out _ _ trivial (fun hHeld => ?_)
                clear hK K
                try simp only [Act.put, List.setIfInBounds_toArray, List.set_cons_zero, List.set_cons_succ]
                refine H_on 22 62 ?vn22 rfl rfl (by kernel_rfl) (by kernel_rfl) (by kernel_rfl) (by rfl) ?hn22 hHeld ?rn22
                case hn22 => (intro w hSw; (try dsimp only at hSw); go_simp <;> with_reducible rfl)
                simp only [Act.put, List.setIfInBounds_toArray, List.set_cons_zero, List.set_cons_succ]
                refine H_on 23 85 ?vn23 rfl rfl (by kernel_rfl) (by kernel_rfl) (by kernel_rfl) (by rfl) ?hn23 hHeld ?rn23
                case hn23 => (intro w hSw; (try dsimp only at hSw); go_simp <;> with_reducible rfl)
                simp only [Act.put, List.setIfInBounds_toArray, List.set_cons_zero, List.set_cons_succ]
                refine H_on 24 86 ?vn24 rfl rfl (by kernel_rfl) (by kernel_rfl) (by kernel_rfl) (by rfl) ?hn24 hHeld ?rn24
                case hn24 => (intro w hSw; (try dsimp only at hSw); go_simp <;> with_reducible rfl)
                simp only [Act.put, List.setIfInBounds_toArray, List.set_cons_zero, List.set_cons_succ]
                refine H_on 25 15 ?vn25 rfl rfl (by kernel_rfl) (by kernel_rfl) (by kernel_rfl) (by rfl) ?hn25 hHeld ?rn25
                case hn25 => (intro w hSw; (try dsimp only at hSw); go_simp <;> with_reducible rfl)
                simp only [Act.put, List.setIfInBounds_toArray, List.set_cons_zero, List.set_cons_succ]
                refine H_on 26 16 ?vn26 rfl rfl (by kernel_rfl) (by kernel_rfl) (by kernel_rfl) (by rfl) ?hn26 hHeld ?rn26
                case hn26 => (intro w hSw; (try dsimp only at hSw); go_simp <;> with_reducible rfl)
                simp only [Act.put, List.setIfInBounds_toArray, List.set_cons_zero, List.set_cons_succ]
                refine wpAnyH_done (by kernel_rfl) ?_ _
                refine NoPanic.normal ?_
                have HBF : Aside0 (Below W.heap.size W w5) := ⟨((below_drew HBr.out).trans (Below.mono HB4.out HBr.out.size)).trans (Below.mono HB5.out (Nat.le_trans HBr.out.size HB4.out.size))⟩
                cases R with
                | some r =>
                  go_wp2
                  go_ret2
                  have hfin : S = some r := by
                    rw [← HS.out, srch]
                    refine firstN_some hlt HF.out (firstN_some hblt HG.out ?_)
                    rw [if_pos ⟨hab, HOKB.out⟩]
                    exact HRR.out
                  subst hfin
                  exact ⟨_, rfl, HR5.out, HBF.out⟩
                | none =>
                  go_wp2
                  go_roundg (m - (b + 1))
                  case measure => omega
                  case rel =>
                    refine ⟨b + 1, by omega, by omega, by omega, by go_num, HBF, ⟨?_⟩⟩
                    rw [firstN_succ_none HG.out, if_pos ⟨hab, HOKB.out⟩]
                    exact HRR.out
          · have hbltz : ¬ (b : Int) < (m : Int) := by omega
            have hbm : b = m := by omega
            subst hbm
            have HG2 := HG
            go_wp2
            go_roundg (b - (a + 1))
            case measure => omega
            case rel => exact ⟨a + 1, by omega, by omega, by omega, by go_num, HBr, ⟨by rw [firstN_succ_none HF.out]; exact HG2.out⟩⟩
      · have hltz : ¬ (a : Int) < (m : Int) := by omega
        have ham : a = m := by omega
        subst ham
        have HSN : Aside0 (S = none) := ⟨by rw [← HS.out, srch]; exact HF.out⟩
        go_wp2
        go_ret2
        exact ⟨_, by rw [HSN.out]; rfl, fun ps hp => (by rw [HSN.out] at hp; cases hp), HBr.out⟩
  · rw [List.concat_eq_append] at hcc
    have hR2 := hR
    rw [hcc] at hR2
    obtain ⟨ad, c2, hv2, hc2, hcell⟩ := last_cell hR2
    have hl : now.length = q.length + 1 := by rw [hcc]; simp
    subst hv2
    have hp : 0 ≤ p.f0 ∧ p.f0 < m := by
      have := goodP_mem now _ _ hg p (by rw [hcc]; simp)
      omega
    obtain ⟨f, hf⟩ := Int.eq_ofNat_of_zero_le hp.1
    rw [hf] at hcell
    have HR := Aside0.mk hR
    have HLast : Aside0 (∀ a b : Nat, used &&& setN (pr a b) = 0 → f + 1 ≤ a → okB used now a b = true) := ⟨fun a b h h2 => by rw [hcc]; exact last_ok_cat h (by omega)⟩
    have HSt : Aside0 (firstN (fun a => firstN (fun b => if a < b ∧ okB used now a b = true then srch l m k (used ||| setN (pr a b)) (now ++ [pr a b]) else none) m) (f + 1) = none) := ⟨firstN_none _ fun a ha => firstN_none _ fun b hb => by
      rw [if_neg]
      rintro ⟨_, hk⟩
      have hk2 := hk
      unfold okB at hk
      rw [Bool.and_eq_true, decide_eq_true_iff] at hk
      have h1 := (lastOk_iff now a).1 hk.2
      have h2 : lastF (-1) now = p.f0 := by rw [hcc, lastF_app]; rfl
      have h3 : lastF (-1) now = (a : Int) := by omega
      have := useL_last (fun q hq => (goodP_mem now _ _ hg q hq).1) h3
      have hz : used.testBit a = false := (and_setN.1 hk.1).1
      rw [hus, hz] at this
      cases this⟩
    have hne1 : (((q.length : Int) + 1) == (many : Int)) = false := by rw [beq_eq_false_iff_ne]; omega
    have hm1 : ¬ (q.length : Int) + 1 = (many : Int) := by omega
    have hq9 : q.length ≤ 9 := by omega
    have hfm : f + 1 ≤ m := by omega
    have hb1 : (0 : Int) ≤ (q.length : Int) + 1 := by omega
    have hb2 : (q.length : Int) + 1 ≤ (c2 : Int) := by omega
    clear hcc ih hB hn hu hus hr hS hg hR hR2 hne hne2 hp hf
    go_enter Try.func51, Try.ntmps51
    go_wp2
    go_loopg [13, 14, 15, 16] m (fun gg v13 _ _ _ wr => ∃ a : Nat, f + 1 ≤ a ∧ a ≤ m ∧ m - a ≤ gg ∧ v13 = .int .i64 a ∧ Aside0 (Below W.heap.size W wr) ∧ Aside0 (firstN (fun a => firstN (fun b => if a < b ∧ okB used now a b = true then srch l m k (used ||| setN (pr a b)) (now ++ [pr a b]) else none) m) a = none))
    case atStart => exact ⟨f + 1, Nat.le_refl _, hfm, by omega, by go_num, ⟨Below.refl _ _⟩, HSt⟩
    case round =>
      obtain ⟨a, hlo, ha, hgg, rfl, HBr, HF⟩ := hrel
      by_cases hlt : a < m
      · have hltz : (a : Int) < (m : Int) := by omega
        go_wp2
        have HG : Aside0 (firstN (fun b => if a < b ∧ okB used now a b = true then srch l m k (used ||| setN (pr a b)) (now ++ [pr a b]) else none) (a + 1) = none) := ⟨firstN_none _ fun i hi => by rw [if_neg (by omega)]⟩
        go_loopg [14, 15, 16] m (fun gg2 v14 _ _ wr => ∃ b : Nat, a < b ∧ b ≤ m ∧ m - b ≤ gg2 ∧ v14 = .int .i64 b ∧ Aside0 (Below W.heap.size W wr) ∧ Aside0 (firstN (fun b => if a < b ∧ okB used now a b = true then srch l m k (used ||| setN (pr a b)) (now ++ [pr a b]) else none) b = none))
        case atStart => exact ⟨a + 1, by omega, by omega, by omega, by go_num, HBr, HG⟩
        case round =>
          clear HBr HG
          obtain ⟨b, hab, hb, hgg2, rfl, HBr, HG⟩ := hrel
          by_cases hblt : b < m
          · have hbltz : (b : Int) < (m : Int) := by omega
            have ka := bit_ask used a
            have kb := bit_ask used b
            cases hta : used.testBit a with
            | true =>
              rw [hta] at ka
              have HT : Aside0 (okB used now a b = false) := ⟨okB_no fun e => by have hz : used.testBit a = false := (and_setN.1 e).1; rw [hz] at hta; cases hta⟩
              clear hta
              go_wp2
              go_roundg (m - (b + 1))
              case measure => omega
              case rel => exact ⟨b + 1, by omega, by omega, by omega, by go_num, HBr, ⟨by rw [firstN_succ_none HG.out, if_neg (fun h => by rw [HT.out] at h; exact absurd h.2 (by decide))]⟩⟩
            | false =>
              rw [hta] at ka
              cases htb : used.testBit b with
              | true =>
                rw [htb] at kb
                have HT : Aside0 (okB used now a b = false) := ⟨okB_no fun e => by have hz : used.testBit b = false := (and_setN.1 e).2; rw [hz] at htb; cases htb⟩
                clear hta htb
                go_wp2
                go_roundg (m - (b + 1))
                case measure => omega
                case rel => exact ⟨b + 1, by omega, by omega, by omega, by go_num, HBr, ⟨by rw [firstN_succ_none HG.out, if_neg (fun h => by rw [HT.out] at h; exact absurd h.2 (by decide))]⟩⟩
              | false =>
                rw [htb] at kb
                have HUS : Aside0 (used &&& setN (pr a b) = 0) := ⟨and_setN.2 ⟨hta, htb⟩⟩
                have HOKB : Aside0 (okB used now a b = true) := ⟨HLast.out a b HUS.out hlo⟩
                clear hta htb
                have HRW : Aside0 (Kd.R k59 59 wr.drew B (fun _ => True) (.slice (some ad) (q.length + 1) c2) now) := ⟨Kd.R_below HR.out (below_drew HBr.out)⟩
                have HBW : Aside0 (B ≤ wr.drew.heap.size) := ⟨Nat.le_trans HB.out HBr.out.size⟩
                obtain ⟨R, hRR⟩ : ∃ R, srch l m k (used ||| setN (pr a b)) (now ++ [pr a b]) = R := ⟨_, rfl⟩
                have HRR := Aside0.mk hRR
                have hor := or_two h9 HU.out hlt hblt
                have hwa : IntKind.i64.wrap (2 ^ a) = 2 ^ a := wrap_two (by omega)
                have hwb : IntKind.i64.wrap (2 ^ b) = 2 ^ b := wrap_two (by omega)
                have HREC : Aside0 (∀ (v4 : Value) (w4 : World), Kd.R k59 59 w4 B (fun _ => True) v4 (now ++ [pr a b]) → Below wr.drew.heap.size wr.drew w4 → Calls Try.prog 51 #[.int .i64 m, .slice A l.length c, .int .i64 many, v4, .int .i64 (used ||| setN (pr a b) : Nat)] w4 fun e w' => ∃ v', e = .returned (.tuple #[v', .bool R.isSome]) ∧ (∀ ps, R = some ps → Kd.R k59 59 w' B (fun _ => True) v' ps) ∧ Below w4.heap.size w4 w') := ⟨fun v4 w4 h1 h2 => by
                  rw [← HRR.out]
                  exact HI.out (used ||| setN (pr a b)) (now ++ [pr a b]) v4 w4 h1 (Nat.le_trans HBW.out h2.size) (by rw [List.length_append, List.length_singleton]; have := HN.out; omega) (or_lt HU.out (setN_lt ⟨by show (0 : Int) ≤ (a : Int); omega, by show (a : Int) < m; omega, by show (0 : Int) ≤ (b : Int); omega, by show (b : Int) < m; omega⟩)) (HGood.out a b hab hblt HUS.out (HOKB.out)) (by rw [useL_app, HUse.out]; rfl) (Kd.C_below HA.out ((below_drew HBr.out).trans (Below.mono h2 HBr.out.size)))⟩
                clear hRR
                have hn9 : now.length ≤ 9 := by have := HN.out; omega
                go_wp2
                refine wp_region_noPanic ?_
                refine wp_region_held_drew (S := fun _ => True) (by kernel_rfl) trivial (fun hHeld => ?_)
                refine H_on 0 63 ?vc0 rfl rfl (by kernel_rfl) (by kernel_rfl) (by kernel_rfl) (by rfl) ?hc0 hHeld ?rc0
                case hc0 => (intro w hSw; (try dsimp only at hSw); go_simp <;> with_reducible rfl)
                simp only [Act.put, List.setIfInBounds_toArray, List.set_cons_zero, List.set_cons_succ]
                refine H_on 1 64 ?vc1 rfl rfl (by kernel_rfl) (by kernel_rfl) (by kernel_rfl) (by rfl) ?hc1 hHeld ?rc1
                case hc1 => (intro w hSw; (try dsimp only at hSw); go_simp <;> with_reducible rfl)
                simp only [Act.put, List.setIfInBounds_toArray, List.set_cons_zero, List.set_cons_succ]
                refine H_on 2 65 ?vc2 rfl rfl (by kernel_rfl) (by kernel_rfl) (by kernel_rfl) (by rfl) ?hc2 hHeld ?rc2
                case hc2 => (intro w hSw; (try dsimp only at hSw); go_simp <;> with_reducible rfl)
                simp only [Act.put, List.setIfInBounds_toArray, List.set_cons_zero, List.set_cons_succ]
                refine H_on 3 66 ?vc3 rfl rfl (by kernel_rfl) (by kernel_rfl) (by kernel_rfl) (by rfl) ?hc3 hHeld ?rc3
                case hc3 => (intro w hSw; (try dsimp only at hSw); go_simp <;> with_reducible rfl)
                simp only [Act.put, List.setIfInBounds_toArray, List.set_cons_zero, List.set_cons_succ]
                refine H_on 4 67 ?vc4 rfl rfl (by kernel_rfl) (by kernel_rfl) (by kernel_rfl) (by rfl) ?hc4 hHeld ?rc4
                case hc4 => (intro w hSw; (try dsimp only at hSw); go_simp <;> with_reducible rfl)
                simp only [Act.put, List.setIfInBounds_toArray, List.set_cons_zero, List.set_cons_succ]
                refine H_on 5 68 ?vc5 rfl rfl (by kernel_rfl) (by kernel_rfl) (by kernel_rfl) (by rfl) ?hc5 hHeld ?rc5
                case hc5 => (intro w hSw; (try dsimp only at hSw); go_simp <;> with_reducible rfl)
                simp only [Act.put, List.setIfInBounds_toArray, List.set_cons_zero, List.set_cons_succ]
                refine H_on 6 69 ?vc6 rfl rfl (by kernel_rfl) (by kernel_rfl) (by kernel_rfl) (by rfl) ?hc6 hHeld ?rc6
                case hc6 => (intro w hSw; (try dsimp only at hSw); go_simp <;> with_reducible rfl)
                simp only [Act.put, List.setIfInBounds_toArray, List.set_cons_zero, List.set_cons_succ]
                refine H_on 7 70 ?vc7 rfl rfl (by kernel_rfl) (by kernel_rfl) (by kernel_rfl) (by rfl) ?hc7 hHeld ?rc7
                case hc7 => (intro w hSw; (try dsimp only at hSw); go_simp <;> with_reducible rfl)
                simp only [Act.put, List.setIfInBounds_toArray, List.set_cons_zero, List.set_cons_succ]
                refine H_on 8 71 ?vc8 rfl rfl (by kernel_rfl) (by kernel_rfl) (by kernel_rfl) (by rfl) ?hc8 hHeld ?rc8
                case hc8 => (intro w hSw; (try dsimp only at hSw); go_simp <;> with_reducible rfl)
                simp only [Act.put, List.setIfInBounds_toArray, List.set_cons_zero, List.set_cons_succ]
                refine H_on 9 72 ?vc9 rfl rfl (by kernel_rfl) (by kernel_rfl) (by kernel_rfl) (by rfl) ?hc9 hHeld ?rc9
                case hc9 => (intro w hSw; (try dsimp only at hSw); go_simp <;> with_reducible rfl)
                simp only [Act.put, List.setIfInBounds_toArray, List.set_cons_zero, List.set_cons_succ]
                refine H_on 10 73 ?vc10 rfl rfl (by kernel_rfl) (by kernel_rfl) (by kernel_rfl) (by rfl) ?hc10 hHeld ?rc10
                case hc10 => (intro w hSw; (try dsimp only at hSw); go_simp <;> with_reducible rfl)
                simp only [Act.put, List.setIfInBounds_toArray, List.set_cons_zero, List.set_cons_succ]
                refine H_on 11 74 ?vc11 rfl rfl (by kernel_rfl) (by kernel_rfl) (by kernel_rfl) (by rfl) ?hc11 hHeld ?rc11
                case hc11 => (intro w hSw; (try dsimp only at hSw); go_simp <;> with_reducible rfl)
                simp only [Act.put, List.setIfInBounds_toArray, List.set_cons_zero, List.set_cons_succ]
                refine H_on 14 77 ?vc14 rfl rfl (by kernel_rfl) (by kernel_rfl) (by kernel_rfl) (by rfl) ?hc14 hHeld ?rc14
                case hc14 => (intro w hSw; (try dsimp only at hSw); go_simp <;> with_reducible rfl)
                simp only [Act.put, List.setIfInBounds_toArray, List.set_cons_zero, List.set_cons_succ]
                refine H_on 15 78 ?vc15 rfl rfl (by kernel_rfl) (by kernel_rfl) (by kernel_rfl) (by rfl) ?hc15 hHeld ?rc15
                case hc15 => (intro w hSw; (try dsimp only at hSw); go_simp <;> with_reducible rfl)
                simp only [Act.put, List.setIfInBounds_toArray, List.set_cons_zero, List.set_cons_succ]
                refine H_on 16 79 ?vc16 rfl rfl (by kernel_rfl) (by kernel_rfl) (by kernel_rfl) (by rfl) ?hc16 hHeld ?rc16
                case hc16 => (intro w hSw; (try dsimp only at hSw); go_simp <;> with_reducible rfl)
                simp only [Act.put, List.setIfInBounds_toArray, List.set_cons_zero, List.set_cons_succ]
                refine H_on 17 80 ?vc17 rfl rfl (by kernel_rfl) (by kernel_rfl) (by kernel_rfl) (by rfl) ?hc17 hHeld ?rc17
                case hc17 => (intro w hSw; (try dsimp only at hSw); go_simp <;> with_reducible rfl)
                simp only [Act.put, List.setIfInBounds_toArray, List.set_cons_zero, List.set_cons_succ]
                refine H_on 18 81 ?vc18 rfl rfl (by kernel_rfl) (by kernel_rfl) (by kernel_rfl) (by rfl) ?hc18 hHeld ?rc18
                case hc18 => (intro w hSw; (try dsimp only at hSw); go_simp <;> with_reducible rfl)
                simp only [Act.put, List.setIfInBounds_toArray, List.set_cons_zero, List.set_cons_succ]
                refine H_on 19 82 ?vc19 rfl rfl (by kernel_rfl) (by kernel_rfl) (by kernel_rfl) (by rfl) ?hc19 hHeld ?rc19
                case hc19 => (intro w hSw; (try dsimp only at hSw); go_simp <;> with_reducible rfl)
                simp only [Act.put, List.setIfInBounds_toArray, List.set_cons_zero, List.set_cons_succ]
                refine H_on 20 83 ?vc20 rfl rfl (by kernel_rfl) (by kernel_rfl) (by kernel_rfl) (by rfl) ?hc20 hHeld ?rc20
                case hc20 => (intro w hSw; (try dsimp only at hSw); go_simp <;> with_reducible rfl)
                simp only [Act.put, List.setIfInBounds_toArray, List.set_cons_zero, List.set_cons_succ]
                refine wpAnyH_ready (rs := [12]) (by kernel_rfl) (by simp) ?_
                refine AllReadyH.cons rfl (fun K hK => ?_) AllReadyH.nil
                go_simp
                refine hK.out _ _ trivial (fun hHeld => ?_)
                clear hK K
                try simp only [Act.put, List.setIfInBounds_toArray, List.set_cons_zero, List.set_cons_succ]
                refine wpAnyH_ready (rs := [13]) (by kernel_rfl) (by simp) ?_
                refine AllReadyH.cons rfl (fun K hK => ?_) AllReadyH.nil
                refine step_append59 (W := wr.drew) (B := B) (A1 := (some ad)) (n := (q.length + 1)) (c1 := c2) (now := now) (pr a b) (by rfl) _ _ rfl rfl rfl HRW.out HBW.out (by omega) ?_
                intro v4 w4 hR4 hb4
                have HR4 := Aside0.mk hR4
                have HB4 := Aside0.mk hb4
                clear hR4 hb4
                refine hK.out _ _ trivial (fun hHeld => ?_)
                clear hK K
                try simp only [Act.put, List.setIfInBounds_toArray, List.set_cons_zero, List.set_cons_succ]
                refine wpAnyH_ready (rs := [21]) (by kernel_rfl) (by simp) ?_
                refine AllReadyH.cons rfl (fun K hK => ?_) AllReadyH.nil
                go_simp
                refine (HREC.out v4 w4 HR4.out HB4.out).mono ?_
                rintro e w5 ⟨v5, rfl, hR5, hb5⟩
                have HR5 := Aside0.mk hR5
                have HB5 := Aside0.mk hb5
                clear hR5 hb5
                go_wp2_with fail
                refine hK.out _ _ trivial (fun hHeld => ?_)
                clear hK K
                try simp only [Act.put, List.setIfInBounds_toArray, List.set_cons_zero, List.set_cons_succ]
                refine H_on 22 62 ?vc22 rfl rfl (by kernel_rfl) (by kernel_rfl) (by kernel_rfl) (by rfl) ?hc22 hHeld ?rc22
                case hc22 => (intro w hSw; (try dsimp only at hSw); go_simp <;> with_reducible rfl)
                simp only [Act.put, List.setIfInBounds_toArray, List.set_cons_zero, List.set_cons_succ]
                refine H_on 23 85 ?vc23 rfl rfl (by kernel_rfl) (by kernel_rfl) (by kernel_rfl) (by rfl) ?hc23 hHeld ?rc23
                case hc23 => (intro w hSw; (try dsimp only at hSw); go_simp <;> with_reducible rfl)
                simp only [Act.put, List.setIfInBounds_toArray, List.set_cons_zero, List.set_cons_succ]
                refine H_on 24 86 ?vc24 rfl rfl (by kernel_rfl) (by kernel_rfl) (by kernel_rfl) (by rfl) ?hc24 hHeld ?rc24
                case hc24 => (intro w hSw; (try dsimp only at hSw); go_simp <;> with_reducible rfl)
                simp only [Act.put, List.setIfInBounds_toArray, List.set_cons_zero, List.set_cons_succ]
                refine H_on 25 15 ?vc25 rfl rfl (by kernel_rfl) (by kernel_rfl) (by kernel_rfl) (by rfl) ?hc25 hHeld ?rc25
                case hc25 => (intro w hSw; (try dsimp only at hSw); go_simp <;> with_reducible rfl)
                simp only [Act.put, List.setIfInBounds_toArray, List.set_cons_zero, List.set_cons_succ]
                refine H_on 26 16 ?vc26 rfl rfl (by kernel_rfl) (by kernel_rfl) (by kernel_rfl) (by rfl) ?hc26 hHeld ?rc26
                case hc26 => (intro w hSw; (try dsimp only at hSw); go_simp <;> with_reducible rfl)
                simp only [Act.put, List.setIfInBounds_toArray, List.set_cons_zero, List.set_cons_succ]
                refine wpAnyH_done (by kernel_rfl) ?_ _
                refine NoPanic.normal ?_
                have HBF : Aside0 (Below W.heap.size W w5) := ⟨((below_drew HBr.out).trans (Below.mono HB4.out HBr.out.size)).trans (Below.mono HB5.out (Nat.le_trans HBr.out.size HB4.out.size))⟩
                cases R with
                | some r =>
                  go_wp2
                  go_ret2
                  have hfin : S = some r := by
                    rw [← HS.out, srch]
                    refine firstN_some hlt HF.out (firstN_some hblt HG.out ?_)
                    rw [if_pos ⟨hab, HOKB.out⟩]
                    exact HRR.out
                  subst hfin
                  exact ⟨_, rfl, HR5.out, HBF.out⟩
                | none =>
                  go_wp2
                  go_roundg (m - (b + 1))
                  case measure => omega
                  case rel =>
                    refine ⟨b + 1, by omega, by omega, by omega, by go_num, HBF, ⟨?_⟩⟩
                    rw [firstN_succ_none HG.out, if_pos ⟨hab, HOKB.out⟩]
                    exact HRR.out
          · have hbltz : ¬ (b : Int) < (m : Int) := by omega
            have hbm : b = m := by omega
            subst hbm
            have HG2 := HG
            go_wp2
            go_roundg (b - (a + 1))
            case measure => omega
            case rel => exact ⟨a + 1, by omega, by omega, by omega, by go_num, HBr, ⟨by rw [firstN_succ_none HF.out]; exact HG2.out⟩⟩
      · have hltz : ¬ (a : Int) < (m : Int) := by omega
        have ham : a = m := by omega
        subst ham
        have HSN : Aside0 (S = none) := ⟨by rw [← HS.out, srch]; exact HF.out⟩
        go_wp2
        go_ret2
        exact ⟨_, by rw [HSN.out]; rfl, fun ps hp => (by rw [HSN.out] at hp; cases hp), HBr.out⟩
end Go.Proofs.Ytbjpjjokamaliaa.B

/- The specification's Pairing, as it is called. -/
namespace Go.Proofs.Ytbjpjjokamaliaa.B
open Go.Proofs.Ytbjpjjokamaliaa.A
open Go.RowKit Go.Proofs.YtbjpjjokamaliaaW.PrintWords Go.Proofs.YtbjpjjokamaliaaW.PrintMore

theorem pr_all (l : List Int) (m : Nat) (h9 : m ≤ 9) (hF : okF m l = 0) (A : Option Addr) (c many B : Nat) (hc : l.length ≤ c) (hm : many ≤ 9) : ∀ k, PrSaid l m A c many B k
  | 0 => pr_zero l m hF A c many B hc hm
  | k + 1 => pr_step l m h9 A c many B k hm (pr_all l m h9 hF A c many B hc hm k)

set_option maxRecDepth 100000 in
set_option maxHeartbeats 800000 in
theorem rPairing_err (m : Int) (A : Option Addr) (c : Nat) (l : List Int) (w : World) (hr : Kd.C (Kd.int .i64) w A l.length l) (hc : l.length ≤ c) (he : okF m l ≠ 0) :
    Calls Try.prog 27 #[.int .i64 m, .slice A l.length c] w fun e w' => e = .returned (.tuple #[.slice none 0 0, .int .i64 (okF m l)]) ∧ Below w.heap.size w w' := by
  obtain ⟨k, hk⟩ := (Field_ev m l).rounds
  have HR := Aside0.mk hr
  have HC := Aside0.mk hc
  have HK := Aside0.mk hk
  obtain ⟨E, hE⟩ : ∃ E, okF m l = E := ⟨_, rfl⟩
  rw [hE] at he HK ⊢
  have hg : (E != 0) = true := by rw [bne_iff_ne]; exact he
  clear hr hc hk hE he
  go_enter Try.func27, Try.ntmps27
  go_wp2_with (go_at_call 17; refine (drovewayref04_Field.calls k m A c l _ _ HR.out HC.out HK.out).mono ?_; rintro e w3 ⟨rfl, hb3⟩; have HB3 := Aside0.mk hb3.below; clear hb3)
  go_ret2
  exact ⟨rfl, HB3.out⟩

set_option maxRecDepth 100000 in
set_option maxHeartbeats 1600000 in
theorem rPairing_good (m : Nat) (A : Option Addr) (c : Nat) (l : List Int) (w : World) (hr : Kd.C (Kd.int .i64) w A l.length l) (hc : l.length ≤ c) (he : okF m l = 0) :
    Calls Try.prog 27 #[.int .i64 m, .slice A l.length c] w fun e w' => (∃ v : Value, e = .returned (.tuple #[v, .int .i64 (errS (pairF l m))]) ∧ Kd.R k59 59 w' w.heap.size (fun _ => True) v ((pairF l m).getD [])) ∧ Below w.heap.size w w' := by
  obtain ⟨k0, hk⟩ := (Field_ev m l).rounds
  rw [he] at hk
  have HR := Aside0.mk hr
  have HC := Aside0.mk hc
  have HE := Aside0.mk he
  have HK := Aside0.mk hk
  have h9 : m ≤ 9 := by have := okF_m he; omega
  obtain ⟨S, hS⟩ : ∃ S, pairF l m = S := ⟨_, rfl⟩
  have HS := Aside0.mk hS
  rw [hS]
  obtain ⟨E, hE⟩ : ∃ E, errS S = E := ⟨_, rfl⟩
  obtain ⟨G, hG⟩ : ∃ G, S.getD [] = G := ⟨_, rfl⟩
  have HEE := Aside0.mk hE
  have HGG := Aside0.mk hG
  rw [hE, hG]
  clear hr hc he hk hS hE hG
  go_enter Try.func27, Try.ntmps27
  go_wp2_with (go_at_call 17; refine (drovewayref04_Field.calls k0 m A c l _ _ HR.out HC.out HK.out).mono ?_; rintro e w3 ⟨rfl, hb3⟩; have HB3 := Aside0.mk hb3.below; clear hb3)
  go_loopg [7, 8, 9] (m / 2 + 1) (fun gg v7 _ _ wr => ∃ k : Nat, k ≤ m / 2 + 1 ∧ m / 2 + 1 - k ≤ gg ∧ v7 = .int .i64 k ∧ Aside0 (Below w.heap.size w wr) ∧ Aside0 (firstN (fun k => srch l m k 0 []) k = none))
  case atStart => exact ⟨0, Nat.zero_le _, by omega, rfl, HB3, ⟨rfl⟩⟩
  case round =>
    clear HB3
    obtain ⟨k, hk, hgg, rfl, HB, HF⟩ := hrel
    by_cases hlt : k < m / 2 + 1
    · have hltz : (2 : Int) * (k : Int) ≤ (m : Int) := by omega
      have hw2 : wrap64 (2 * (k : Int)) = 2 * (k : Int) := by rw [wrap64_id] <;> omega
      obtain ⟨R, hR⟩ : ∃ R, srch l m k 0 [] = R := ⟨_, rfl⟩
      have HRR := Aside0.mk hR
      have HCC : Aside0 (Calls Try.prog 51 #[.int .i64 m, .slice A l.length c, .int .i64 k, .slice none 0 0, .int .i64 0] wr fun e w' => ∃ v', e = .returned (.tuple #[v', .bool R.isSome]) ∧ (∀ ps, R = some ps → Kd.R k59 59 w' w.heap.size (fun _ => True) v' ps) ∧ Below wr.heap.size wr w') := ⟨by
        rw [← hR]
        exact pr_all l m h9 HE.out A c k w.heap.size HC.out (by omega) k 0 [] (.slice none 0 0) wr (Kd.R_nil _ _ _ _ _) HB.out.size (by simp) (Nat.two_pow_pos m) rfl rfl (Kd.C_below HR.out HB.out)⟩
      clear hR
      cases R with
      | none =>
        go_wp2_with (go_at_call 51; refine HCC.out.mono ?_; rintro e w7 ⟨v7, rfl, hR7, hb7⟩; have HB7 := Aside0.mk (HB.out.trans (Below.mono hb7 HB.out.size)); clear hR7 hb7)
        go_roundg (m / 2 + 1 - (k + 1))
        case measure => omega
        case rel =>
          refine ⟨k + 1, by omega, by omega, by go_num, HB7, ⟨?_⟩⟩
          rw [firstN_succ_none HF.out]
          exact HRR.out
      | some r =>
        go_wp2_with (go_at_call 51; refine HCC.out.mono ?_; rintro e w7 ⟨v7, rfl, hR7, hb7⟩; have HB7 := Aside0.mk (HB.out.trans (Below.mono hb7 HB.out.size)); have HR7 := Aside0.mk (hR7 r rfl); clear hR7 hb7)
        go_ret2
        have hfin : S = some r := by
          rw [← HS.out]
          exact firstN_some hlt HF.out HRR.out
        subst hfin
        have h1 : (0 : Int) = E := HEE.out
        have h2 : r = G := HGG.out
        subst h1 h2
        exact ⟨⟨_, rfl, HR7.out⟩, HB7.out⟩
    · have hltz : ¬ (2 : Int) * (k : Int) ≤ (m : Int) := by omega
      have hw2 : wrap64 (2 * (k : Int)) = 2 * (k : Int) := by rw [wrap64_id] <;> omega
      have hke : k = m / 2 + 1 := by omega
      have hfin : S = none := by
        rw [← HS.out, pairF, ← hke]
        exact HF.out
      subst hfin
      have h1 : (10 : Int) = E := HEE.out
      have h2 : ([] : List S59) = G := HGG.out
      subst h1 h2
      clear hke
      go_wp2
      go_ret2
      exact ⟨⟨_, rfl, Kd.R_nil _ _ _ _ _⟩, HB.out⟩

def drovewayref04_Pairing.f (a0 : Int) (l1 : List Int) : Option (List S59 × Int) := ambush_Pairing.f a0 l1
theorem drovewayref04_Pairing.calls (a0 : Int) (A1 : Option Addr) (c1 : Nat) (l1 : List Int) (r1 : List S59) (r2 : Int) (w : World) (hr1 : Kd.C (Kd.int .i64) w A1 l1.length l1) (hc1 : l1.length ≤ c1) (h : drovewayref04_Pairing.f a0 l1 = some (r1, r2)) :
    Calls Try.prog 27 #[.int .i64 a0, .slice A1 l1.length c1] w fun e w' => ∃ v0_ : Value, e = .returned (.tuple #[v0_, .int .i64 r2]) ∧ Kd.R k59 59 w' w.heap.size (fun _ => True) v0_ r1 ∧ Below w.heap.size w w' := by
  unfold drovewayref04_Pairing.f ambush_Pairing.f at h
  by_cases h0 : okF a0 l1 = 0
  · rw [if_pos h0] at h
    obtain ⟨m, rfl⟩ := Int.eq_ofNat_of_zero_le (show 0 ≤ a0 by have := okF_m h0; omega)
    rw [Int.toNat_natCast] at h
    cases h
    exact (rPairing_good m A1 c1 l1 w hr1 hc1 h0).mono fun e w' ⟨⟨v, h1, h2⟩, h3⟩ => ⟨v, h1, h2, h3⟩
  · rw [if_neg h0] at h
    cases h
    exact (rPairing_err a0 A1 c1 l1 w hr1 hc1 h0).mono fun e w' ⟨h1, h3⟩ => ⟨_, h1, Kd.R_nil _ _ _ _ _, h3⟩
end Go.Proofs.Ytbjpjjokamaliaa.B

-- Printed by hprint.py (this claim's own program, over the kit's print.py) out of the translation and contracts by hand. Not trusted: Lean checks it.
namespace Go.Proofs.Ytbjpjjokamaliaa.PAmbushPairs
open Go.Proofs.Ytbjpjjokamaliaa.A Go.Proofs.Ytbjpjjokamaliaa.B
open Go.RowKit Go.Proofs.YtbjpjjokamaliaaW.PrintWords Go.Proofs.YtbjpjjokamaliaaW.PrintLast Go.Proofs.YtbjpjjokamaliaaW.PrintMore
attribute [local go_sem] max2_int min2_int max_two min_two max_three min_three max_four min_four   -- for this text's walks alone
set_option linter.unusedVariables false
set_option linter.unusedSimpArgs false



def errW : Option Int → Value
  | none => .nilIface
  | some c => .iface 0 (.int .i64 c)
theorem errW_none : errW none = .nilIface := rfl
theorem errW_some (c : Int) : errW (some c) = .iface 0 (.int .i64 c) := rfl

theorem info59 : (Try.prog.info? 59).map (fun i => (i.zero, i.size, i.bytes)) = some (some (.agg #[(.int .i64 0), (.int .i64 0)]), 2, 16) := by kernel_rfl
-- the values' own types
def rd_L1 (xs : List (List Int)) (i : Int) : (List Int) := xs.getD i.toNat ([] : List Int)
theorem at_L1 {w : World} {A : Option Addr} {n : Nat} {xs : List (List Int)} (h : Kd.C (Kd.slice 3 (Kd.int .i64)) w A n xs) (i : Int) (h0 : 0 ≤ i) (h1 : i < n) : ∃ ad A0 c0, A = some ad ∧ w.cell? (ad.add i.toNat) = some (.slice A0 (rd_L1 xs i).length c0) ∧ (rd_L1 xs i).length ≤ c0 ∧ (Kd.int .i64).C w A0 (rd_L1 xs i).length (rd_L1 xs i) := by
  obtain ⟨ad, c, e, _, hK, hc0⟩ := Kd.C_get h ([] : List Int) i h0 h1
  have hc : ∀ j u, c[j]? = some u → w.cell? (ad.add (i.toNat * 1 + j)) = some u := hc0
  obtain ⟨A0, c0, rfl, l0, g0⟩ := hK
  exact ⟨ad, A0, c0, e, by have hq := hc 0 _ rfl; rwa [Nat.mul_one, Nat.add_zero] at hq, l0, g0⟩


end Go.Proofs.Ytbjpjjokamaliaa.PAmbushPairs

-- Printed by hprint.py (this claim's own program, over the kit's print.py) out of the translation and contracts by hand. Not trusted: Lean checks it.
namespace Go.Proofs.Ytbjpjjokamaliaa.PAmbushPairs
open Go.Proofs.Ytbjpjjokamaliaa.A Go.Proofs.Ytbjpjjokamaliaa.B
open Go.RowKit Go.Proofs.YtbjpjjokamaliaaW.PrintWords Go.Proofs.YtbjpjjokamaliaaW.PrintLast Go.Proofs.YtbjpjjokamaliaaW.PrintMore
attribute [local go_sem] max2_int min2_int max_two min_two max_three min_three max_four min_four   -- for this text's walks alone
set_option linter.unusedVariables false
set_option linter.unusedSimpArgs false

theorem eqA59 (d : Nat) (w : World) (x0 y0 : Int) (x1 y1 : Int) :
    (Op.equalIn (d + 2) 59 (.agg #[.int .i64 x0, .int .i64 x1]) (.agg #[.int .i64 y0, .int .i64 y1])).run Try.prog w = .ok (x0 == y0 && (x1 == y1)) w := by
  refine eqA_of Try.underlying59 (by kernel_rfl) ?_
  refine eqf_cons (by rfl) (by go_simp; rfl) (by go_simp; rfl) (by go_simp) ?_
  exact eqf_last (by rfl) (by go_simp; rfl) (by go_simp; rfl) (by go_simp)
end Go.Proofs.Ytbjpjjokamaliaa.PAmbushPairs
