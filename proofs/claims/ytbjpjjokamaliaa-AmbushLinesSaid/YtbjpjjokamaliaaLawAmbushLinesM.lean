/- AmbushLines holds: its code returns true and leaves what it was given as it was. Conditions: those of the given statement, none besides. -/
import Derived.Test.YtbjpjjokamaliaaZAmbushLines0
import Derived.Test.YtbjpjjokamaliaaProg
import Derived.Below
import Derived.Deep.Draws
import Derived.Deep.AppendLies
import Derived.Maps.AppendAt
import Derived.OwnWalk
import Derived.Laws.BytesArg
import Derived.Laws.MakeOwn
import Derived.Laws.OwnMore
import Derived.Deep.OwnRows
import Derived.Tactics
import Derived.Lib.ConvBytes
import Derived.Laws.Slices
import Derived.WalkKit
import Derived.KernelRfl
import Derived.RowKit3
import Derived.Deep.LoopGhost
import Derived.Deep.QuietTactic
import Derived.BigQuiet
import Derived.WideLaws
import Derived.Deep.DeepCutAuto
import Derived.Deep.CutBlock
import Derived.Deep.RegionHeld3
import Derived.Laws.Rows
import Derived.Lib.AppendStr
import Derived.ArgAppend
import Derived.Laws.IdiomCopy
import Derived.OrdersHeld
import Derived.Laws.BitsLemmas
import Derived.RowKit
import Derived.Test.YtbjpjjokamaliaaWWords
import Derived.Test.YtbjpjjokamaliaaWLast
import Derived.Test.YtbjpjjokamaliaaWTab
import Derived.Test.YtbjpjjokamaliaaWFour
import Derived.Test.YtbjpjjokamaliaaWQPut
import Derived.Test.YtbjpjjokamaliaaWApart
import Derived.Test.YtbjpjjokamaliaaWArr
import Derived.Test.YtbjpjjokamaliaaWZeros
import Derived.Test.YtbjpjjokamaliaaWFoot
import Derived.Test.YtbjpjjokamaliaaWKept
import Derived.Test.YtbjpjjokamaliaaWShare
import Derived.Test.YtbjpjjokamaliaaWN
import Derived.Test.YtbjpjjokamaliaaWFootNe
import Derived.Test.YtbjpjjokamaliaaWAt
import Derived.Test.YtbjpjjokamaliaaWEqStruct
import Derived.Test.YtbjpjjokamaliaaWRepsOne
import Derived.Test.YtbjpjjokamaliaaWInv
import Derived.Test.YtbjpjjokamaliaaWInvWords
import Derived.Test.YtbjpjjokamaliaaWGuard
import Derived.Test.YtbjpjjokamaliaaWNEv
import Derived.Test.YtbjpjjokamaliaaWMore
import Derived.Test.YtbjpjjokamaliaaRows
import Derived.ProofKit
import Derived.OpenShut
import Derived.ShutString
import Derived.ChangeOld
import Derived.SizedLaws
import Derived.Test.YtbjpjjokamaliaaWSized
/- Rows of whole numbers of the call's own: thinned by a predicate that may make memory of its own. -/
namespace Go.Proofs.Ytbjpjjokamaliaa.A
open Go.RowKit Go.Proofs.YtbjpjjokamaliaaW.PrintWords

/-- The first place at which a predicate holds. -/
def IsFirst (p : Int → Bool) (l : List Int) (i : Int) : Prop := (i = -1 ∧ ∀ j, j < l.length → p (l.getD j 0) = false) ∨ ∃ k : Nat, k < l.length ∧ i = k ∧ p (l.getD k 0) = true ∧ ∀ j, j < k → p (l.getD j 0) = false

set_option maxHeartbeats 2000000 in
theorem IndexFirst_int (g : Nat) (lb : Array Value) (p : Int → Bool) (eg : ∀ args w, (callFunc g args).run Try.prog w = .ok (.enter g args) w)
    (A : Option Addr) (n c : Nat) (l : List Int) (w : World) (hr : Kd.C (Kd.int .i64) w A n l) (hp : PredB g lb (fun x => .int .i64 x) p l w) :
    Calls Try.prog 73 #[.slice A n c, .func (.func g) #[] lb] w fun e w' => (∃ i : Int, e = .returned (.int .i64 i) ∧ Aside0 (IsFirst p l i)) ∧ Below w.heap.size w w' := by
  have hlen : l.length = n := hr.1
  have hmax : n ≤ 9223372036854775807 := hr.2.1
  have HR := Aside0.mk hr
  have HP := Aside0.mk hp
  have HL := Aside0.mk hlen
  clear hr hp hlen
  go_enter Try.func73, Try.ntmps73
  go_wp2
  go_loopg [5, 8] n (fun gg _ s8 wr => ∃ kk : Nat, kk ≤ n ∧ n - kk ≤ gg ∧ s8 = .int .i64 kk ∧ Aside0 (Below w.heap.size w wr) ∧ Aside0 (∀ j, j < kk → p (l.getD j 0) = false))
  case atStart => exact ⟨0, Nat.zero_le _, by omega, rfl, ⟨Below.refl _ w⟩, ⟨fun j hj => absurd hj (Nat.not_lt_zero _)⟩⟩
  case round =>
    obtain ⟨kk, hkk, hg, rfl, BW, AF⟩ := hrel
    by_cases hlt : kk < n
    · have hltz : (kk : Int) < (n : Int) := by omega
      obtain ⟨ad, rfl, hcell⟩ := Kd.at_int (Kd.C_below HR.out BW.out) (kk : Int) (by omega) (by omega)
      rw [Int.toNat_natCast] at hcell
      have hcall := HP.out wr (l.getD kk 0) (getD_mem 0 (by rw [HL.out]; exact hlt)) BW.out
      have hrd : rd l (kk : Int) = l.getD kk 0 := by simp [rd]
      rw [hrd] at hcell
      clear hrd
      generalize hy : l.getD kk 0 = y at hcell hcall
      have B := Aside0.mk hy
      clear hy
      cases hq : p y with
      | true =>
        have HQ := Aside0.mk hq
        rw [hq] at hcall
        clear hq
        go_wp2_with (go_at_fn g; refine hcall.mono ?_; rintro e w' ⟨rfl, hb'⟩)
        go_ret
        exact ⟨⟨kk, rfl, ⟨.inr ⟨kk, by rw [HL.out]; exact hlt, rfl, by rw [B.out]; exact HQ.out, AF.out⟩⟩⟩, hb'⟩
      | false =>
        have HQ := Aside0.mk hq
        rw [hq] at hcall
        clear hq
        go_wp2_with (go_at_fn g; refine hcall.mono ?_; rintro e w' ⟨rfl, hb'⟩)
        go_roundg (n - (kk + 1))
        case measure => omega
        case rel =>
          refine ⟨kk + 1, by omega, by omega, by go_num, ⟨hb'⟩, ⟨fun j hj => ?_⟩⟩
          by_cases e : j = kk
          · subst e
            rw [B.out]; exact HQ.out
          · exact AF.out j (by omega)
    · have hltz : ¬ (kk : Int) < (n : Int) := by omega
      have HK := Aside0.mk (show kk = n by omega)
      clear hlt
      go_wp2
      go_ret
      exact ⟨⟨-1, rfl, ⟨.inl ⟨rfl, fun j hj => AF.out j (by rw [HK.out, ← HL.out]; exact hj)⟩⟩⟩, BW.out⟩

/-- A predicate that reads nothing of block bk, and only makes memory. -/
def PredK (bk g : Nat) (lb : Array Value) (p : Int → Bool) (l : List Int) (w : World) : Prop :=
  ∀ (W : World) (x : Int), x ∈ l → Keep bk w W → Calls Try.prog g (#[.int .i64 x] ++ lb) W fun e w' => e = .returned (.bool (p x)) ∧ Below W.heap.size W w'
theorem PredK.below {bk g : Nat} {lb : Array Value} {p : Int → Bool} {l : List Int} {w : World} (h : PredK bk g lb p l w) : PredB g lb (fun x => .int .i64 x) p l w :=
  fun W x hx hb => (h W x hx (Keep.of_below hb)).mono fun _ _ ⟨h1, h2⟩ => ⟨h1, below_then hb hb.size h2⟩

/-- What is held while a row is thinned. -/
structure DelS (xs : List Int) (p : Int → Bool) (g cap base : Nat) (w wr : World) (i j : Nat) (ys : List Int) : Prop where
  row : Kd.R (Kd.int .i64) 3 wr base (fun _ => True) (.slice (some ⟨g, 0, none⟩) xs.length cap) ys
  len : ys.length = xs.length
  head : ys.take i = (xs.take j).filter fun x => !p x
  tail : ∀ t, j ≤ t → t < xs.length → ys.getD t 0 = xs.getD t 0
  lt : i < j
  le : j ≤ xs.length
  keep : Keep g w wr
theorem filter_take_succ (xs : List Int) (f : Int → Bool) (j : Nat) (h : j < xs.length) : (xs.take (j + 1)).filter f = (xs.take j).filter f ++ (if f (xs.getD j 0) = true then [xs.getD j 0] else []) := by
  rw [List.take_succ_eq_append_getElem h, List.filter_append, List.getD_eq_getElem?_getD, List.getElem?_eq_getElem h]
  simp [List.filter_cons]
theorem DelS.start {xs : List Int} {p : Int → Bool} {g cap base : Nat} {w wr : World} {k : Nat} (hr : Kd.R (Kd.int .i64) 3 wr base (fun _ => True) (.slice (some ⟨g, 0, none⟩) xs.length cap) xs) (hk : k < xs.length) (hp : p (xs.getD k 0) = true) (ha : ∀ j, j < k → p (xs.getD j 0) = false) (hw : Keep g w wr) : DelS xs p g cap base w wr k (k + 1) xs := by
  refine ⟨hr, rfl, ?_, fun _ _ _ => rfl, by omega, hk, hw⟩
  rw [filter_take_succ xs _ k hk, if_neg (by rw [hp]; simp), List.append_nil]
  symm
  rw [List.filter_eq_self]
  intro x hx
  obtain ⟨i, hi, rfl⟩ := List.getElem_of_mem hx
  have hi2 : i < k := by rw [List.length_take] at hi; omega
  have := ha i hi2
  rw [List.getElem_take]
  rw [List.getD_eq_getElem?_getD, List.getElem?_eq_getElem (by omega)] at this
  simpa using this
theorem DelS.next {xs : List Int} {p : Int → Bool} {g cap base : Nat} {w wr w2 : World} {i j : Nat} {ys : List Int} (h : DelS xs p g cap base w wr i j ys) (hb : Below wr.heap.size wr w2) : DelS xs p g cap base w w2 i j ys :=
  ⟨Kd.R_below h.row hb, h.len, h.head, h.tail, h.lt, h.le, h.keep.trans (Keep.of_below hb)⟩
theorem DelS.skip {xs : List Int} {p : Int → Bool} {g cap base : Nat} {w wr : World} {i j : Nat} {ys : List Int} (h : DelS xs p g cap base w wr i j ys) (hj : j < xs.length) (hp : p (xs.getD j 0) = true) : DelS xs p g cap base w wr i (j + 1) ys :=
  ⟨h.row, h.len, by rw [h.head, filter_take_succ xs _ j hj, if_neg (by rw [hp]; simp), List.append_nil], fun t ht hl => h.tail t (by omega) hl, by have := h.lt; omega, hj, h.keep⟩
theorem DelS.put {xs : List Int} {p : Int → Bool} {g cap base : Nat} {w wr : World} {i j : Nat} {ys : List Int} (h : DelS xs p g cap base w wr i j ys) (hj : j < xs.length) (hp : p (xs.getD j 0) = false) : DelS xs p g cap base w (wr.setCell ⟨g, i, none⟩ (.int .i64 (xs.getD j 0))) (i + 1) (j + 1) (ys.set i (xs.getD j 0)) := by
  have hlt := h.lt
  have hr := Kd.R_putg (enc := fun x => .int .i64 x) h.row (i : Int) (xs.getD j 0)
  rw [Int.toNat_natCast] at hr
  refine ⟨hr.1, by rw [List.length_set]; exact h.len, ?_, fun t ht hl => ?_, by omega, hj, ?_⟩
  · have hil : i < ys.length := by rw [h.len]; omega
    rw [filter_take_succ xs _ j hj, if_pos (by rw [hp]; rfl), ← h.head, List.take_succ_eq_append_getElem (by rw [List.length_set]; exact hil), List.getElem_set_self, List.take_set_of_le (Nat.le_refl _)]
  · rw [List.getD_eq_getElem?_getD, List.getElem?_set_ne (by omega), ← List.getD_eq_getElem?_getD]
    exact h.tail t (by omega) hl
  · have hg := hr.2
    exact h.keep.trans ⟨hg.os, hg.tape, hg.output, hg.size, fun k hk hne => hg.block k hk (fun e => hne (by cases e; rfl))⟩
theorem DelS.done {xs : List Int} {p : Int → Bool} {g cap base : Nat} {w wr : World} {i : Nat} {ys : List Int} (h : DelS xs p g cap base w wr i xs.length ys) (vs : List Value) (hv : vs.length = xs.length - i) :
    Kd.R (Kd.int .i64) 3 (wr.setCells g i vs) base (fun _ => True) (.slice (some ⟨g, 0, none⟩) i cap) (xs.filter fun x => !p x) ∧ Keep g w (wr.setCells g i vs) ∧ i = (xs.filter fun x => !p x).length := by
  have hlt := h.lt
  have hh := h.head
  rw [List.take_length] at hh
  have hi : i = (xs.filter fun x => !p x).length := by
    rw [← hh, List.length_take, h.len]; omega
  refine ⟨?_, ?_, hi⟩
  · rw [← hh]
    rcases (Kd.own_of_R h.row).2 with ⟨h0, _⟩ | ⟨g', cap', cur, hv', hg, hb, h1, h2, h3, h4⟩
    · cases h0
    · simp only [Value.slice.injEq, Option.some.injEq, Addr.mk.injEq] at hv'
      obtain ⟨⟨rfl, _⟩, _, rfl⟩ := hv'
      rw [h.len] at h1 h4
      obtain ⟨cur', c1, c2, c3⟩ := setCells_row vs i wr cur hb (by rw [h3, hv]; omega)
      have hlen : (ys.take i).length = i := by rw [List.length_take, h.len]; omega
      refine Kd.R_of_own ⟨by simp [encs], .inr ⟨g, cap, cur', by rw [hlen], hg, c1, by rw [hlen]; omega, h2, by rw [c2, h3], ?_⟩⟩ (fun _ _ => trivial)
      rw [hlen, Nat.mul_one, c3, List.append_assoc, List.take_append_of_le_length (by rw [List.length_take, Array.length_toList, h3]; omega), List.take_take, Nat.min_self]
      have : (cur.toList.take (xs.length * 1)).take i = (encs (Value.int .i64) ys).take i := by rw [h4]
      rw [Nat.mul_one, List.take_take, Nat.min_eq_left (by omega)] at this
      rw [this]
      simp [encs]
  · obtain ⟨s1, s2, s3, s4⟩ := setCells_same g vs i wr
    exact h.keep.trans ⟨s1, s2, s3, by rw [s4]; exact Nat.le_refl _, fun k _ hk => setCells_far vs i k hk⟩

theorem first_cases (f : Nat → Bool) : ∀ n, (∀ j, j < n → f j = false) ∨ ∃ k, k < n ∧ f k = true ∧ ∀ j, j < k → f j = false
  | 0 => .inl fun j hj => absurd hj (Nat.not_lt_zero _)
  | n + 1 => by
    rcases first_cases f n with h | ⟨k, h1, h2, h3⟩
    · cases hf : f n with
      | false =>
        refine .inl fun j hj => ?_
        by_cases e : j = n
        · rw [e]; exact hf
        · exact h j (by omega)
      | true => exact .inr ⟨n, by omega, hf, h⟩
    · exact .inr ⟨k, by omega, h2, h3⟩
theorem zero3 : ∀ w, (zeroValue 3).run Try.prog w = .ok (.int .i64 0) w := fun w => by kernel_rfl

set_option maxRecDepth 100000 in
set_option maxHeartbeats 4000000 in
theorem DeleteFunc_int (bk cap : Nat) (g : Nat) (lb : Array Value) (p : Int → Bool) (eg : ∀ args w, (callFunc g args).run Try.prog w = .ok (.enter g args) w) (xs : List Int) (base : Nat) (w : World)
    (hr : Kd.R (Kd.int .i64) 3 w base (fun _ => True) (.slice (some ⟨bk, 0, none⟩) xs.length cap) xs) (hl : xs.length ≤ 1000) (hp : PredK bk g lb p xs w) :
    Calls Try.prog 57 #[.slice (some ⟨bk, 0, none⟩) xs.length cap, .func (.func g) #[] lb] w fun e w' => e = .returned (.slice (some ⟨bk, 0, none⟩) (xs.filter fun x => !p x).length cap) ∧ Kd.R (Kd.int .i64) 3 w' base (fun _ => True) (.slice (some ⟨bk, 0, none⟩) (xs.filter fun x => !p x).length cap) (xs.filter fun x => !p x) ∧ Keep bk w w' := by
  have HR := Aside0.mk hr
  have HP := Aside0.mk hp
  have hcap : xs.length ≤ cap := (Kd.R_reads' hr).2.1
  have HC := Aside0.mk (Kd.R_reads' hr).2.2
  have HI := Aside0.mk (IndexFirst_int g lb p eg _ xs.length cap xs w (Kd.R_reads' hr).2.2 hp.below)
  obtain ⟨n, hn⟩ : ∃ n, xs.length = n := ⟨_, rfl⟩
  have HN := Aside0.mk hn
  obtain ⟨F, hF⟩ : ∃ F, (xs.filter fun x => !p x).length = F := ⟨_, rfl⟩
  have HF := Aside0.mk hF
  rw [hF]
  rw [hn] at HI hl hcap ⊢
  clear hr hp hn hF
  have hcl : ∀ (W : World) (i j : Nat) (ys : List Int), i < j → j ≤ n → DelS xs p bk cap base w W i j ys → ∀ ty, (Builtin.clear_ #[22] ty #[.slice (some ⟨bk, i, none⟩) (n - i) (cap - i)]).run Try.prog W = .ok (.tuple #[]) (W.setCells bk i (List.replicate (n - i) (.int .i64 0))) := by
    intro W i j ys hij hjn hS ty
    have hlen := hS.len
    rw [HN.out] at hlen
    have hc : ∀ t : Nat, t < n → W.cell? ⟨bk, t, none⟩ = some (.int .i64 (ys.getD t 0)) ∧ W.frozen? ⟨bk, t, none⟩ = false := by
      intro t ht
      have := Kd.R_celln (enc := fun x => .int .i64 x) 0 hS.row (t : Int) (by omega) (by rw [HN.out]; omega)
      simpa [rdOf] using this
    exact Lib.run_clear_slice W 22 3 ty _ Try.underlying22 zero3 rfl rfl bk i _ _ (by omega) (fun t ht => by rw [(hc (i + t) (by omega)).1]; rfl) (fun t ht => (hc (i + t) (by omega)).2)
  have HCL := Aside0.mk hcl
  clear hcl
  rcases first_cases (fun j => p (xs.getD j 0)) n with hall | ⟨k, hk, hpk, hbef⟩
  · have HI2 : Aside0 (Calls Try.prog 73 #[.slice (some ⟨bk, 0, none⟩) n cap, .func (.func g) #[] lb] w fun e w' => e = .returned (.int .i64 (-1)) ∧ Below w.heap.size w w') := by
      refine ⟨HI.out.mono ?_⟩
      rintro e w' ⟨⟨i, rfl, ⟨hi⟩⟩, hb⟩
      rcases hi with ⟨rfl, _⟩ | ⟨k, hk, _, hpk, _⟩
      · exact ⟨rfl, hb⟩
      · have := hall k (by rw [← HN.out]; exact hk)
        rw [hpk] at this; cases this
    have HE : Aside0 ((xs.filter fun x => !p x) = xs) := by
      refine ⟨List.filter_eq_self.2 fun x hx => ?_⟩
      obtain ⟨j, hj, rfl⟩ := List.getElem_of_mem hx
      have := hall j (by rw [← HN.out]; exact hj)
      simp only [List.getD_eq_getElem?_getD, List.getElem?_eq_getElem hj] at this
      simpa using this
    clear HI hall
    go_enter Try.func57, Try.ntmps57
    go_wp2_with (go_at_call 73; refine HI2.out.mono ?_; rintro e w1 ⟨rfl, hb1⟩; have HB1 := Aside0.mk hb1; clear hb1)
    go_ret
    have hFn : F = n := by rw [← HF.out, HE.out, HN.out]
    subst hFn
    rw [HE.out]
    have := HR.out
    rw [HN.out] at this
    exact ⟨rfl, Kd.R_below this HB1.out, Keep.of_below HB1.out⟩
  · have HI2 : Aside0 (Calls Try.prog 73 #[.slice (some ⟨bk, 0, none⟩) n cap, .func (.func g) #[] lb] w fun e w' => e = .returned (.int .i64 k) ∧ Below w.heap.size w w') := by
      refine ⟨HI.out.mono ?_⟩
      rintro e w' ⟨⟨i, rfl, ⟨hi⟩⟩, hb⟩
      rcases hi with ⟨rfl, ha⟩ | ⟨k', hk', rfl, hpk', hb'⟩
      · have := ha k (by rw [HN.out]; exact hk)
        rw [this] at hpk; cases hpk
      · have e : k' = k := by
          rcases Nat.lt_trichotomy k' k with h | h | h
          · have := hbef k' h; rw [this] at hpk'; cases hpk'
          · exact h
          · have := hb' k h; rw [this] at hpk; cases hpk
        subst e
        exact ⟨rfl, hb⟩
    have HPK := Aside0.mk hpk
    have HBF := Aside0.mk hbef
    have hkn : ((k : Int) == -1) = false := by rw [beq_eq_false_iff_ne]; omega
    clear HI hpk hbef
    go_enter Try.func57, Try.ntmps57
    go_wp2_with (go_at_call 73; refine HI2.out.mono ?_; rintro e w1 ⟨rfl, hb1⟩; have HB1 := Aside0.mk hb1; clear hb1)
    have HS : Aside0 (DelS xs p bk cap base w w1 k (k + 1) xs) := ⟨DelS.start (Kd.R_below HR.out HB1.out) (by rw [HN.out]; exact hk) HPK.out HBF.out (Keep.of_below HB1.out)⟩
    clear hkn
    go_loopg [5, 6, 7] n (fun gg v5 v6 _ wr => ∃ (i j : Nat) (ys : List Int), v5 = .int .i64 i ∧ v6 = .int .i64 j ∧ j ≤ n ∧ n - j ≤ gg ∧ Aside0 (DelS xs p bk cap base w wr i j ys))
    case atStart => exact ⟨k, k + 1, xs, rfl, by go_num, by omega, by omega, HS⟩
    case round =>
      clear HS HB1
      obtain ⟨i, j, ys, rfl, rfl, hj, hgg, HS⟩ := hrel
      have hij := HS.out.lt
      by_cases hlt : j < n
      · have hltz : (j : Int) < (n : Int) := by omega
        have cj := Kd.R_celln (enc := fun x => .int .i64 x) 0 HS.out.row (j : Int) (by omega) (by rw [HN.out]; omega)
        have ci := Kd.R_celln (enc := fun x => .int .i64 x) 0 HS.out.row (i : Int) (by omega) (by rw [HN.out]; omega)
        rw [Int.toNat_natCast] at cj ci
        obtain ⟨cj, _⟩ := cj
        obtain ⟨ci, fi⟩ := ci
        have e1 : rdOf 0 ys (j : Int) = xs.getD j 0 := by
          have : rdOf 0 ys (j : Int) = ys.getD j 0 := by simp [rdOf]
          rw [this]
          exact HS.out.tail j (Nat.le_refl _) (by rw [HN.out]; exact hlt)
        rw [e1] at cj
        clear e1
        generalize rdOf 0 ys (i : Int) = old at ci
        have hcall := HP.out wr (xs.getD j 0) (getD_mem 0 (by rw [HN.out]; exact hlt)) HS.out.keep
        obtain ⟨u, hu⟩ : ∃ u, xs.getD j 0 = u := ⟨_, rfl⟩
        have HU := Aside0.mk hu
        rw [hu] at cj hcall
        have hiz : (i : Int) < (n : Int) := by omega
        clear hu
        cases hq : p u with
        | false =>
          have HQ : Aside0 (p (xs.getD j 0) = false) := ⟨by rw [HU.out]; exact hq⟩
          rw [hq] at hcall
          clear hq
          go_wp2_with (go_at_fn g; refine hcall.mono ?_; rintro e w2 ⟨rfl, hb2⟩; have HS2 := Aside0.mk (HS.out.next hb2); obtain ⟨bc, bf⟩ := bcell hb2; have ci2 := pw_cell_below hb2 ci; have fi2 : w2.frozen? ⟨bk, i, none⟩ = false := (bf bk i (World.block_lt_of_cell? wr _ ci)).trans fi; clear hb2 bc bf hcall cj ci fi)
          go_roundg (n - (j + 1))
          case measure => omega
          case rel =>
            refine ⟨i + 1, j + 1, ys.set i u, by go_num, by go_num, by omega, Nat.le_refl _, ⟨?_⟩⟩
            have := HS2.out.put (by rw [HN.out]; exact hlt) HQ.out
            rw [HU.out] at this
            exact this
        | true =>
          have HQ : Aside0 (p (xs.getD j 0) = true) := ⟨by rw [HU.out]; exact hq⟩
          rw [hq] at hcall
          clear hq
          go_wp2_with (go_at_fn g; refine hcall.mono ?_; rintro e w2 ⟨rfl, hb2⟩; have HS2 := Aside0.mk (HS.out.next hb2); clear hb2 hcall cj ci fi)
          go_roundg (n - (j + 1))
          case measure => omega
          case rel => exact ⟨i, j + 1, ys, rfl, by go_num, by omega, Nat.le_refl _, ⟨HS2.out.skip (by rw [HN.out]; exact hlt) HQ.out⟩⟩
      · have hltz : ¬ (j : Int) < (n : Int) := by omega
        have hcl := HCL.out wr i j ys hij hj HS.out
        have hjn : j = n := by omega
        have HJ := Aside0.mk hjn
        clear hjn hlt
        have hin : (i : Int) ≤ n := by omega
        go_wp2_with fail
        go_ret
        have hd := HS.out
        rw [HJ.out] at hd
        have hd2 : DelS xs p bk cap base w wr i xs.length ys := by rw [HN.out]; exact hd
        obtain ⟨d1, d2, d3⟩ := hd2.done (List.replicate (n - i) (.int .i64 0)) (by rw [List.length_replicate, HN.out])
        rw [HF.out] at d3
        subst d3
        exact ⟨rfl, d1, d2⟩

set_option maxRecDepth 100000 in
theorem DeleteFunc_empty (A : Option Addr) (c : Nat) (fv : Value) (w : World) : Calls Try.prog 57 #[.slice A 0 c, fv] w fun e w' => e = .returned (.slice A 0 c) ∧ w = w' := by
  go_enter Try.func57, Try.ntmps57
  go_wp2_with (go_at_call 73; refine (Try.slices_IndexFunc_empty (α := Int) A c fv w).mono ?_; rintro e w1 ⟨rfl, rfl⟩)
  go_ret
  exact ⟨rfl, rfl⟩
theorem delete_any {v : Value} {base : Nat} {xs : List Int} {w : World} (g : Nat) (lb : Array Value) (p : Int → Bool) (eg : ∀ args w, (callFunc g args).run Try.prog w = .ok (.enter g args) w)
    (h : Kd.R (Kd.int .i64) 3 w base (fun _ => True) v xs) (hl : xs.length ≤ 1000) (hb : base ≤ w.heap.size) (hp : ∀ bk, v.ownBlock = some bk → PredK bk g lb p xs w) :
    Calls Try.prog 57 #[v, .func (.func g) #[] lb] w fun e w' => ∃ v', e = .returned v' ∧ Kd.R (Kd.int .i64) 3 w' base (fun _ => True) v' (xs.filter fun x => !p x) ∧ Below base w w' := by
  by_cases h0 : 0 < xs.length
  · obtain ⟨bk, cap, rfl, hg, hlt, hc⟩ := own_form h h0
    refine (DeleteFunc_int bk cap g lb p eg xs base w h hl (hp bk rfl)).mono ?_
    rintro e w' ⟨rfl, h1, h2⟩
    exact ⟨_, rfl, h1, h2.below hg hb⟩
  · have hnil : xs = [] := List.length_eq_zero_iff.1 (by omega)
    subst hnil
    obtain ⟨A, c, rfl, _, _⟩ := Kd.R_reads h
    refine (DeleteFunc_empty A c _ w).mono ?_
    rintro e w' ⟨rfl, rfl⟩
    exact ⟨_, rfl, h, Below.refl _ _⟩
end Go.Proofs.Ytbjpjjokamaliaa.A

/- Least, as it is called. -/
namespace Go.Proofs.Ytbjpjjokamaliaa.A
open Go.RowKit Go.Proofs.YtbjpjjokamaliaaW.PrintWords

/-- Is y another line, all of whose spots x has? -/
def inside (x y : Int) : Bool := (y != x) && decide (less y.toNat x.toNat = 0)
/-- Is there another line that x contains? -/
def holdsOther (l : List Int) (x : Int) : Bool := l.any (inside x)
def leastL (l : List Int) : List Int := (Lib.compact (sortI l)).filter fun x => !holdsOther l x

theorem enters58 : ∀ args w, (callFunc 58 args).run Try.prog w = .ok (.enter 58 args) w := enters_of Try.func58 (by kernel_rfl) rfl
theorem enters60 : ∀ args w, (callFunc 60 args).run Try.prog w = .ok (.enter 60 args) w := enters_of Try.func60 (by kernel_rfl) rfl

theorem andNotZ {m : Nat} (h9 : m ≤ 9) {x y : Int} (hx : 1 ≤ x ∧ x < 2 ^ m) (hy : 1 ≤ y ∧ y < 2 ^ m) : (bits .andNot .i64 y x == 0) = decide (less y.toNat x.toNat = 0) := by
  obtain ⟨a, rfl⟩ := Int.eq_ofNat_of_zero_le (show 0 ≤ x by omega)
  obtain ⟨b, rfl⟩ := Int.eq_ofNat_of_zero_le (show 0 ≤ y by omega)
  have e : ((2 ^ m : Nat) : Int) = (2 : Int) ^ m := by simp
  have ha : a < 2 ^ m := by have := hx.2; omega
  have hb : b < 2 ^ m := by have := hy.2; omega
  rw [andNot64 b a (lt62 hb (by omega)) (lt62 ha (by omega)), Bool.eq_iff_iff]
  simp

set_option maxHeartbeats 800000 in
theorem least2_pred {m : Nat} (h9 : m ≤ 9) {l : List Int} (hl : okL m l) {x : Int} (hx : 1 ≤ x ∧ x < 2 ^ m) (g : Nat) (w : World) (hc : w.cell? ⟨g, 0, none⟩ = some (.int .i64 x)) :
    PredB 60 #[.pointer (some ⟨g, 0, none⟩)] (fun y => .int .i64 y) (inside x) l w := by
  intro W y hy hb
  have hcW := pw_cell_below hb hc
  have HB := Aside0.mk hb
  have e := andNotZ h9 hx (hl y hy)
  obtain ⟨r, hr⟩ : ∃ r, inside x y = r := ⟨_, rfl⟩
  have HR := Aside0.mk hr
  rw [hr]
  clear hb hc hy hx hr
  show Calls Try.prog 60 #[.int .i64 y, .pointer (some ⟨g, 0, none⟩)] W fun e w' => e = .returned (.bool r) ∧ Below w.heap.size w w'
  unfold inside at HR
  by_cases h : y = x
  · have b0 : (y != x) = false := bne_eq_false_iff_eq.mpr h
    have HV : Aside0 (r = false) := ⟨by rw [← HR.out, b0]; rfl⟩
    clear e h
    go_enter Try.func60, Try.ntmps60
    go_wp2
    go_ret
    exact ⟨by rw [HV.out]; rfl, HB.out⟩
  · have b0 : (y != x) = true := bne_iff_ne.mpr h
    have HV : Aside0 (r = (bits .andNot .i64 y x == 0)) := ⟨by rw [← HR.out, b0, e]; rfl⟩
    clear e h
    go_enter Try.func60, Try.ntmps60
    go_wp2
    go_ret
    exact ⟨by rw [HV.out]; rfl, HB.out⟩

/-- What the inner test reads, and where it lies. -/
def p58 (l : List Int) (x : Int) : Bool := holdsOther l x
set_option maxRecDepth 100000 in
set_option maxHeartbeats 800000 in
theorem least1_pred {m : Nat} (h9 : m ≤ 9) {l : List Int} (hl : okL m l) {A : Option Addr} {c : Nat} (xs : List Int) (hxs : okL m xs) (bk g : Nat) (w : World) (hg : g ≠ bk) (hc : w.cell? ⟨g, 0, none⟩ = some (.slice A l.length c)) (hr : ∀ W, Keep bk w W → Kd.C (Kd.int .i64) W A l.length l) :
    PredK bk 58 #[.pointer (some ⟨g, 0, none⟩)] (p58 l) xs w := by
  intro W x hx hk
  have hcW := keep_cell hk (a := ⟨g, 0, none⟩) hg hc
  have HR := Aside0.mk (hr W hk)
  have HX := Aside0.mk (hxs x hx)
  have HL := Aside0.mk hl
  obtain ⟨r, hr2⟩ : ∃ r, p58 l x = r := ⟨_, rfl⟩
  have HRR := Aside0.mk hr2
  have e60 := enters60
  rw [hr2]
  clear hc hk hr hx hxs hl hr2
  show Calls Try.prog 58 #[.int .i64 x, .pointer (some ⟨g, 0, none⟩)] W fun e w' => e = .returned (.bool r) ∧ Below W.heap.size W w'
  have hc2 : (W.alloc (.cells #[.int .i64 x] 3)).cell? ⟨g, 0, none⟩ = some (.slice A l.length c) := pw_cell_below (below_alloc (Below.refl _ _) _) hcW
  go_enter Try.func58, Try.ntmps58
  go_wp2_with (go_at_call 59; refine (ContainsFunc_int 60 #[.pointer (some ⟨W.heap.size, 0, none⟩)] (inside x) enters60 A l.length c l _ (Kd.C_alloc HR.out _) (least2_pred h9 HL.out HX.out _ _ (by simp))).mono ?_; rintro e w2 ⟨rfl, hb2⟩; have HB2 := Aside0.mk (below_then (below_alloc (Below.refl W.heap.size W) _) (below_alloc (Below.refl _ _) _).size hb2); clear hb2)
  go_ret
  exact ⟨by rw [← HRR.out]; rfl, HB2.out⟩

theorem cell_grown {W W1 : World} {row : Option Nat} (hg : W.grownBy W1 row) {a : Addr} {v : Value} (hc : W.cell? a = some v) (hne : some a.block ≠ row) : W1.cell? a = some v :=
  (World.cell?_of_block (w := W) (hg.block a.block (World.block_lt_of_cell? W a hc) hne)).trans hc
theorem mem_compact {x : Int} {l : List Int} (h : x ∈ Lib.compact l) : x ∈ l := by
  unfold Lib.compact Lib.compactUpTo at h
  obtain ⟨i, hi, rfl⟩ := List.mem_map.1 h
  have hi2 := List.mem_range.1 (List.mem_filter.1 hi).1
  rw [getElem!_pos l.toArray i (by simpa using hi2)]
  simp
theorem mem_sortI {x : Int} {l : List Int} : x ∈ sortI l ↔ x ∈ l := by
  unfold sortI
  exact (List.mergeSort_perm l _).mem_iff

set_option maxRecDepth 100000 in
set_option maxHeartbeats 800000 in
theorem Least_err (m : Int) (A : Option Addr) (c : Nat) (l : List Int) (w : World) (hr : Kd.C (Kd.int .i64) w A l.length l) (he : okF m l ≠ 0) :
    Calls Try.prog 33 #[.int .i64 m, .slice A l.length c] w fun e w' => (∃ v0_ : Value, e = .returned (.tuple #[v0_, .int .i64 (okF m l)]) ∧ Kd.R (Kd.int .i64) 3 w' w.heap.size (fun _ => True) v0_ []) ∧ Below w.heap.size w w' := by
  have HR := Aside0.mk hr
  have HE := Aside0.mk he
  obtain ⟨E, hE⟩ : ∃ E, okF m l = E := ⟨_, rfl⟩
  rw [hE] at he ⊢
  have HV := Aside0.mk hE
  have hg : (E != 0) = true := by rw [bne_iff_ne]; exact he
  clear hr hE he
  go_enter Try.func33, Try.ntmps33
  go_wp2_with (go_at_call 41; refine (read_bad m A c l _ _ (Kd.C_alloc HR.out _) rfl HE.out).mono ?_; rw [HV.out]; rintro e w' ⟨rfl, hb'⟩; have HB := Aside0.mk (below_then (below_alloc (Below.refl w.heap.size w) _) (below_alloc (Below.refl _ _) _).size hb'); clear hb')
  go_ret2
  exact ⟨⟨_, rfl, Kd.R_nil _ _ _ _ _⟩, below_alloc HB.out _⟩

set_option maxRecDepth 100000 in
set_option maxHeartbeats 1600000 in
theorem Least_good (m : Nat) (A : Option Addr) (c : Nat) (l : List Int) (w : World) (hr : Kd.C (Kd.int .i64) w A l.length l) (he : okF m l = 0) :
    Calls Try.prog 33 #[.int .i64 m, .slice A l.length c] w fun e w' => (∃ v0_ : Value, e = .returned (.tuple #[v0_, .int .i64 0]) ∧ Kd.R (Kd.int .i64) 3 w' w.heap.size (fun _ => True) v0_ (leastL l)) ∧ Below w.heap.size w w' := by
  have HR := Aside0.mk hr
  have HE := Aside0.mk he
  have h9 : m ≤ 9 := by have := okF_m he; omega
  have h12 : l.length ≤ 1000 := by have := okF_len he; omega
  clear hr he
  go_enter Try.func33, Try.ntmps33
  go_wp2_with (first
    | (go_at_call 41; refine (read_ok m A c l _ (Kd.C_alloc HR.out _) HE.out).mono ?_; rintro e w1 ⟨rfl, hb1⟩; have HB1 := Aside0.mk (below_then (below_alloc (Below.refl w.heap.size w) _) (below_alloc (Below.refl _ _) _).size hb1); have HG := Aside0.mk (pw_cell_below hb1 (show (w.alloc (.cells #[.slice A l.length c] 22)).cell? ⟨w.heap.size, 0, none⟩ = some (.slice A l.length c) by simp)); have HS1 := Aside0.mk (show w.heap.size + 1 ≤ w1.heap.size by have := hb1.size; simp at this; omega); clear hb1)
    | (go_at_call 54; refine (clone_any (Kd.C_below HR.out (below_alloc HB1.out _)) h12).mono ?_; rintro e w2 ⟨v2, rfl, hr2, hb2⟩; have HR2 := Aside0.mk (Kd.R_lower hr2 (base' := w.heap.size + 1) (by have := HS1.out; simp; omega)); have HG2 := Aside0.mk (pw_cell_below hb2 (pw_cell_below (below_alloc (Below.refl _ _) _) HG.out)); have HB2 := Aside0.mk (below_then (below_alloc HB1.out _) (below_alloc HB1.out _).size hb2); clear hr2 hb2)
    | (go_at_call 55; refine (sort_any HR2.out h12).mono ?_; rintro e w3 ⟨rfl, hr3, hg3⟩; have HR3 := Aside0.mk hr3; have HG3 := Aside0.mk (cell_grown hg3 HG2.out (fun e => Nat.lt_irrefl w.heap.size (Kd.R_base HR2.out _ e.symm))); have HB3 := Aside0.mk (HB2.out.grown hg3 HB2.out.size (fun k hk => by have := Kd.R_base HR2.out k hk; omega)); clear hr3 hg3)
    | (go_at_call 56; refine (compact_any HR3.out (by rw [sortI_len]; exact h12)).mono ?_; rintro e w4 ⟨v4, rfl, hr4, hg4, hv4⟩; have HR4 := Aside0.mk hr4; have HG4 := Aside0.mk (cell_grown hg4 HG3.out (fun e => Nat.lt_irrefl w.heap.size (Kd.R_base HR3.out _ e.symm))); have HB4 := Aside0.mk (HB3.out.grown hg4 HB3.out.size (fun k hk => by have := Kd.R_base HR3.out k hk; omega)); clear hr4 hg4)
    | (go_at_call 57; refine (delete_any 58 _ (p58 l) enters58 HR4.out (by have := compact_len (sortI l); rw [sortI_len] at this; omega) (World.block_lt_of_cell? _ _ HG4.out) (fun bk hbk => least1_pred h9 (okF_L HE.out) _ (fun x hx => okF_L HE.out x (mem_sortI.1 (mem_compact hx))) bk w.heap.size _ (fun e => by have h := Kd.R_base HR4.out _ hbk; rw [← e] at h; exact Nat.lt_irrefl _ h) HG4.out (fun W hW => keep_off HB4.out (by have := Kd.R_base HR4.out _ hbk; omega) HR.out hW))).mono ?_; rintro e w5 ⟨v5, rfl, hr5, hb5⟩; have HR5 := Aside0.mk hr5; have HB5 := Aside0.mk (HB4.out.trans (hb5.mono (by omega))); clear hr5 hb5))
  go_ret2
  exact ⟨⟨_, rfl, Kd.R_lower HR5.out (by omega)⟩, HB5.out⟩

def ambush_Least.f (a0 : Int) (l1 : List Int) : Option (List Int × Int) :=
  some (if okF a0 l1 = 0 then (leastL l1, 0) else ([], okF a0 l1))
theorem ambush_Least.calls (a0 : Int) (A1 : Option Addr) (c1 : Nat) (l1 : List Int) (r1 : List Int) (r2 : Int) (w : World) (hr1 : Kd.C (Kd.int .i64) w A1 l1.length l1) (_hc1 : l1.length ≤ c1) (h : ambush_Least.f a0 l1 = some (r1, r2)) :
    Calls Try.prog 33 #[.int .i64 a0, .slice A1 l1.length c1] w fun e w' => ∃ v0_ : Value, e = .returned (.tuple #[v0_, .int .i64 r2]) ∧ Kd.R (Kd.int .i64) 3 w' w.heap.size (fun _ => True) v0_ r1 ∧ Below w.heap.size w w' := by
  unfold ambush_Least.f at h
  by_cases h0 : okF a0 l1 = 0
  · rw [if_pos h0] at h
    have h1 := (okF_m h0).1
    obtain ⟨m, rfl⟩ : ∃ m : Nat, a0 = m := ⟨a0.toNat, by omega⟩
    cases h
    exact (Least_good m A1 c1 l1 w hr1 h0).mono fun _ _ ⟨⟨v, e, hR⟩, hB⟩ => ⟨v, e, hR, hB⟩
  · rw [if_neg h0] at h
    cases h
    exact (Least_err a0 A1 c1 l1 w hr1 h0).mono fun _ _ ⟨⟨v, e, hR⟩, hB⟩ => ⟨v, e, hR, hB⟩
end Go.Proofs.Ytbjpjjokamaliaa.A

-- Printed by hprint.py (this claim's own program, over the kit's print.py) out of the translation and contracts by hand. Not trusted: Lean checks it.
namespace Go.Proofs.Ytbjpjjokamaliaa.PAmbushLines
open Go.Proofs.Ytbjpjjokamaliaa.A Go.Proofs.Ytbjpjjokamaliaa.B
open Go.RowKit Go.Proofs.YtbjpjjokamaliaaW.PrintWords Go.Proofs.YtbjpjjokamaliaaW.PrintLast Go.Proofs.YtbjpjjokamaliaaW.PrintMore
attribute [local go_sem] max2_int min2_int max_two min_two max_three min_three max_four min_four   -- for this text's walks alone
set_option linter.unusedVariables false
set_option linter.unusedSimpArgs false



def errW : Option Int → Value
  | none => .nilIface
  | some c => .iface 0 (.int .i64 c)
theorem errW_none : errW none = .nilIface := rfl
theorem errW_some (c : Int) : errW (some c) = .iface 0 (.int .i64 c) := rfl

theorem info3 : (Try.prog.info? 3).map (fun i => (i.zero, i.size, i.bytes)) = some (some (.int .i64 0), 1, 8) := by kernel_rfl
-- the values' own types
def rd_L1 (xs : List (List Int)) (i : Int) : (List Int) := xs.getD i.toNat ([] : List Int)
theorem at_L1 {w : World} {A : Option Addr} {n : Nat} {xs : List (List Int)} (h : Kd.C (Kd.slice 3 (Kd.int .i64)) w A n xs) (i : Int) (h0 : 0 ≤ i) (h1 : i < n) : ∃ ad A0 c0, A = some ad ∧ w.cell? (ad.add i.toNat) = some (.slice A0 (rd_L1 xs i).length c0) ∧ (rd_L1 xs i).length ≤ c0 ∧ (Kd.int .i64).C w A0 (rd_L1 xs i).length (rd_L1 xs i) := by
  obtain ⟨ad, c, e, _, hK, hc0⟩ := Kd.C_get h ([] : List Int) i h0 h1
  have hc : ∀ j u, c[j]? = some u → w.cell? (ad.add (i.toNat * 1 + j)) = some u := hc0
  obtain ⟨A0, c0, rfl, l0, g0⟩ := hK
  exact ⟨ad, A0, c0, e, by have hq := hc 0 _ rfl; rwa [Nat.mul_one, Nat.add_zero] at hq, l0, g0⟩

end Go.Proofs.Ytbjpjjokamaliaa.PAmbushLines

-- Printed by hprint.py (this claim's own program, over the kit's print.py) out of the translation and contracts by hand. Not trusted: Lean checks it.
namespace Go.Proofs.Ytbjpjjokamaliaa.PAmbushLines
open Go.Proofs.Ytbjpjjokamaliaa.A Go.Proofs.Ytbjpjjokamaliaa.B
open Go.RowKit Go.Proofs.YtbjpjjokamaliaaW.PrintWords Go.Proofs.YtbjpjjokamaliaaW.PrintLast Go.Proofs.YtbjpjjokamaliaaW.PrintMore
attribute [local go_sem] max2_int min2_int max_two min_two max_three min_three max_four min_four   -- for this text's walks alone
set_option linter.unusedVariables false
set_option linter.unusedSimpArgs false

/-! ### drovewaylaw04_few: function 11 -/
def drovewaylaw04_few.f (l0 : List Int) (a1 : ByteArray) (a2 : ByteArray) : Option (Bool) := if (l0.length : Int) ≤ 40 then (if (a1.size : Int) ≤ 40 then (some (decide ((a2.size : Int) ≤ 40))) else (some false)) else (some false)
set_option maxHeartbeats 8000000 in
set_option maxRecDepth 100000 in
theorem drovewaylaw04_few.calls (A0 : Option Addr) (c0 : Nat) (l0 : List Int) (a1 : ByteArray) (a2 : ByteArray) (r : Bool) (w : World) (hr0 : Kd.C (Kd.int .i64) w A0 l0.length l0) (hc0 : l0.length ≤ c0) (h : drovewaylaw04_few.f l0 a1 a2 = some r) :
    Calls Try.prog 11 #[.slice A0 l0.length c0, .string a1, .string a2] w fun e w' => e = .returned (.bool r) ∧ Drawn0 w w' := by
  have HR0 := Aside0.mk hr0
  have HC0 := Aside0.mk hc0
  clear hr0 hc0
  have H : (if (l0.length : Int) ≤ 40 then (if (a1.size : Int) ≤ 40 then (some (decide ((a2.size : Int) ≤ 40))) else (some false)) else (some false)) = some r := h
  clear h
  by_cases c4 : (l0.length : Int) ≤ 40
  · rw [if_pos c4] at H
    have c4b0 : decide ((l0.length : Int) ≤ 40) = true := decide_eq_true c4
    have c4b1 : decide (l0.length ≤ 40) = true := decide_eq_true (by omega)
    clear c4
    by_cases c5 : (a1.size : Int) ≤ 40
    · rw [if_pos c5] at H
      have c5b0 : decide ((a1.size : Int) ≤ 40) = true := decide_eq_true c5
      have c5b1 : decide (a1.size ≤ 40) = true := decide_eq_true (by omega)
      clear c5
      obtain rfl := Option.some.inj H
      go_enter Try.func11, Try.ntmps11
      go_wp2
      go_ret
      exact ⟨by first | rfl | (simp; done) | (simp [*]; done), by repeat (first | exact Drawn0.refl _ | apply Drawn0.step)⟩
    · rw [if_neg c5] at H
      have c5b0 : decide ((a1.size : Int) ≤ 40) = false := decide_eq_false c5
      have c5b1 : decide (a1.size ≤ 40) = false := decide_eq_false (by omega)
      clear c5
      obtain rfl := Option.some.inj H
      go_enter Try.func11, Try.ntmps11
      go_wp2
      go_ret
      exact ⟨by first | rfl | (simp; done) | (simp [*]; done), by repeat (first | exact Drawn0.refl _ | apply Drawn0.step)⟩
  · rw [if_neg c4] at H
    have c4b0 : decide ((l0.length : Int) ≤ 40) = false := decide_eq_false c4
    have c4b1 : decide (l0.length ≤ 40) = false := decide_eq_false (by omega)
    clear c4
    obtain rfl := Option.some.inj H
    go_enter Try.func11, Try.ntmps11
    go_wp2
    go_ret
    exact ⟨by first | rfl | (simp; done) | (simp [*]; done), by repeat (first | exact Drawn0.refl _ | apply Drawn0.step)⟩

-- by hand: function 12 (drovewaylaw04_alive)

/-! ### drovewayref04_Field: function 17 -/
mutual
def drovewayref04_Field.j0 : Nat → Int → List Int → Bool → Option (Int)
  | 0, _, _, _ => none
  | k + 1, x0, x1, x11 => if x11 = true then (some 2) else (if (x1.length : Int) > 12 then (some 3) else (drovewayref04_Field.l0 k x0 x1 0))
def drovewayref04_Field.l0 : Nat → Int → List Int → Int → Option (Int)
  | 0, _, _, _ => none
  | k + 1, x0, x1, x5 => if x5 < (x1.length : Int) then (if 0 ≤ x5 then (if (rd x1 x5) < 1 then (some 2) else (if 0 ≤ x0 then (if (rd x1 x5) ≥ (shl .i64 1 x0) then (some 2) else (drovewayref04_Field.l0 k x0 x1 (wrap64 (x5 + 1)))) else (none))) else (none)) else (some 0)
end
def drovewayref04_Field.f (k : Nat) (a0 : Int) (l1 : List Int) : Option (Int) := if a0 < 1 then (drovewayref04_Field.j0 k a0 l1 true) else (drovewayref04_Field.j0 k a0 l1 (decide (a0 > 9)))
theorem drovewayref04_Field.mono_l : ∀ k, (∀ y0 y1 y2, LeO (drovewayref04_Field.j0 k y0 y1 y2) (drovewayref04_Field.j0 (k + 1) y0 y1 y2)) ∧ (∀ y0 y1 y2, LeO (drovewayref04_Field.l0 k y0 y1 y2) (drovewayref04_Field.l0 (k + 1) y0 y1 y2))
  | 0 => ⟨fun _ _ _ r h => by simp [drovewayref04_Field.j0] at h, fun _ _ _ r h => by simp [drovewayref04_Field.l0] at h⟩
  | k + 1 => by
    obtain ⟨ih0, ih1⟩ := drovewayref04_Field.mono_l k
    refine ⟨?_, ?_⟩
    · intro y0 y1 y2
      unfold drovewayref04_Field.j0
      repeat' first
      | (with_reducible exact ih0 _ _ _)
      | (with_reducible exact ih1 _ _ _)
      | (with_reducible exact LeO.refl _)
      | (with_reducible exact LeO.none _)
      | (with_reducible refine LeO.ite ?_ ?_)
      | (with_reducible refine LeO.bind ?_ (fun _ => ?_))
      | exact ih0 _ _ _
      | exact ih1 _ _ _
      | exact LeO.none _
      | refine LeO.ite ?_ ?_
      | refine LeO.bind ?_ (fun _ => ?_)
    · intro y0 y1 y2
      unfold drovewayref04_Field.l0
      repeat' first
      | (with_reducible exact ih0 _ _ _)
      | (with_reducible exact ih1 _ _ _)
      | (with_reducible exact LeO.refl _)
      | (with_reducible exact LeO.none _)
      | (with_reducible refine LeO.ite ?_ ?_)
      | (with_reducible refine LeO.bind ?_ (fun _ => ?_))
      | exact ih0 _ _ _
      | exact ih1 _ _ _
      | exact LeO.none _
      | refine LeO.ite ?_ ?_
      | refine LeO.bind ?_ (fun _ => ?_)
theorem drovewayref04_Field.mono : ∀ a0 a1 k, LeO (drovewayref04_Field.f k a0 a1) (drovewayref04_Field.f (k + 1) a0 a1) := by
  intro a0 a1 k
  obtain ⟨ih0, ih1⟩ := drovewayref04_Field.mono_l k
  unfold drovewayref04_Field.f
  repeat' first
      | (with_reducible exact ih0 _ _ _)
      | (with_reducible exact ih1 _ _ _)
      | (with_reducible exact LeO.refl _)
      | (with_reducible exact LeO.none _)
      | (with_reducible refine LeO.ite ?_ ?_)
      | (with_reducible refine LeO.bind ?_ (fun _ => ?_))
      | exact ih0 _ _ _
      | exact ih1 _ _ _
      | exact LeO.none _
      | refine LeO.ite ?_ ?_
      | refine LeO.bind ?_ (fun _ => ?_)
set_option maxHeartbeats 8000000 in
set_option maxRecDepth 100000 in
theorem drovewayref04_Field.calls (k : Nat) (a0 : Int) (A1 : Option Addr) (c1 : Nat) (l1 : List Int) (r : Int) (w : World) (hr1 : Kd.C (Kd.int .i64) w A1 l1.length l1) (hc1 : l1.length ≤ c1) (h : drovewayref04_Field.f k a0 l1 = some r) :
    Calls Try.prog 17 #[.int .i64 a0, .slice A1 l1.length c1] w fun e w' => e = .returned (.int .i64 r) ∧ Drawn0 w w' := by
  have HR1 := Aside0.mk hr1
  have HC1 := Aside0.mk hc1
  clear hr1 hc1
  have H : (if a0 < 1 then (drovewayref04_Field.j0 k a0 l1 true) else (drovewayref04_Field.j0 k a0 l1 (decide (a0 > 9)))) = some r := h
  clear h
  have HC3 := Aside0.mk H
  clear H
  go_enter Try.func17, Try.ntmps17
  go_upto_region 1 with (fail)
  repeat (go_quiet (fail); go_upto_region 1 with (fail))
  go_cut [11] (fun v11 wc => ∃ (kq : Nat) (x11_2 : Bool), v11 = .bool x11_2 ∧ Aside0 (drovewayref04_Field.j0 kq a0 l1 x11_2 = some r) ∧ Aside0 (kq ≤ k) ∧ Drawn0 w wc)
  case first =>
    have H := HC3.out
    clear HC3
    by_cases c4 : a0 < 1
    · rw [if_pos c4] at H
      have c4b0 : decide (a0 < 1) = true := decide_eq_true c4
      clear c4
      (first | rw [c4b0] | (simp only [i64_w, i32_w]; rw [c4b0]) | skip)
      have H' := Aside0.mk H
      clear H
      go_wp2
      repeat (go_quiet (fail); try go_wp2)
      go_meet
      case rel => exact ⟨_, (true), (by first | rfl | (simp; done) | (simp [*]; done) | (simp; exact beq_not_bne _ _)), H', ⟨by first | omega | exact Nat.le_refl _⟩, by repeat (first | exact Drawn0.refl _ | apply Drawn0.step)⟩
    · rw [if_neg c4] at H
      have c4b0 : decide (a0 < 1) = false := decide_eq_false c4
      clear c4
      (first | rw [c4b0] | (simp only [i64_w, i32_w]; rw [c4b0]) | skip)
      have H' := Aside0.mk H
      clear H
      go_wp2
      repeat (go_quiet (fail); try go_wp2)
      go_meet
      case rel => exact ⟨_, (decide (a0 > 9)), (by first | rfl | (simp; done) | (simp [*]; done) | (simp; exact beq_not_bne _ _)), H', ⟨by first | omega | exact Nat.le_refl _⟩, by repeat (first | exact Drawn0.refl _ | apply Drawn0.step)⟩
  case rest =>
    clear HC3
    try clear c1
    try clear p2
    try clear c4
    try clear c4b0
    obtain ⟨kq, x11_2, rfl, HA, HJ2, ⟨mc2, rfl⟩⟩ := hcut
    cases kq with
    | zero => exact absurd HA.out (by simp [drovewayref04_Field.j0])
    | succ kj2 =>
      have H := HA.out
      clear HA
      simp only [drovewayref04_Field.j0] at H
      by_cases c5 : x11_2 = true
      · subst c5
        have H1 : (some 2) = some r := by rw [if_pos rfl] at H; exact H
        clear H
        have H := H1
        clear H1
        obtain rfl := Option.some.inj H
        go_wp2
        repeat (go_quiet (fail); try go_wp2)
        go_ret
        exact ⟨by first | rfl | (simp; done) | (simp [*]; done), by repeat (first | exact Drawn0.refl _ | apply Drawn0.step)⟩
      · replace c5 := Bool.eq_false_iff.mpr c5
        subst c5
        have H1 : (if (l1.length : Int) > 12 then (some 3) else (drovewayref04_Field.l0 kj2 a0 l1 0)) = some r := by rw [if_neg (show ¬ (false = true) by decide)] at H; exact H
        clear H
        have H := H1
        clear H1
        by_cases c6 : (l1.length : Int) > 12
        · rw [if_pos c6] at H
          have c6b0 : decide (12 < (l1.length : Int)) = true := decide_eq_true c6
          have c6b1 : decide (12 < l1.length) = true := decide_eq_true (by omega)
          clear c6
          obtain rfl := Option.some.inj H
          go_wp2
          repeat (go_quiet (fail); try go_wp2)
          go_ret
          exact ⟨by first | rfl | (simp; done) | (simp [*]; done), by repeat (first | exact Drawn0.refl _ | apply Drawn0.step)⟩
        · rw [if_neg c6] at H
          have c6b0 : decide (12 < (l1.length : Int)) = false := decide_eq_false c6
          have c6b1 : decide (12 < l1.length) = false := decide_eq_false (by omega)
          clear c6
          have H' := Aside0.mk H
          clear H
          go_wp2
          repeat (go_quiet (fail); try go_wp2)
          go_loopg [5] kj2 (fun kq v5 w' => ∃ (x5_2 : Int), v5 = .int .i64 x5_2 ∧ Aside0 (drovewayref04_Field.l0 kq a0 l1 x5_2 = some r) ∧ Aside0 (kq ≤ kj2) ∧ Drawn0 w w')
          case atStart => exact ⟨(0), (by first | rfl | (simp; done) | (simp [*]; done) | (simp; exact beq_not_bne _ _)), H', ⟨Nat.le_refl _⟩, by repeat (first | exact Drawn0.refl _ | apply Drawn0.step)⟩
          case round =>
            clear H'
            try clear c1
            try clear c2
            try clear p2
            try clear c4
            try clear c4b0
            try clear c5
            try clear c6
            try clear c6b0
            try clear c6b1
            try clear p2
            obtain ⟨x5_2, rfl, HA, HK2, ⟨m2, rfl⟩⟩ := hrel
            cases gk with
            | zero => exact absurd HA.out (by simp [drovewayref04_Field.l0])
            | succ k2 =>
              have H := HA.out
              clear HA
              simp only [drovewayref04_Field.l0] at H
              by_cases c7 : x5_2 < (l1.length : Int)
              · rw [if_pos c7] at H
                have c7b0 : decide (x5_2 < (l1.length : Int)) = true := decide_eq_true c7
                clear c7
                by_cases c8 : 0 ≤ x5_2
                · rw [if_pos c8] at H
                  have c8b0 : decide (0 ≤ x5_2) = true := decide_eq_true c8
                  clear c8
                  by_cases c9 : (rd l1 x5_2) < 1
                  · rw [if_pos c9] at H
                    have c9b0 : decide ((rd l1 x5_2) < 1) = true := decide_eq_true c9
                    clear c9
                    obtain rfl := Option.some.inj H
                    have p101 : 0 ≤ (x5_2 : Int) := of_decide_eq_true (by first | (with_reducible assumption) | assumption)
                    have q101 : x5_2 < (l1.length : Int) := of_decide_eq_true (by first | (with_reducible assumption) | assumption)
                    obtain ⟨ad101, e101, hx101_0⟩ := Kd.at_int HR1.out x5_2 p101 q101
                    cases e101
                    replace p101 := eq_true p101
                    replace q101 := eq_true q101
                    go_wp2
                    repeat (go_quiet (fail); try go_wp2)
                    go_ret
                    exact ⟨by first | rfl | (simp; done) | (simp [*]; done), by repeat (first | exact Drawn0.refl _ | apply Drawn0.step)⟩
                  · rw [if_neg c9] at H
                    have c9b0 : decide ((rd l1 x5_2) < 1) = false := decide_eq_false c9
                    clear c9
                    by_cases c10 : 0 ≤ a0
                    · rw [if_pos c10] at H
                      have c10b0 := eq_true c10
                      have c10b1 : decide (0 ≤ a0) = true := decide_eq_true c10
                      clear c10
                      obtain ⟨ji11, hji11⟩ : ∃ j_ : Int, (shl .i64 1 a0) = j_ := ⟨_, rfl⟩
                      replace H : (if (rd l1 x5_2) ≥ (ji11) then (some 2) else (drovewayref04_Field.l0 k2 a0 l1 (wrap64 (x5_2 + 1)))) = some r := by first | (rw [hji11] at H; exact H) | (simp only [hji11] at H ⊢; exact H)
                      have hji11_ : (IntKind.i64.wrap (1 * 2 ^ min a0.toNat 64)) = ji11 := hji11
                      have hji11z : a0 ≤ 64 → (IntKind.i64.wrap (1 * 2 ^ a0.toNat)) = ji11 := shl_small hji11
                      have hji11u : (IntKind.i64.wrap (2 ^ min a0.toNat 64)) = ji11 := by have h_ := hji11_; rw [Int.one_mul] at h_; exact h_
                      have hji11v : a0 ≤ 64 → (IntKind.i64.wrap (2 ^ a0.toNat)) = ji11 := fun hle_ => by have h_ := hji11z hle_; rw [Int.one_mul] at h_; exact h_
                      have hji11y : (wrap64 (1 * 2 ^ min a0.toNat 64)) = ji11 := (i64_w _).symm.trans hji11_
                      have hji11x : a0 ≤ 64 → (wrap64 (1 * 2 ^ a0.toNat)) = ji11 := fun h_ => (i64_w _).symm.trans (hji11z h_)
                      by_cases c12 : (rd l1 x5_2) ≥ (ji11)
                      · rw [if_pos c12] at H
                        have c12b0 : decide ((ji11) ≤ (rd l1 x5_2)) = true := decide_eq_true c12
                        clear c12
                        obtain rfl := Option.some.inj H
                        have p101 : 0 ≤ (x5_2 : Int) := of_decide_eq_true (by first | (with_reducible assumption) | assumption)
                        have q101 : x5_2 < (l1.length : Int) := of_decide_eq_true (by first | (with_reducible assumption) | assumption)
                        obtain ⟨ad101, e101, hx101_0⟩ := Kd.at_int HR1.out x5_2 p101 q101
                        cases e101
                        replace p101 := eq_true p101
                        replace q101 := eq_true q101
                        have p102 : 0 ≤ (x5_2 : Int) := of_decide_eq_true (by first | (with_reducible assumption) | assumption)
                        have q102 : x5_2 < (l1.length : Int) := of_decide_eq_true (by first | (with_reducible assumption) | assumption)
                        obtain ⟨ad102, e102, hx102_0⟩ := Kd.at_int HR1.out x5_2 p102 q102
                        obtain rfl : ad101 = ad102 := (by injection e102)
                        replace p102 := eq_true p102
                        replace q102 := eq_true q102
                        go_wp2
                        repeat (go_quiet (fail); try go_wp2)
                        go_ret
                        exact ⟨by first | rfl | (simp; done) | (simp only [← hji11] <;> (first | rfl | simp)) | (simp [*]; done), by repeat (first | exact Drawn0.refl _ | apply Drawn0.step)⟩
                      · rw [if_neg c12] at H
                        have c12b0 : decide ((ji11) ≤ (rd l1 x5_2)) = false := decide_eq_false c12
                        clear c12
                        have H' := Aside0.mk H
                        clear H
                        have p101 : 0 ≤ (x5_2 : Int) := of_decide_eq_true (by first | (with_reducible assumption) | assumption)
                        have q101 : x5_2 < (l1.length : Int) := of_decide_eq_true (by first | (with_reducible assumption) | assumption)
                        obtain ⟨ad101, e101, hx101_0⟩ := Kd.at_int HR1.out x5_2 p101 q101
                        cases e101
                        replace p101 := eq_true p101
                        replace q101 := eq_true q101
                        have p102 : 0 ≤ (x5_2 : Int) := of_decide_eq_true (by first | (with_reducible assumption) | assumption)
                        have q102 : x5_2 < (l1.length : Int) := of_decide_eq_true (by first | (with_reducible assumption) | assumption)
                        obtain ⟨ad102, e102, hx102_0⟩ := Kd.at_int HR1.out x5_2 p102 q102
                        obtain rfl : ad101 = ad102 := (by injection e102)
                        replace p102 := eq_true p102
                        replace q102 := eq_true q102
                        go_wp2
                        repeat (go_quiet (fail); try go_wp2)
                        go_roundg k2
                        case measure => have := HJ2.out; have := HK2.out; omega
                        case rel => exact ⟨(wrap64 (x5_2 + 1)), (by first | rfl | (simp; done) | (simp [*]; done) | (simp; exact beq_not_bne _ _)), H', ⟨by have := HJ2.out; have := HK2.out; omega⟩, by repeat (first | exact Drawn0.refl _ | apply Drawn0.step)⟩
                    · rw [if_neg c10] at H
                      exact absurd H (by simp)
                · rw [if_neg c8] at H
                  exact absurd H (by simp)
              · rw [if_neg c7] at H
                have c7b0 : decide (x5_2 < (l1.length : Int)) = false := decide_eq_false c7
                clear c7
                obtain rfl := Option.some.inj H
                go_wp2
                repeat (go_quiet (fail); try go_wp2)
                go_ret
                exact ⟨by first | rfl | (simp; done) | (simp [*]; done), by repeat (first | exact Drawn0.refl _ | apply Drawn0.step)⟩

/-! ### drovewayref04_Placed: function 13 -/
def drovewayref04_Placed.l0 : Nat → Int → ByteArray → Int → Int → Int → Option (Int × Int × Int)
  | 0, _, _, _, _, _ => none
  | k + 1, x0, x2, x10, x11, x12 => if x12 < x0 then (if 0 ≤ x12 then (if x12 < (x2.size : Int) then (if (bt x2 x12) = 119 then (drovewayref04_Placed.l0 k x0 x2 (wrap64 (x10 + (shl .i64 1 x12))) x11 (wrap64 (x12 + 1))) else (if (bt x2 x12) = 100 then (drovewayref04_Placed.l0 k x0 x2 x10 (wrap64 (x11 + (shl .i64 1 x12))) (wrap64 (x12 + 1))) else (if (bt x2 x12) = 46 then (drovewayref04_Placed.l0 k x0 x2 x10 x11 (wrap64 (x12 + 1))) else (some (0, 0, 5))))) else (none)) else (none)) else (some (x10, x11, 0))
def drovewayref04_Placed.f (k : Nat) (a0 : Int) (l1 : List Int) (a2 : ByteArray) : Option (Int × Int × Int) := (drovewayref04_Field.f k a0 l1).bind fun t103 => (if t103 = 0 then (if (a2.size : Int) = a0 then (drovewayref04_Placed.l0 k a0 a2 0 0 0) else (some (0, 0, 5))) else (some (0, 0, t103)))
theorem drovewayref04_Placed.mono_l : ∀ k, (∀ y0 y1 y2 y3 y4, LeO (drovewayref04_Placed.l0 k y0 y1 y2 y3 y4) (drovewayref04_Placed.l0 (k + 1) y0 y1 y2 y3 y4))
  | 0 => fun _ _ _ _ _ r h => by simp [drovewayref04_Placed.l0] at h
  | k + 1 => by
    have ih0 := drovewayref04_Placed.mono_l k
    · intro y0 y1 y2 y3 y4
      unfold drovewayref04_Placed.l0
      repeat' first
      | (with_reducible exact ih0 _ _ _ _ _)
      | (with_reducible exact drovewayref04_Field.mono _ _ _)
      | (with_reducible exact LeO.refl _)
      | (with_reducible exact LeO.none _)
      | (with_reducible refine LeO.ite ?_ ?_)
      | (with_reducible refine LeO.bind ?_ (fun _ => ?_))
      | exact ih0 _ _ _ _ _
      | exact drovewayref04_Field.mono _ _ _
      | exact LeO.none _
      | refine LeO.ite ?_ ?_
      | refine LeO.bind ?_ (fun _ => ?_)
theorem drovewayref04_Placed.mono : ∀ a0 a1 a2 k, LeO (drovewayref04_Placed.f k a0 a1 a2) (drovewayref04_Placed.f (k + 1) a0 a1 a2) := by
  intro a0 a1 a2 k
  have ih0 := drovewayref04_Placed.mono_l k
  unfold drovewayref04_Placed.f
  repeat' first
      | (with_reducible exact ih0 _ _ _ _ _)
      | (with_reducible exact drovewayref04_Field.mono _ _ _)
      | (with_reducible exact LeO.refl _)
      | (with_reducible exact LeO.none _)
      | (with_reducible refine LeO.ite ?_ ?_)
      | (with_reducible refine LeO.bind ?_ (fun _ => ?_))
      | exact ih0 _ _ _ _ _
      | exact drovewayref04_Field.mono _ _ _
      | exact LeO.none _
      | refine LeO.ite ?_ ?_
      | refine LeO.bind ?_ (fun _ => ?_)
set_option maxHeartbeats 8000000 in
set_option maxRecDepth 100000 in
theorem drovewayref04_Placed.calls (k : Nat) (a0 : Int) (A1 : Option Addr) (c1 : Nat) (l1 : List Int) (a2 : ByteArray) (r1 : Int) (r2 : Int) (r3 : Int) (w : World) (hr1 : Kd.C (Kd.int .i64) w A1 l1.length l1) (hc1 : l1.length ≤ c1) (h : drovewayref04_Placed.f k a0 l1 a2 = some (r1, r2, r3)) :
    Calls Try.prog 13 #[.int .i64 a0, .slice A1 l1.length c1, .string a2] w fun e w' => e = .returned (.tuple #[.int .i64 r1, .int .i64 r2, .int .i64 r3]) ∧ Drawn0 w w' := by
  have HR1 := Aside0.mk hr1
  have HC1 := Aside0.mk hc1
  clear hr1 hc1
  have H : ((drovewayref04_Field.f k a0 l1).bind fun t103 => (if t103 = 0 then (if (a2.size : Int) = a0 then (drovewayref04_Placed.l0 k a0 a2 0 0 0) else (some (0, 0, 5))) else (some (0, 0, t103)))) = some (r1, r2, r3) := h
  clear h
  replace H := Option.bind_eq_some_iff.mp H
  obtain ⟨t103, A40, H⟩ := H
  replace H : (if t103 = 0 then (if (a2.size : Int) = a0 then (drovewayref04_Placed.l0 k a0 a2 0 0 0) else (some (0, 0, 5))) else (some (0, 0, t103))) = some (r1, r2, r3) := H
  have A4 := Aside0.mk A40
  clear A40
  by_cases c5 : t103 = 0
  · rw [if_pos c5] at H
    have c5b0 : (t103 == 0) = true := beq_iff_eq.mpr c5
    have c5b1 : (t103 != 0) = false := bne_eq_false_iff_eq.mpr c5
    clear c5
    by_cases c6 : (a2.size : Int) = a0
    · rw [if_pos c6] at H
      have c6b0 : ((a2.size : Int) == a0) = true := beq_iff_eq.mpr c6
      have c6b1 : ((a2.size : Int) != a0) = false := bne_eq_false_iff_eq.mpr c6
      clear c6
      have H' := Aside0.mk H
      clear H
      go_enter Try.func13, Try.ntmps13
      go_wp2_with (first | ((with_reducible refine gate_callee (f := 17) rfl ?_); refine goesL_ (some 15) rfl rfl Try.func17 (by kernel_rfl) rfl #[.int .i64 a0, .slice A1 l1.length c1] rfl (by (try simp only [List.map_toArray, List.map_cons, List.map_nil]); first | done | rfl | (simp only [List.length_drop, List.length_take]; rfl)) ?_; (with_reducible refine (drovewayref04_Field.calls k a0 _ _ l1 t103 _ ?side1 ?side2 A4.out).mono ?_); (case side1 => repeat (first | exact HR1.out | (with_reducible refine Kd.C_alloc ?_ _) | (with_reducible refine Kd.C_drewN ?_ _) | (with_reducible refine Kd.C_drew ?_))); (case side2 => exact HC1.out); rintro e w' ⟨rfl, ⟨nd, rfl⟩⟩; refine ⟨_, rfl, ?_⟩))
      go_loopg [10, 11, 12] k (fun kq v10 v11 v12 w' => ∃ (x10_1 : Int) (x11_1 : Int) (x12_1 : Int), v10 = .int .i64 x10_1 ∧ v11 = .int .i64 x11_1 ∧ v12 = .int .i64 x12_1 ∧ Aside0 (drovewayref04_Placed.l0 kq a0 a2 x10_1 x11_1 x12_1 = some (r1, r2, r3)) ∧ Aside0 (kq ≤ k) ∧ Drawn0 w w')
      case atStart => exact ⟨(0), (0), (0), (by first | rfl | (simp; done) | (simp [*]; done) | (simp; exact beq_not_bne _ _)), (by first | rfl | (simp; done) | (simp [*]; done)), (by first | rfl | (simp; done) | (simp [*]; done)), H', ⟨Nat.le_refl _⟩, by repeat (first | exact Drawn0.refl _ | apply Drawn0.step)⟩
      case round =>
        clear H'
        try clear c1
        try clear p2
        try clear c5
        try clear c5b0
        try clear c5b1
        try clear c6
        try clear c6b0
        try clear c6b1
        obtain ⟨x10_1, x11_1, x12_1, rfl, rfl, rfl, HA, HK1, ⟨m1, rfl⟩⟩ := hrel
        cases gk with
        | zero => exact absurd HA.out (by simp [drovewayref04_Placed.l0])
        | succ k1 =>
          have H := HA.out
          clear HA
          simp only [drovewayref04_Placed.l0] at H
          by_cases c7 : x12_1 < a0
          · rw [if_pos c7] at H
            have c7b0 : decide (x12_1 < a0) = true := decide_eq_true c7
            clear c7
            by_cases c8 : 0 ≤ x12_1
            · rw [if_pos c8] at H
              have c8b0 : decide (0 ≤ x12_1) = true := decide_eq_true c8
              clear c8
              by_cases c9 : x12_1 < (a2.size : Int)
              · rw [if_pos c9] at H
                have c9b0 : decide (x12_1 < (a2.size : Int)) = true := decide_eq_true c9
                clear c9
                by_cases c11 : (bt a2 x12_1) = 119
                · rw [if_pos c11] at H
                  have c11b0 : ((bt a2 x12_1) == 119) = true := beq_iff_eq.mpr c11
                  have c11b1 : ((bt a2 x12_1) != 119) = false := bne_eq_false_iff_eq.mpr c11
                  clear c11
                  have c12b0 := eq_true (of_decide_eq_true (by first | (with_reducible assumption) | assumption) : 0 ≤ x12_1)
                  obtain ⟨ji13, hji13⟩ : ∃ j_ : Int, (shl .i64 1 x12_1) = j_ := ⟨_, rfl⟩
                  replace H : (drovewayref04_Placed.l0 k1 a0 a2 (wrap64 (x10_1 + (ji13))) x11_1 (wrap64 (x12_1 + 1))) = some (r1, r2, r3) := by first | (rw [hji13] at H; exact H) | (simp only [hji13] at H ⊢; exact H)
                  have hji13_ : (IntKind.i64.wrap (1 * 2 ^ min x12_1.toNat 64)) = ji13 := hji13
                  have hji13z : x12_1 ≤ 64 → (IntKind.i64.wrap (1 * 2 ^ x12_1.toNat)) = ji13 := shl_small hji13
                  have hji13u : (IntKind.i64.wrap (2 ^ min x12_1.toNat 64)) = ji13 := by have h_ := hji13_; rw [Int.one_mul] at h_; exact h_
                  have hji13v : x12_1 ≤ 64 → (IntKind.i64.wrap (2 ^ x12_1.toNat)) = ji13 := fun hle_ => by have h_ := hji13z hle_; rw [Int.one_mul] at h_; exact h_
                  have hji13y : (wrap64 (1 * 2 ^ min x12_1.toNat 64)) = ji13 := (i64_w _).symm.trans hji13_
                  have hji13x : x12_1 ≤ 64 → (wrap64 (1 * 2 ^ x12_1.toNat)) = ji13 := fun h_ => (i64_w _).symm.trans (hji13z h_)
                  have H' := Aside0.mk H
                  clear H
                  have p10 : 0 ≤ (x12_1 : Int) := of_decide_eq_true (by first | (with_reducible assumption) | assumption)
                  have q10 : x12_1 < (a2.size : Int) := of_decide_eq_true (by first | (with_reducible assumption) | assumption)
                  have hx10 := bt_at a2 x12_1
                  replace p10 := eq_true p10
                  replace q10 := eq_true q10
                  go_wp2
                  go_roundg k1
                  case measure => have := HK1.out; omega
                  case rel => exact ⟨(wrap64 (x10_1 + (ji13))), (x11_1), (wrap64 (x12_1 + 1)), (by first | rfl | (simp; done) | (simp only [← hji13] <;> (first | rfl | simp)) | (simp [*]; done)), (by first | rfl | (simp; done) | (simp [*]; done) | (simp; exact beq_not_bne _ _)), (by first | rfl | (simp; done) | (simp [*]; done)), H', ⟨by have := HK1.out; omega⟩, by repeat (first | exact Drawn0.refl _ | apply Drawn0.step)⟩
                · rw [if_neg c11] at H
                  have c11b0 : ((bt a2 x12_1) == 119) = false := beq_eq_false_iff_ne.mpr c11
                  have c11b1 : ((bt a2 x12_1) != 119) = true := bne_iff_ne.mpr c11
                  by_cases c14 : (bt a2 x12_1) = 100
                  · rw [if_pos c14] at H
                    have c14b0 : ((bt a2 x12_1) == 100) = true := beq_iff_eq.mpr c14
                    have c14b1 : ((bt a2 x12_1) != 100) = false := bne_eq_false_iff_eq.mpr c14
                    clear c14
                    have c15b0 := eq_true (of_decide_eq_true (by first | (with_reducible assumption) | assumption) : 0 ≤ x12_1)
                    obtain ⟨ji16, hji16⟩ : ∃ j_ : Int, (shl .i64 1 x12_1) = j_ := ⟨_, rfl⟩
                    replace H : (drovewayref04_Placed.l0 k1 a0 a2 x10_1 (wrap64 (x11_1 + (ji16))) (wrap64 (x12_1 + 1))) = some (r1, r2, r3) := by first | (rw [hji16] at H; exact H) | (simp only [hji16] at H ⊢; exact H)
                    have hji16_ : (IntKind.i64.wrap (1 * 2 ^ min x12_1.toNat 64)) = ji16 := hji16
                    have hji16z : x12_1 ≤ 64 → (IntKind.i64.wrap (1 * 2 ^ x12_1.toNat)) = ji16 := shl_small hji16
                    have hji16u : (IntKind.i64.wrap (2 ^ min x12_1.toNat 64)) = ji16 := by have h_ := hji16_; rw [Int.one_mul] at h_; exact h_
                    have hji16v : x12_1 ≤ 64 → (IntKind.i64.wrap (2 ^ x12_1.toNat)) = ji16 := fun hle_ => by have h_ := hji16z hle_; rw [Int.one_mul] at h_; exact h_
                    have hji16y : (wrap64 (1 * 2 ^ min x12_1.toNat 64)) = ji16 := (i64_w _).symm.trans hji16_
                    have hji16x : x12_1 ≤ 64 → (wrap64 (1 * 2 ^ x12_1.toNat)) = ji16 := fun h_ => (i64_w _).symm.trans (hji16z h_)
                    have H' := Aside0.mk H
                    clear H
                    have p10 : 0 ≤ (x12_1 : Int) := of_decide_eq_true (by first | (with_reducible assumption) | assumption)
                    have q10 : x12_1 < (a2.size : Int) := of_decide_eq_true (by first | (with_reducible assumption) | assumption)
                    have hx10 := bt_at a2 x12_1
                    replace p10 := eq_true p10
                    replace q10 := eq_true q10
                    go_wp2
                    go_roundg k1
                    case measure => have := HK1.out; omega
                    case rel => exact ⟨(x10_1), (wrap64 (x11_1 + (ji16))), (wrap64 (x12_1 + 1)), (by first | rfl | (simp; done) | (simp [*]; done) | (simp; exact beq_not_bne _ _)), (by first | rfl | (simp; done) | (simp only [← hji16] <;> (first | rfl | simp)) | (simp [*]; done)), (by first | rfl | (simp; done) | (simp [*]; done)), H', ⟨by have := HK1.out; omega⟩, by repeat (first | exact Drawn0.refl _ | apply Drawn0.step)⟩
                  · rw [if_neg c14] at H
                    have c14b0 : ((bt a2 x12_1) == 100) = false := beq_eq_false_iff_ne.mpr c14
                    have c14b1 : ((bt a2 x12_1) != 100) = true := bne_iff_ne.mpr c14
                    by_cases c17 : (bt a2 x12_1) = 46
                    · rw [if_pos c17] at H
                      have c17b0 : ((bt a2 x12_1) == 46) = true := beq_iff_eq.mpr c17
                      have c17b1 : ((bt a2 x12_1) != 46) = false := bne_eq_false_iff_eq.mpr c17
                      clear c17
                      have H' := Aside0.mk H
                      clear H
                      have p10 : 0 ≤ (x12_1 : Int) := of_decide_eq_true (by first | (with_reducible assumption) | assumption)
                      have q10 : x12_1 < (a2.size : Int) := of_decide_eq_true (by first | (with_reducible assumption) | assumption)
                      have hx10 := bt_at a2 x12_1
                      replace p10 := eq_true p10
                      replace q10 := eq_true q10
                      go_wp2
                      go_roundg k1
                      case measure => have := HK1.out; omega
                      case rel => exact ⟨(x10_1), (x11_1), (wrap64 (x12_1 + 1)), (by first | rfl | (simp; done) | (simp [*]; done) | (simp; exact beq_not_bne _ _)), (by first | rfl | (simp; done) | (simp [*]; done)), (by first | rfl | (simp; done) | (simp [*]; done)), H', ⟨by have := HK1.out; omega⟩, by repeat (first | exact Drawn0.refl _ | apply Drawn0.step)⟩
                    · rw [if_neg c17] at H
                      have c17b0 : ((bt a2 x12_1) == 46) = false := beq_eq_false_iff_ne.mpr c17
                      have c17b1 : ((bt a2 x12_1) != 46) = true := bne_iff_ne.mpr c17
                      simp only [Option.some.injEq, Prod.mk.injEq] at H
                      obtain ⟨rfl, rfl, rfl⟩ := H
                      have p10 : 0 ≤ (x12_1 : Int) := of_decide_eq_true (by first | (with_reducible assumption) | assumption)
                      have q10 : x12_1 < (a2.size : Int) := of_decide_eq_true (by first | (with_reducible assumption) | assumption)
                      have hx10 := bt_at a2 x12_1
                      replace p10 := eq_true p10
                      replace q10 := eq_true q10
                      go_wp2
                      go_ret3
                      exact ⟨by first | rfl | (simp; done) | (simp [*]; done), by repeat (first | exact Drawn0.refl _ | apply Drawn0.step)⟩
              · rw [if_neg c9] at H
                exact absurd H (by simp)
            · rw [if_neg c8] at H
              exact absurd H (by simp)
          · rw [if_neg c7] at H
            have c7b0 : decide (x12_1 < a0) = false := decide_eq_false c7
            clear c7
            simp only [Option.some.injEq, Prod.mk.injEq] at H
            obtain ⟨rfl, rfl, rfl⟩ := H
            go_wp2
            go_ret3
            exact ⟨by first | rfl | (simp; done) | (simp [*]; done), by repeat (first | exact Drawn0.refl _ | apply Drawn0.step)⟩
    · rw [if_neg c6] at H
      have c6b0 : ((a2.size : Int) == a0) = false := beq_eq_false_iff_ne.mpr c6
      have c6b1 : ((a2.size : Int) != a0) = true := bne_iff_ne.mpr c6
      simp only [Option.some.injEq, Prod.mk.injEq] at H
      obtain ⟨rfl, rfl, rfl⟩ := H
      go_enter Try.func13, Try.ntmps13
      go_wp2_with (first | ((with_reducible refine gate_callee (f := 17) rfl ?_); refine goesL_ (some 15) rfl rfl Try.func17 (by kernel_rfl) rfl #[.int .i64 a0, .slice A1 l1.length c1] rfl (by (try simp only [List.map_toArray, List.map_cons, List.map_nil]); first | done | rfl | (simp only [List.length_drop, List.length_take]; rfl)) ?_; (with_reducible refine (drovewayref04_Field.calls k a0 _ _ l1 t103 _ ?side1 ?side2 A4.out).mono ?_); (case side1 => repeat (first | exact HR1.out | (with_reducible refine Kd.C_alloc ?_ _) | (with_reducible refine Kd.C_drewN ?_ _) | (with_reducible refine Kd.C_drew ?_))); (case side2 => exact HC1.out); rintro e w' ⟨rfl, ⟨nd, rfl⟩⟩; refine ⟨_, rfl, ?_⟩))
      go_ret3
      exact ⟨by first | rfl | (simp; done) | (simp [*]; done), by repeat (first | exact Drawn0.refl _ | apply Drawn0.step)⟩
  · rw [if_neg c5] at H
    have c5b0 : (t103 == 0) = false := beq_eq_false_iff_ne.mpr c5
    have c5b1 : (t103 != 0) = true := bne_iff_ne.mpr c5
    simp only [Option.some.injEq, Prod.mk.injEq] at H
    obtain ⟨rfl, rfl, rfl⟩ := H
    go_enter Try.func13, Try.ntmps13
    go_wp2_with (first | ((with_reducible refine gate_callee (f := 17) rfl ?_); refine goesL_ (some 15) rfl rfl Try.func17 (by kernel_rfl) rfl #[.int .i64 a0, .slice A1 l1.length c1] rfl (by (try simp only [List.map_toArray, List.map_cons, List.map_nil]); first | done | rfl | (simp only [List.length_drop, List.length_take]; rfl)) ?_; (with_reducible refine (drovewayref04_Field.calls k a0 _ _ l1 t103 _ ?side1 ?side2 A4.out).mono ?_); (case side1 => repeat (first | exact HR1.out | (with_reducible refine Kd.C_alloc ?_ _) | (with_reducible refine Kd.C_drewN ?_ _) | (with_reducible refine Kd.C_drew ?_))); (case side2 => exact HC1.out); rintro e w' ⟨rfl, ⟨nd, rfl⟩⟩; refine ⟨_, rfl, ?_⟩))
    go_ret3
    exact ⟨by first | rfl | (simp; done) | (simp [*]; done), by repeat (first | exact Drawn0.refl _ | apply Drawn0.step)⟩

-- by hand: function 14 (ambush_Winner)

-- by hand: function 33 (ambush_Least)

end Go.Proofs.Ytbjpjjokamaliaa.PAmbushLines

-- Printed by hprint.py (this claim's own program, over the kit's print.py) out of the translation and contracts by hand. Not trusted: Lean checks it.
namespace Go.Proofs.Ytbjpjjokamaliaa.PAmbushLines
open Go.Proofs.Ytbjpjjokamaliaa.A Go.Proofs.Ytbjpjjokamaliaa.B
open Go.RowKit Go.Proofs.YtbjpjjokamaliaaW.PrintWords Go.Proofs.YtbjpjjokamaliaaW.PrintLast Go.Proofs.YtbjpjjokamaliaaW.PrintMore
attribute [local go_sem] max2_int min2_int max_two min_two max_three min_three max_four min_four   -- for this text's walks alone
set_option linter.unusedVariables false
set_option linter.unusedSimpArgs false

/-! ### drovewaylaw04_AmbushLines: function 9 -/
mutual
def drovewaylaw04_AmbushLines.j0 : Nat → Int → List Int → ByteArray → Int → ByteArray → Option (Bool)
  | 0, _, _, _, _, _ => none
  | k + 1, x0, x1, x2, x4, x14 => drovewaylaw04_AmbushLines.l0 k x0 x1 x2 x4 x14 ([] : List Int) (wrap64 ((x1.length : Int) - 1))
def drovewaylaw04_AmbushLines.l0 : Nat → Int → List Int → ByteArray → Int → ByteArray → List Int → Int → Option (Bool)
  | 0, _, _, _, _, _, _, _ => none
  | k + 1, x0, x1, x2, x4, x14, x15, x16 => if x16 ≥ 0 then (if 0 ≤ x16 then (if x16 < (x1.length : Int) then (if x15.length < 17592186044416 then (drovewaylaw04_AmbushLines.l0 k x0 x1 x2 x4 x14 (x15 ++ [rd x1 x16]) (wrap64 (x16 - 1))) else (none)) else (none)) else (none)) else ((ambush_Least.f x0 x1).bind fun bt114 => ((ambush_Winner.f x0 x1 x2 x14).bind fun bt118 => ((ambush_Winner.f x0 bt114.1 x2 x14).bind fun bt120 => ((ambush_Winner.f x0 x15 x2 x14).bind fun bt122 => (if bt114.2 = 0 then (if bt118.2 = 0 then (if bt120.2 = 0 then (if bt122.2 = 0 then (if bt118.1.toList = bt120.1.toList then (drovewaylaw04_AmbushLines.j2 k x0 x1 x2 x4 x14 bt118.1 (bt118.1.toList != bt122.1.toList)) else (drovewaylaw04_AmbushLines.j2 k x0 x1 x2 x4 x14 bt118.1 true)) else (drovewaylaw04_AmbushLines.j2 k x0 x1 x2 x4 x14 bt118.1 true)) else (drovewaylaw04_AmbushLines.j2 k x0 x1 x2 x4 x14 bt118.1 true)) else (drovewaylaw04_AmbushLines.j2 k x0 x1 x2 x4 x14 bt118.1 true)) else (drovewaylaw04_AmbushLines.j2 k x0 x1 x2 x4 x14 bt118.1 true))))))
def drovewaylaw04_AmbushLines.j2 : Nat → Int → List Int → ByteArray → Int → ByteArray → ByteArray → Bool → Option (Bool)
  | 0, _, _, _, _, _, _, _ => none
  | k + 1, x0, x1, x2, x4, x14, x18, x110 => if x110 = true then (some false) else ((some (([] : List Int) : List Int)).bind fun y124 => (if y124.length + x1.length < 17592186044416 then ((some (y124 ++ x1 : List Int)).bind fun y127 => (if y127.length < 17592186044416 then ((some (y127 ++ [x4] : List Int)).bind fun y130 => ((drovewayref04_Field.f k x0 y130).bind fun t133 => (if t133 = 0 then ((ambush_Winner.f x0 y130 x2 x14).bind fun bt134 => (if bt134.2 = 0 then (if x18.toList = ([119] : List UInt8) then (if bt134.1.toList = ([119] : List UInt8) then ((drovewaylaw04_alive.f).bind fun t136 => (some t136)) else (some false)) else ((drovewaylaw04_alive.f).bind fun t137 => (some t137))) else (some false))) else ((drovewaylaw04_alive.f).bind fun t138 => (some t138))))) else (none))) else (none)))
end
def drovewaylaw04_AmbushLines.f (k : Nat) (a0 : Int) (l1 : List Int) (a2 : ByteArray) (a3 : Bool) (a4 : Int) : Option (Bool) := (drovewaylaw04_few.f l1 a2 (⟨#[]⟩ : ByteArray)).bind fun t104 => (if t104 = true then ((drovewayref04_Placed.f k a0 l1 a2).bind fun bt106 => (if bt106.2.2 = 0 then (if a3 = true then (drovewaylaw04_AmbushLines.j0 k a0 l1 a2 a4 (⟨#[119]⟩ : ByteArray)) else (drovewaylaw04_AmbushLines.j0 k a0 l1 a2 a4 (⟨#[100]⟩ : ByteArray))) else ((drovewaylaw04_alive.f).bind fun t109 => (some t109)))) else ((drovewaylaw04_alive.f).bind fun t105 => (some t105)))
theorem drovewaylaw04_AmbushLines.mono_l : ∀ k, (∀ y0 y1 y2 y3 y4, LeO (drovewaylaw04_AmbushLines.j0 k y0 y1 y2 y3 y4) (drovewaylaw04_AmbushLines.j0 (k + 1) y0 y1 y2 y3 y4)) ∧ (∀ y0 y1 y2 y3 y4 y5 y6, LeO (drovewaylaw04_AmbushLines.l0 k y0 y1 y2 y3 y4 y5 y6) (drovewaylaw04_AmbushLines.l0 (k + 1) y0 y1 y2 y3 y4 y5 y6)) ∧ (∀ y0 y1 y2 y3 y4 y5 y6, LeO (drovewaylaw04_AmbushLines.j2 k y0 y1 y2 y3 y4 y5 y6) (drovewaylaw04_AmbushLines.j2 (k + 1) y0 y1 y2 y3 y4 y5 y6))
  | 0 => ⟨fun _ _ _ _ _ r h => by simp [drovewaylaw04_AmbushLines.j0] at h, fun _ _ _ _ _ _ _ r h => by simp [drovewaylaw04_AmbushLines.l0] at h, fun _ _ _ _ _ _ _ r h => by simp [drovewaylaw04_AmbushLines.j2] at h⟩
  | k + 1 => by
    obtain ⟨ih0, ih1, ih2⟩ := drovewaylaw04_AmbushLines.mono_l k
    refine ⟨?_, ?_, ?_⟩
    · intro y0 y1 y2 y3 y4
      unfold drovewaylaw04_AmbushLines.j0
      repeat' first
      | (with_reducible exact ih0 _ _ _ _ _)
      | (with_reducible exact ih1 _ _ _ _ _ _ _)
      | (with_reducible exact ih2 _ _ _ _ _ _ _)
      | (with_reducible exact drovewayref04_Field.mono _ _ _)
      | (with_reducible exact drovewayref04_Placed.mono _ _ _ _)
      | (with_reducible exact LeO.refl _)
      | (with_reducible exact LeO.none _)
      | (with_reducible refine LeO.ite ?_ ?_)
      | (with_reducible refine LeO.bind ?_ (fun _ => ?_))
      | exact ih0 _ _ _ _ _
      | exact ih1 _ _ _ _ _ _ _
      | exact ih2 _ _ _ _ _ _ _
      | exact drovewayref04_Field.mono _ _ _
      | exact drovewayref04_Placed.mono _ _ _ _
      | exact LeO.none _
      | refine LeO.ite ?_ ?_
      | refine LeO.bind ?_ (fun _ => ?_)
    · intro y0 y1 y2 y3 y4 y5 y6
      unfold drovewaylaw04_AmbushLines.l0
      repeat' first
      | (with_reducible exact ih0 _ _ _ _ _)
      | (with_reducible exact ih1 _ _ _ _ _ _ _)
      | (with_reducible exact ih2 _ _ _ _ _ _ _)
      | (with_reducible exact drovewayref04_Field.mono _ _ _)
      | (with_reducible exact drovewayref04_Placed.mono _ _ _ _)
      | (with_reducible exact LeO.refl _)
      | (with_reducible exact LeO.none _)
      | (with_reducible refine LeO.ite ?_ ?_)
      | (with_reducible refine LeO.bind ?_ (fun _ => ?_))
      | exact ih0 _ _ _ _ _
      | exact ih1 _ _ _ _ _ _ _
      | exact ih2 _ _ _ _ _ _ _
      | exact drovewayref04_Field.mono _ _ _
      | exact drovewayref04_Placed.mono _ _ _ _
      | exact LeO.none _
      | refine LeO.ite ?_ ?_
      | refine LeO.bind ?_ (fun _ => ?_)
    · intro y0 y1 y2 y3 y4 y5 y6
      unfold drovewaylaw04_AmbushLines.j2
      repeat' first
      | (with_reducible exact ih0 _ _ _ _ _)
      | (with_reducible exact ih1 _ _ _ _ _ _ _)
      | (with_reducible exact ih2 _ _ _ _ _ _ _)
      | (with_reducible exact drovewayref04_Field.mono _ _ _)
      | (with_reducible exact drovewayref04_Placed.mono _ _ _ _)
      | (with_reducible exact LeO.refl _)
      | (with_reducible exact LeO.none _)
      | (with_reducible refine LeO.ite ?_ ?_)
      | (with_reducible refine LeO.bind ?_ (fun _ => ?_))
      | exact ih0 _ _ _ _ _
      | exact ih1 _ _ _ _ _ _ _
      | exact ih2 _ _ _ _ _ _ _
      | exact drovewayref04_Field.mono _ _ _
      | exact drovewayref04_Placed.mono _ _ _ _
      | exact LeO.none _
      | refine LeO.ite ?_ ?_
      | refine LeO.bind ?_ (fun _ => ?_)
theorem drovewaylaw04_AmbushLines.mono : ∀ a0 a1 a2 a3 a4 k, LeO (drovewaylaw04_AmbushLines.f k a0 a1 a2 a3 a4) (drovewaylaw04_AmbushLines.f (k + 1) a0 a1 a2 a3 a4) := by
  intro a0 a1 a2 a3 a4 k
  obtain ⟨ih0, ih1, ih2⟩ := drovewaylaw04_AmbushLines.mono_l k
  unfold drovewaylaw04_AmbushLines.f
  repeat' first
      | (with_reducible exact ih0 _ _ _ _ _)
      | (with_reducible exact ih1 _ _ _ _ _ _ _)
      | (with_reducible exact ih2 _ _ _ _ _ _ _)
      | (with_reducible exact drovewayref04_Field.mono _ _ _)
      | (with_reducible exact drovewayref04_Placed.mono _ _ _ _)
      | (with_reducible exact LeO.refl _)
      | (with_reducible exact LeO.none _)
      | (with_reducible refine LeO.ite ?_ ?_)
      | (with_reducible refine LeO.bind ?_ (fun _ => ?_))
      | exact ih0 _ _ _ _ _
      | exact ih1 _ _ _ _ _ _ _
      | exact ih2 _ _ _ _ _ _ _
      | exact drovewayref04_Field.mono _ _ _
      | exact drovewayref04_Placed.mono _ _ _ _
      | exact LeO.none _
      | refine LeO.ite ?_ ?_
      | refine LeO.bind ?_ (fun _ => ?_)
set_option maxHeartbeats 8000000 in
set_option maxRecDepth 100000 in
theorem drovewaylaw04_AmbushLines.calls (k : Nat) (a0 : Int) (A1 : Option Addr) (c1 : Nat) (l1 : List Int) (a2 : ByteArray) (a3 : Bool) (a4 : Int) (r : Bool) (w : World) (hr1 : Kd.C (Kd.int .i64) w A1 l1.length l1) (hc1 : l1.length ≤ c1) (h : drovewaylaw04_AmbushLines.f k a0 l1 a2 a3 a4 = some r) :
    Calls Try.prog 9 #[.int .i64 a0, .slice A1 l1.length c1, .string a2, .bool a3, .int .i64 a4] w fun e w' => e = .returned (.bool r) ∧ Below w.heap.size w w' := by
  have HR1 := Aside0.mk hr1
  have HC1 := Aside0.mk hc1
  clear hr1 hc1
  have HB := Aside0.mk (Below.refl w.heap.size w)
  have H : ((drovewaylaw04_few.f l1 a2 (⟨#[]⟩ : ByteArray)).bind fun t104 => (if t104 = true then ((drovewayref04_Placed.f k a0 l1 a2).bind fun bt106 => (if bt106.2.2 = 0 then (if a3 = true then (drovewaylaw04_AmbushLines.j0 k a0 l1 a2 a4 (⟨#[119]⟩ : ByteArray)) else (drovewaylaw04_AmbushLines.j0 k a0 l1 a2 a4 (⟨#[100]⟩ : ByteArray))) else ((drovewaylaw04_alive.f).bind fun t109 => (some t109)))) else ((drovewaylaw04_alive.f).bind fun t105 => (some t105)))) = some r := h
  clear h
  replace H := Option.bind_eq_some_iff.mp H
  obtain ⟨t104, A60, H⟩ := H
  replace H : (if t104 = true then ((drovewayref04_Placed.f k a0 l1 a2).bind fun bt106 => (if bt106.2.2 = 0 then (if a3 = true then (drovewaylaw04_AmbushLines.j0 k a0 l1 a2 a4 (⟨#[119]⟩ : ByteArray)) else (drovewaylaw04_AmbushLines.j0 k a0 l1 a2 a4 (⟨#[100]⟩ : ByteArray))) else ((drovewaylaw04_alive.f).bind fun t109 => (some t109)))) else ((drovewaylaw04_alive.f).bind fun t105 => (some t105))) = some r := H
  have A6 := Aside0.mk A60
  clear A60
  by_cases c7 : t104 = true
  · subst c7
    have H1 : ((drovewayref04_Placed.f k a0 l1 a2).bind fun bt106 => (if bt106.2.2 = 0 then (if a3 = true then (drovewaylaw04_AmbushLines.j0 k a0 l1 a2 a4 (⟨#[119]⟩ : ByteArray)) else (drovewaylaw04_AmbushLines.j0 k a0 l1 a2 a4 (⟨#[100]⟩ : ByteArray))) else ((drovewaylaw04_alive.f).bind fun t109 => (some t109)))) = some r := by rw [if_pos rfl] at H; exact H
    clear H
    have H := H1
    clear H1
    replace H := Option.bind_eq_some_iff.mp H
    obtain ⟨⟨t106, t107, t108⟩, A80, H⟩ := H
    replace H : (if t108 = 0 then (if a3 = true then (drovewaylaw04_AmbushLines.j0 k a0 l1 a2 a4 (⟨#[119]⟩ : ByteArray)) else (drovewaylaw04_AmbushLines.j0 k a0 l1 a2 a4 (⟨#[100]⟩ : ByteArray))) else ((drovewaylaw04_alive.f).bind fun t109 => (some t109))) = some r := H
    have A8 := Aside0.mk A80
    clear A80
    by_cases c9 : t108 = 0
    · rw [if_pos c9] at H
      have c9b0 : (t108 == 0) = true := beq_iff_eq.mpr c9
      have c9b1 : (t108 != 0) = false := bne_eq_false_iff_eq.mpr c9
      clear c9
      have HC10 := Aside0.mk H
      clear H
      go_enter Try.func9, Try.ntmps9
      go_upto_if 42 with (first | ((with_reducible refine gate_callee (f := 11) rfl ?_); refine goesL_ (some 28) rfl rfl Try.func11 (by kernel_rfl) rfl #[.slice A1 l1.length c1, .string a2, .string (⟨#[]⟩ : ByteArray)] rfl (by (try simp only [List.map_toArray, List.map_cons, List.map_nil]); first | done | rfl | (simp only [List.length_drop, List.length_take]; rfl)) ?_; (with_reducible refine (drovewaylaw04_few.calls _ _ l1 a2 (⟨#[]⟩ : ByteArray) true _ ?side1 ?side2 A6.out).mono ?_); (case side1 => repeat (first | exact HR1.out | (with_reducible refine Kd.C_alloc ?_ _) | (with_reducible refine Kd.C_drewN ?_ _) | (with_reducible refine Kd.C_drew ?_))); (case side2 => exact HC1.out); rintro e w' ⟨rfl, ⟨nd, rfl⟩⟩; refine ⟨_, rfl, ?_⟩) | ((with_reducible refine gate_callee (f := 13) rfl ?_); refine goesL_ (some 35) rfl rfl Try.func13 (by kernel_rfl) rfl #[.int .i64 a0, .slice A1 l1.length c1, .string a2] rfl (by (try simp only [List.map_toArray, List.map_cons, List.map_nil]); first | done | rfl | (simp only [List.length_drop, List.length_take]; rfl)) ?_; (with_reducible refine (drovewayref04_Placed.calls k a0 _ _ l1 a2 t106 t107 t108 _ ?side1 ?side2 A8.out).mono ?_); (case side1 => repeat (first | exact HR1.out | (with_reducible refine Kd.C_alloc ?_ _) | (with_reducible refine Kd.C_drewN ?_ _) | (with_reducible refine Kd.C_drew ?_))); (case side2 => exact HC1.out); rintro e w' ⟨rfl, ⟨nd, rfl⟩⟩; refine ⟨_, rfl, ?_⟩))
      (try simp only [Act.put, List.setIfInBounds_toArray, List.set_cons_zero, List.set_cons_succ])
      go_cut [14] (fun v14 wc => ∃ (kq : Nat) (x14_9 : ByteArray), v14 = .string x14_9 ∧ Aside0 (drovewaylaw04_AmbushLines.j0 kq a0 l1 a2 a4 x14_9 = some r) ∧ Aside0 (kq ≤ k) ∧ Aside0 (Below w.heap.size w wc))
      case first =>
        have H := HC10.out
        clear HC10
        by_cases c11 : a3 = true
        · subst c11
          have H1 : (drovewaylaw04_AmbushLines.j0 k a0 l1 a2 a4 (⟨#[119]⟩ : ByteArray)) = some r := by rw [if_pos rfl] at H; exact H
          clear H
          have H := H1
          clear H1
          have H' := Aside0.mk H
          clear H
          go_wp2
          go_meet
          case rel => exact ⟨_, ((⟨#[119]⟩ : ByteArray)), (by first | rfl | (simp; done) | (simp [*]; done) | (simp; exact beq_not_bne _ _)), H', ⟨by first | omega | exact Nat.le_refl _⟩, ⟨by repeat (first | (with_reducible first | exact HB.out | apply below_alloc | apply pw_below_drewN | apply below_drew1) | exact HB.out)⟩⟩
        · replace c11 := Bool.eq_false_iff.mpr c11
          subst c11
          have H1 : (drovewaylaw04_AmbushLines.j0 k a0 l1 a2 a4 (⟨#[100]⟩ : ByteArray)) = some r := by rw [if_neg (show ¬ (false = true) by decide)] at H; exact H
          clear H
          have H := H1
          clear H1
          have H' := Aside0.mk H
          clear H
          go_wp2
          go_meet
          case rel => exact ⟨_, ((⟨#[100]⟩ : ByteArray)), (by first | rfl | (simp; done) | (simp [*]; done) | (simp; exact beq_not_bne _ _)), H', ⟨by first | omega | exact Nat.le_refl _⟩, ⟨by repeat (first | (with_reducible first | exact HB.out | apply below_alloc | apply pw_below_drewN | apply below_drew1) | exact HB.out)⟩⟩
      case rest =>
        clear HC10
        try clear c1
        try clear p2
        try clear c7
        try clear c9
        try clear c9b0
        try clear c9b1
        try clear c11
        obtain ⟨kq, x14_9, rfl, HA, HJ9, HB⟩ := hcut
        cases kq with
        | zero => exact absurd HA.out (by simp [drovewaylaw04_AmbushLines.j0])
        | succ kj9 =>
          have H := HA.out
          clear HA
          simp only [drovewaylaw04_AmbushLines.j0] at H
          have H' := Aside0.mk H
          clear H
          go_wp2
          go_loopg [15, 16] kj9 (fun kq v15 v16 w' => ∃ (x15_2 : List Int) (x16_2 : Int), v16 = .int .i64 x16_2 ∧ Aside0 (drovewaylaw04_AmbushLines.l0 kq a0 l1 a2 a4 x14_9 x15_2 x16_2 = some r) ∧ Aside0 (kq ≤ kj9) ∧ Aside0 (Kd.R (Kd.int .i64) 3 w' w.heap.size (fun _ => True) v15 x15_2) ∧ Aside0 (Below w.heap.size w w'))
          case atStart => exact ⟨(([] : List Int)), (wrap64 ((l1.length : Int) - 1)), (by first | rfl | (simp; done) | (simp [*]; done) | (simp; exact beq_not_bne _ _)), H', ⟨Nat.le_refl _⟩, ⟨by first | exact Kd.R_nil _ _ _ _ _ | exact Kd.N_nil _ _ _ _ _ | exact Kd.V_nil _ _ _ _ _ | exact Kd.Q_nil _ _ _ _ _ | exact Kd.S_nil _ _ _ _ _⟩, ⟨by repeat (first | (with_reducible first | exact HB.out | apply below_alloc | apply pw_below_drewN | apply below_drew1) | exact HB.out)⟩⟩
          case round =>
            clear H'
            try clear c1
            try clear p2
            try clear p6
            try clear c7
            try clear c9
            try clear c9b0
            try clear c9b1
            try clear c11
            try clear p2
            obtain ⟨x15_2, x16_2, rfl, HA, HK2, HO_15, HB⟩ := hrel
            cases gk with
            | zero => exact absurd HA.out (by simp [drovewaylaw04_AmbushLines.l0])
            | succ k2 =>
              have H := HA.out
              clear HA
              simp only [drovewaylaw04_AmbushLines.l0] at H
              by_cases c12 : x16_2 ≥ 0
              · rw [if_pos c12] at H
                have c12b0 : decide (0 ≤ x16_2) = true := decide_eq_true c12
                clear c12
                by_cases c13 : 0 ≤ x16_2
                · rw [if_pos c13] at H
                  have c13b0 : decide (0 ≤ x16_2) = true := decide_eq_true c13
                  clear c13
                  by_cases c14 : x16_2 < (l1.length : Int)
                  · rw [if_pos c14] at H
                    have c14b0 : decide (x16_2 < (l1.length : Int)) = true := decide_eq_true c14
                    clear c14
                    by_cases c15 : x15_2.length < 17592186044416
                    · rw [if_pos c15] at H
                      have LMc15 := Aside0.mk c15
                      clear c15
                      obtain ⟨y111, hy111⟩ : ∃ y_ : List Int, y_ = (x15_2 ++ [rd l1 x16_2]) := ⟨_, rfl⟩
                      replace H : (drovewaylaw04_AmbushLines.l0 k2 a0 l1 a2 a4 x14_9 y111 (wrap64 (x16_2 - 1))) = some r := by first | (rw [hy111]; with_reducible exact H) | (have H2_ := (Option.bind_some _ _).symm.trans H; rw [hy111]; with_reducible exact H2_) | (have H2_ := (Option.bind_some _ _).symm.trans H; with_reducible exact H2_) | with_reducible exact H | (rw [hy111]; exact H) | exact H
                      have Ny111 := Aside0.mk hy111
                      clear hy111
                      have H' := Aside0.mk H
                      clear H
                      have p110 : 0 ≤ (x16_2 : Int) := of_decide_eq_true (by first | (with_reducible assumption) | assumption)
                      have q110 : x16_2 < (l1.length : Int) := of_decide_eq_true (by first | (with_reducible assumption) | assumption)
                      obtain ⟨ad110, e110, hx110_0⟩ := Kd.at_int HR1.out x16_2 p110 q110
                      cases e110
                      replace hx110_0 := (HB.out.cell (World.block_lt_of_cell? w _ hx110_0)).trans hx110_0
                      replace p110 := eq_true p110
                      replace q110 := eq_true q110
                      go_wp2_with (first | ((with_reducible refine gate_builtin (b := .append) (xs := #[.tmp 50, .tmp 55]) rfl ?_); at_builtin; refine Kd.R_append (Kd.int .i64) (w0 := w) w.heap.size rfl (.tmp 50) (.tmp 55) 22 3 (.int .i64 0) 8 rfl Try.underlying22 info3 rfl (by decide) (by omega) u15 x15_2 (rd l1 x16_2) [.int .i64 (rd l1 x16_2)] (fun _ => True) (fun _ => False) rfl rfl ?aP (fun _ hk => hk.elim) ?aF ?aO ?aB ?aS ?aL ?_; (case aP => exact rfl); (case aB => exact (by repeat (first | (with_reducible first | exact HB.out | apply below_alloc | apply pw_below_drewN | apply below_drew1) | exact HB.out))); (case aF => exact (fun _ _ => trivial)); (case aO => exact (by (with_reducible repeat (first | apply Kd.R_alloc | apply Kd.R_drewN | apply Kd.R_drew)); exact HO_15.out)); (case aS => exact (below_size (by repeat (first | (with_reducible first | exact HB.out | apply below_alloc | apply pw_below_drewN | apply below_drew1) | exact HB.out)))); (case aL => have := LMc15.out; omega); intro v112 w16 ho hb hg hat; rw [← Ny111.out] at ho; have n0_ := Aside0.mk (hb); have n1_ := Aside0.mk (ho); clear HB; clear HO_15; have HB := n0_; have HO113 := n1_; clear n0_ n1_; clear ho hb hg hat))
                      go_roundg k2
                      case measure => have := HJ9.out; have := HK2.out; omega
                      case rel => exact ⟨(y111), (wrap64 (x16_2 - 1)), (by first | rfl | (simp; done) | (simp [*]; done) | (simp; exact beq_not_bne _ _)), H', ⟨by have := HJ9.out; have := HK2.out; omega⟩, ⟨by (with_reducible repeat (first | apply Kd.R_alloc | apply Kd.R_drewN | apply Kd.R_drew)); exact HO113.out⟩, ⟨by repeat (first | (with_reducible first | exact HB.out | apply below_alloc | apply pw_below_drewN | apply below_drew1) | exact HB.out)⟩⟩
                    · rw [if_neg c15] at H
                      exact absurd H (by simp)
                  · rw [if_neg c14] at H
                    exact absurd H (by simp)
                · rw [if_neg c13] at H
                  exact absurd H (by simp)
              · rw [if_neg c12] at H
                have c12b0 : decide (0 ≤ x16_2) = false := decide_eq_false c12
                clear c12
                replace H := Option.bind_eq_some_iff.mp H
                obtain ⟨⟨t114, t115⟩, A170, H⟩ := H
                replace H : ((ambush_Winner.f a0 l1 a2 x14_9).bind fun bt118 => ((ambush_Winner.f a0 t114 a2 x14_9).bind fun bt120 => ((ambush_Winner.f a0 x15_2 a2 x14_9).bind fun bt122 => (if t115 = 0 then (if bt118.2 = 0 then (if bt120.2 = 0 then (if bt122.2 = 0 then (if bt118.1.toList = bt120.1.toList then (drovewaylaw04_AmbushLines.j2 k2 a0 l1 a2 a4 x14_9 bt118.1 (bt118.1.toList != bt122.1.toList)) else (drovewaylaw04_AmbushLines.j2 k2 a0 l1 a2 a4 x14_9 bt118.1 true)) else (drovewaylaw04_AmbushLines.j2 k2 a0 l1 a2 a4 x14_9 bt118.1 true)) else (drovewaylaw04_AmbushLines.j2 k2 a0 l1 a2 a4 x14_9 bt118.1 true)) else (drovewaylaw04_AmbushLines.j2 k2 a0 l1 a2 a4 x14_9 bt118.1 true)) else (drovewaylaw04_AmbushLines.j2 k2 a0 l1 a2 a4 x14_9 bt118.1 true))))) = some r := H
                have A17 := Aside0.mk A170
                clear A170
                replace H := Option.bind_eq_some_iff.mp H
                obtain ⟨⟨t118, t119⟩, A180, H⟩ := H
                replace H : ((ambush_Winner.f a0 t114 a2 x14_9).bind fun bt120 => ((ambush_Winner.f a0 x15_2 a2 x14_9).bind fun bt122 => (if t115 = 0 then (if t119 = 0 then (if bt120.2 = 0 then (if bt122.2 = 0 then (if t118.toList = bt120.1.toList then (drovewaylaw04_AmbushLines.j2 k2 a0 l1 a2 a4 x14_9 t118 (t118.toList != bt122.1.toList)) else (drovewaylaw04_AmbushLines.j2 k2 a0 l1 a2 a4 x14_9 t118 true)) else (drovewaylaw04_AmbushLines.j2 k2 a0 l1 a2 a4 x14_9 t118 true)) else (drovewaylaw04_AmbushLines.j2 k2 a0 l1 a2 a4 x14_9 t118 true)) else (drovewaylaw04_AmbushLines.j2 k2 a0 l1 a2 a4 x14_9 t118 true)) else (drovewaylaw04_AmbushLines.j2 k2 a0 l1 a2 a4 x14_9 t118 true)))) = some r := H
                have A18 := Aside0.mk A180
                clear A180
                replace H := Option.bind_eq_some_iff.mp H
                obtain ⟨⟨t120, t121⟩, A190, H⟩ := H
                replace H : ((ambush_Winner.f a0 x15_2 a2 x14_9).bind fun bt122 => (if t115 = 0 then (if t119 = 0 then (if t121 = 0 then (if bt122.2 = 0 then (if t118.toList = t120.toList then (drovewaylaw04_AmbushLines.j2 k2 a0 l1 a2 a4 x14_9 t118 (t118.toList != bt122.1.toList)) else (drovewaylaw04_AmbushLines.j2 k2 a0 l1 a2 a4 x14_9 t118 true)) else (drovewaylaw04_AmbushLines.j2 k2 a0 l1 a2 a4 x14_9 t118 true)) else (drovewaylaw04_AmbushLines.j2 k2 a0 l1 a2 a4 x14_9 t118 true)) else (drovewaylaw04_AmbushLines.j2 k2 a0 l1 a2 a4 x14_9 t118 true)) else (drovewaylaw04_AmbushLines.j2 k2 a0 l1 a2 a4 x14_9 t118 true))) = some r := H
                have A19 := Aside0.mk A190
                clear A190
                replace H := Option.bind_eq_some_iff.mp H
                obtain ⟨⟨t122, t123⟩, A200, H⟩ := H
                replace H : (if t115 = 0 then (if t119 = 0 then (if t121 = 0 then (if t123 = 0 then (if t118.toList = t120.toList then (drovewaylaw04_AmbushLines.j2 k2 a0 l1 a2 a4 x14_9 t118 (t118.toList != t122.toList)) else (drovewaylaw04_AmbushLines.j2 k2 a0 l1 a2 a4 x14_9 t118 true)) else (drovewaylaw04_AmbushLines.j2 k2 a0 l1 a2 a4 x14_9 t118 true)) else (drovewaylaw04_AmbushLines.j2 k2 a0 l1 a2 a4 x14_9 t118 true)) else (drovewaylaw04_AmbushLines.j2 k2 a0 l1 a2 a4 x14_9 t118 true)) else (drovewaylaw04_AmbushLines.j2 k2 a0 l1 a2 a4 x14_9 t118 true)) = some r := H
                have A20 := Aside0.mk A200
                clear A200
                have HC21 := Aside0.mk H
                clear H
                go_upto_region 18 with (first | ((with_reducible refine gate_callee (f := 33) rfl ?_); refine goesL_ (some 60) rfl rfl Try.func33 (by kernel_rfl) rfl #[.int .i64 a0, .slice A1 l1.length c1] rfl (by (try simp only [List.map_toArray, List.map_cons, List.map_nil]); first | done | rfl | (simp only [List.length_drop, List.length_take]; rfl)) ?_; (with_reducible refine (ambush_Least.calls a0 _ _ l1 t114 t115 _ ?side1 ?side2 A17.out).mono ?_); (case side1 => repeat (first | exact (Kd.C_below HR1.out HB.out) | (with_reducible refine Kd.C_alloc ?_ _) | (with_reducible refine Kd.C_drewN ?_ _) | (with_reducible refine Kd.C_drew ?_))); (case side2 => exact HC1.out); rintro e w22 ⟨v116, rfl, ho0, hb⟩; refine ⟨_, rfl, ?_⟩; have n0_ := Aside0.mk (Kd.R_elder' (by (with_reducible repeat (first | apply Kd.R_alloc | apply Kd.R_drewN | apply Kd.R_drew)); exact HO_15.out) (Kd.R_base ho0) hb); have n1_ := Aside0.mk (Kd.R_lower (Kd.R_new' ho0 (Kd.R_lt (by (with_reducible repeat (first | apply Kd.R_alloc | apply Kd.R_drewN | apply Kd.R_drew)); exact HO_15.out))) (below_size (by repeat (first | (with_reducible first | exact HB.out | apply below_alloc | apply pw_below_drewN | apply below_drew1) | exact HB.out)))); have n2_ := Aside0.mk (below_step (by repeat (first | (with_reducible first | exact HB.out | apply below_alloc | apply pw_below_drewN | apply below_drew1) | exact HB.out)) hb); clear HO_15; clear HB; have HO_15 := n0_; have HO117 := n1_; have HB := n2_; clear n0_ n1_ n2_; (try clear hb); (try clear hb2); (try clear hk); (try clear hi); (try clear ho0)) | ((with_reducible refine gate_callee (f := 14) rfl ?_); refine goesL_ (some 68) rfl rfl Try.func14 (by kernel_rfl) rfl #[.int .i64 a0, .slice A1 l1.length c1, .string a2, .string x14_9] rfl (by (try simp only [List.map_toArray, List.map_cons, List.map_nil]); first | done | rfl | (simp only [List.length_drop, List.length_take]; rfl)) ?_; (with_reducible refine (ambush_Winner.calls a0 _ _ l1 a2 x14_9 t118 t119 _ ?side1 ?side2 A18.out).mono ?_); (case side1 => repeat (first | exact (Kd.C_below HR1.out HB.out) | (with_reducible refine Kd.C_alloc ?_ _) | (with_reducible refine Kd.C_drewN ?_ _) | (with_reducible refine Kd.C_drew ?_))); (case side2 => exact HC1.out); rintro e w23 ⟨rfl, hb⟩; refine ⟨_, rfl, ?_⟩; have n0_ := Aside0.mk (Kd.R_below (by (with_reducible repeat (first | apply Kd.R_alloc | apply Kd.R_drewN | apply Kd.R_drew)); exact HO_15.out) hb); have n1_ := Aside0.mk (Kd.R_below (by (with_reducible repeat (first | apply Kd.R_alloc | apply Kd.R_drewN | apply Kd.R_drew)); exact HO117.out) hb); have n2_ := Aside0.mk (below_step (by repeat (first | (with_reducible first | exact HB.out | apply below_alloc | apply pw_below_drewN | apply below_drew1) | exact HB.out)) hb); clear HO_15; clear HO117; clear HB; have HO_15 := n0_; have HO117 := n1_; have HB := n2_; clear n0_ n1_ n2_; (try clear hb); (try clear hb2); (try clear hk); (try clear hi); obtain ⟨Ao24, co24, eo24⟩ := Kd.R_slice HO117.out; subst eo24) | ((with_reducible refine gate_callee (f := 14) rfl ?_); refine goesL_ (some 76) rfl rfl Try.func14 (by kernel_rfl) rfl #[.int .i64 a0, .slice Ao24 t114.length co24, .string a2, .string x14_9] rfl (by (try simp only [List.map_toArray, List.map_cons, List.map_nil]); first | done | rfl | (simp only [List.length_drop, List.length_take]; rfl)) ?_; (with_reducible refine (ambush_Winner.calls a0 _ _ t114 a2 x14_9 t120 t121 _ ?side1 ?side2 A19.out).mono ?_); (case side1 => repeat (first | exact (Kd.R_reads' HO117.out).2.2 | (with_reducible refine Kd.C_alloc ?_ _) | (with_reducible refine Kd.C_drewN ?_ _) | (with_reducible refine Kd.C_drew ?_))); (case side2 => exact (Kd.R_reads' HO117.out).2.1); rintro e w25 ⟨rfl, hb⟩; refine ⟨_, rfl, ?_⟩; have n0_ := Aside0.mk (Kd.R_below (by (with_reducible repeat (first | apply Kd.R_alloc | apply Kd.R_drewN | apply Kd.R_drew)); exact HO_15.out) hb); have n1_ := Aside0.mk (Kd.R_below (by (with_reducible repeat (first | apply Kd.R_alloc | apply Kd.R_drewN | apply Kd.R_drew)); exact HO117.out) hb); have n2_ := Aside0.mk (below_step (by repeat (first | (with_reducible first | exact HB.out | apply below_alloc | apply pw_below_drewN | apply below_drew1) | exact HB.out)) hb); clear HO_15; clear HO117; clear HB; have HO_15 := n0_; have HO117 := n1_; have HB := n2_; clear n0_ n1_ n2_; (try clear hb); (try clear hb2); (try clear hk); (try clear hi); obtain ⟨Ao26, co26, eo26⟩ := Kd.R_slice HO_15.out; subst eo26) | ((with_reducible refine gate_callee (f := 14) rfl ?_); refine goesL_ (some 84) rfl rfl Try.func14 (by kernel_rfl) rfl #[.int .i64 a0, .slice Ao26 x15_2.length co26, .string a2, .string x14_9] rfl (by (try simp only [List.map_toArray, List.map_cons, List.map_nil]); first | done | rfl | (simp only [List.length_drop, List.length_take]; rfl)) ?_; (with_reducible refine (ambush_Winner.calls a0 _ _ x15_2 a2 x14_9 t122 t123 _ ?side1 ?side2 A20.out).mono ?_); (case side1 => repeat (first | exact (Kd.R_reads' HO_15.out).2.2 | (with_reducible refine Kd.C_alloc ?_ _) | (with_reducible refine Kd.C_drewN ?_ _) | (with_reducible refine Kd.C_drew ?_))); (case side2 => exact (Kd.R_reads' HO_15.out).2.1); rintro e w27 ⟨rfl, hb⟩; refine ⟨_, rfl, ?_⟩; have n0_ := Aside0.mk (Kd.R_below (by (with_reducible repeat (first | apply Kd.R_alloc | apply Kd.R_drewN | apply Kd.R_drew)); exact HO_15.out) hb); have n1_ := Aside0.mk (Kd.R_below (by (with_reducible repeat (first | apply Kd.R_alloc | apply Kd.R_drewN | apply Kd.R_drew)); exact HO117.out) hb); have n2_ := Aside0.mk (below_step (by repeat (first | (with_reducible first | exact HB.out | apply below_alloc | apply pw_below_drewN | apply below_drew1) | exact HB.out)) hb); clear HO_15; clear HO117; clear HB; have HO_15 := n0_; have HO117 := n1_; have HB := n2_; clear n0_ n1_ n2_; (try clear hb); (try clear hb2); (try clear hk); (try clear hi)))
                (try simp only [Act.put, List.setIfInBounds_toArray, List.set_cons_zero, List.set_cons_succ])
                go_cut [110] (fun v110 wc => ∃ (kq : Nat) (x110_20 : Bool), v110 = .bool x110_20 ∧ Aside0 (drovewaylaw04_AmbushLines.j2 kq a0 l1 a2 a4 x14_9 t118 x110_20 = some r) ∧ Aside0 (kq ≤ k2) ∧ Aside0 (Below w.heap.size w wc))
                case first =>
                  have H := HC21.out
                  clear HC21
                  by_cases c28 : t115 = 0
                  · rw [if_pos c28] at H
                    have c28b0 : (t115 == 0) = true := beq_iff_eq.mpr c28
                    have c28b1 : (t115 != 0) = false := bne_eq_false_iff_eq.mpr c28
                    clear c28
                    (first | rw [c28b0] | (simp only [i64_w, i32_w]; rw [c28b0]) | skip)
                    by_cases c29 : t119 = 0
                    · rw [if_pos c29] at H
                      have c29b0 : (t119 == 0) = true := beq_iff_eq.mpr c29
                      have c29b1 : (t119 != 0) = false := bne_eq_false_iff_eq.mpr c29
                      clear c29
                      by_cases c30 : t121 = 0
                      · rw [if_pos c30] at H
                        have c30b0 : (t121 == 0) = true := beq_iff_eq.mpr c30
                        have c30b1 : (t121 != 0) = false := bne_eq_false_iff_eq.mpr c30
                        clear c30
                        by_cases c31 : t123 = 0
                        · rw [if_pos c31] at H
                          have c31b0 : (t123 == 0) = true := beq_iff_eq.mpr c31
                          have c31b1 : (t123 != 0) = false := bne_eq_false_iff_eq.mpr c31
                          clear c31
                          by_cases c32 : t118.toList = t120.toList
                          · rw [if_pos c32] at H
                            have c32b0 : (t118.toList == t120.toList) = true := beq_iff_eq.mpr c32
                            have c32b1 : (t118.toList != t120.toList) = false := bne_eq_false_iff_eq.mpr c32
                            clear c32
                            have H' := Aside0.mk H
                            clear H
                            go_wp2
                            go_meet
                            case rel => exact ⟨_, ((t118.toList != t122.toList)), (by first | rfl | (simp; done) | (simp [*]; done) | (simp; exact beq_not_bne _ _)), H', ⟨by have := HJ9.out; have := HK2.out; first | omega | exact Nat.le_refl _⟩, ⟨by repeat (first | (with_reducible first | exact HB.out | apply below_alloc | apply pw_below_drewN | apply below_drew1) | exact HB.out)⟩⟩
                          · rw [if_neg c32] at H
                            have c32b0 : (t118.toList == t120.toList) = false := beq_eq_false_iff_ne.mpr c32
                            have c32b1 : (t118.toList != t120.toList) = true := bne_iff_ne.mpr c32
                            have H' := Aside0.mk H
                            clear H
                            go_wp2
                            go_meet
                            case rel => exact ⟨_, (true), (by first | rfl | (simp; done) | (simp [*]; done) | (simp; exact beq_not_bne _ _)), H', ⟨by have := HJ9.out; have := HK2.out; first | omega | exact Nat.le_refl _⟩, ⟨by repeat (first | (with_reducible first | exact HB.out | apply below_alloc | apply pw_below_drewN | apply below_drew1) | exact HB.out)⟩⟩
                        · rw [if_neg c31] at H
                          have c31b0 : (t123 == 0) = false := beq_eq_false_iff_ne.mpr c31
                          have c31b1 : (t123 != 0) = true := bne_iff_ne.mpr c31
                          have H' := Aside0.mk H
                          clear H
                          go_wp2
                          go_meet
                          case rel => exact ⟨_, (true), (by first | rfl | (simp; done) | (simp [*]; done) | (simp; exact beq_not_bne _ _)), H', ⟨by have := HJ9.out; have := HK2.out; first | omega | exact Nat.le_refl _⟩, ⟨by repeat (first | (with_reducible first | exact HB.out | apply below_alloc | apply pw_below_drewN | apply below_drew1) | exact HB.out)⟩⟩
                      · rw [if_neg c30] at H
                        have c30b0 : (t121 == 0) = false := beq_eq_false_iff_ne.mpr c30
                        have c30b1 : (t121 != 0) = true := bne_iff_ne.mpr c30
                        have H' := Aside0.mk H
                        clear H
                        go_wp2
                        go_meet
                        case rel => exact ⟨_, (true), (by first | rfl | (simp; done) | (simp [*]; done) | (simp; exact beq_not_bne _ _)), H', ⟨by have := HJ9.out; have := HK2.out; first | omega | exact Nat.le_refl _⟩, ⟨by repeat (first | (with_reducible first | exact HB.out | apply below_alloc | apply pw_below_drewN | apply below_drew1) | exact HB.out)⟩⟩
                    · rw [if_neg c29] at H
                      have c29b0 : (t119 == 0) = false := beq_eq_false_iff_ne.mpr c29
                      have c29b1 : (t119 != 0) = true := bne_iff_ne.mpr c29
                      have H' := Aside0.mk H
                      clear H
                      go_wp2
                      go_meet
                      case rel => exact ⟨_, (true), (by first | rfl | (simp; done) | (simp [*]; done) | (simp; exact beq_not_bne _ _)), H', ⟨by have := HJ9.out; have := HK2.out; first | omega | exact Nat.le_refl _⟩, ⟨by repeat (first | (with_reducible first | exact HB.out | apply below_alloc | apply pw_below_drewN | apply below_drew1) | exact HB.out)⟩⟩
                  · rw [if_neg c28] at H
                    have c28b0 : (t115 == 0) = false := beq_eq_false_iff_ne.mpr c28
                    have c28b1 : (t115 != 0) = true := bne_iff_ne.mpr c28
                    (first | rw [c28b0] | (simp only [i64_w, i32_w]; rw [c28b0]) | skip)
                    have H' := Aside0.mk H
                    clear H
                    go_wp2
                    go_meet
                    case rel => exact ⟨_, (true), (by first | rfl | (simp; done) | (simp [*]; done) | (simp; exact beq_not_bne _ _)), H', ⟨by have := HJ9.out; have := HK2.out; first | omega | exact Nat.le_refl _⟩, ⟨by repeat (first | (with_reducible first | exact HB.out | apply below_alloc | apply pw_below_drewN | apply below_drew1) | exact HB.out)⟩⟩
                case rest =>
                  clear HC21
                  try clear c1
                  try clear p1
                  try clear q1
                  try clear hx1
                  try clear c2
                  try clear p2
                  try clear c3
                  try clear p6
                  try clear c7
                  try clear c9
                  try clear c9b0
                  try clear c9b1
                  try clear c11
                  try clear p11
                  try clear q11
                  try clear hx11
                  try clear c12
                  try clear c12b0
                  try clear c13
                  try clear c13b0
                  try clear c14
                  try clear c14b0
                  try clear c15
                  try clear c28
                  try clear c28b0
                  try clear c28b1
                  try clear c29
                  try clear c29b0
                  try clear c29b1
                  try clear c30
                  try clear c30b0
                  try clear c30b1
                  try clear c31
                  try clear c31b0
                  try clear c31b1
                  try clear c32
                  try clear c32b0
                  try clear c32b1
                  try clear hx110_0
                  try clear p110
                  try clear p2
                  try clear p6
                  try clear q110
                  obtain ⟨kq, x110_20, rfl, HA, HJ20, HB⟩ := hcut
                  cases kq with
                  | zero => exact absurd HA.out (by simp [drovewaylaw04_AmbushLines.j2])
                  | succ kj20 =>
                    have H := HA.out
                    clear HA
                    simp only [drovewaylaw04_AmbushLines.j2] at H
                    by_cases c33 : x110_20 = true
                    · subst c33
                      have H1 : (some false) = some r := by rw [if_pos rfl] at H; exact H
                      clear H
                      have H := H1
                      clear H1
                      obtain rfl := Option.some.inj H
                      go_wp2
                      go_ret
                      exact ⟨by first | rfl | (simp [errW_none, errW_some] <;> rfl) | (simp [*, errW_none, errW_some] <;> rfl), by repeat (first | (with_reducible first | exact HB.out | apply below_alloc | apply pw_below_drewN | apply below_drew1) | exact HB.out)⟩
                    · replace c33 := Bool.eq_false_iff.mpr c33
                      subst c33
                      have H1 : ((some (([] : List Int) : List Int)).bind fun y124 => (if y124.length + l1.length < 17592186044416 then ((some (y124 ++ l1 : List Int)).bind fun y127 => (if y127.length < 17592186044416 then ((some (y127 ++ [a4] : List Int)).bind fun y130 => ((drovewayref04_Field.f kj20 a0 y130).bind fun t133 => (if t133 = 0 then ((ambush_Winner.f a0 y130 a2 x14_9).bind fun bt134 => (if bt134.2 = 0 then (if t118.toList = ([119] : List UInt8) then (if bt134.1.toList = ([119] : List UInt8) then ((drovewaylaw04_alive.f).bind fun t136 => (some t136)) else (some false)) else ((drovewaylaw04_alive.f).bind fun t137 => (some t137))) else (some false))) else ((drovewaylaw04_alive.f).bind fun t138 => (some t138))))) else (none))) else (none))) = some r := by rw [if_neg (show ¬ (false = true) by decide)] at H; exact H
                      clear H
                      have H := H1
                      clear H1
                      obtain ⟨y124, hy124⟩ : ∃ y_ : List Int, y_ = (([] : List Int)) := ⟨_, rfl⟩
                      replace H : (if y124.length + l1.length < 17592186044416 then ((some (y124 ++ l1 : List Int)).bind fun y127 => (if y127.length < 17592186044416 then ((some (y127 ++ [a4] : List Int)).bind fun y130 => ((drovewayref04_Field.f kj20 a0 y130).bind fun t133 => (if t133 = 0 then ((ambush_Winner.f a0 y130 a2 x14_9).bind fun bt134 => (if bt134.2 = 0 then (if t118.toList = ([119] : List UInt8) then (if bt134.1.toList = ([119] : List UInt8) then ((drovewaylaw04_alive.f).bind fun t136 => (some t136)) else (some false)) else ((drovewaylaw04_alive.f).bind fun t137 => (some t137))) else (some false))) else ((drovewaylaw04_alive.f).bind fun t138 => (some t138))))) else (none))) else (none)) = some r := by first | (rw [hy124]; with_reducible exact H) | (have H2_ := (Option.bind_some _ _).symm.trans H; rw [hy124]; with_reducible exact H2_) | (have H2_ := (Option.bind_some _ _).symm.trans H; with_reducible exact H2_) | with_reducible exact H | (rw [hy124]; exact H) | exact H
                      have Ny124 := Aside0.mk hy124
                      clear hy124
                      by_cases c34 : y124.length + l1.length < 17592186044416
                      · rw [if_pos c34] at H
                        have LMc34 := Aside0.mk c34
                        clear c34
                        obtain ⟨y127, hy127⟩ : ∃ y_ : List Int, y_ = (y124 ++ l1) := ⟨_, rfl⟩
                        replace H : (if y127.length < 17592186044416 then ((some (y127 ++ [a4] : List Int)).bind fun y130 => ((drovewayref04_Field.f kj20 a0 y130).bind fun t133 => (if t133 = 0 then ((ambush_Winner.f a0 y130 a2 x14_9).bind fun bt134 => (if bt134.2 = 0 then (if t118.toList = ([119] : List UInt8) then (if bt134.1.toList = ([119] : List UInt8) then ((drovewaylaw04_alive.f).bind fun t136 => (some t136)) else (some false)) else ((drovewaylaw04_alive.f).bind fun t137 => (some t137))) else (some false))) else ((drovewaylaw04_alive.f).bind fun t138 => (some t138))))) else (none)) = some r := by first | (rw [hy127]; with_reducible exact H) | (have H2_ := (Option.bind_some _ _).symm.trans H; rw [hy127]; with_reducible exact H2_) | (have H2_ := (Option.bind_some _ _).symm.trans H; with_reducible exact H2_) | with_reducible exact H | (rw [hy127]; exact H) | exact H
                        have Ny127 := Aside0.mk hy127
                        clear hy127
                        by_cases c35 : y127.length < 17592186044416
                        · rw [if_pos c35] at H
                          have LMc35 := Aside0.mk c35
                          clear c35
                          obtain ⟨y130, hy130⟩ : ∃ y_ : List Int, y_ = (y127 ++ [a4]) := ⟨_, rfl⟩
                          replace H : ((drovewayref04_Field.f kj20 a0 y130).bind fun t133 => (if t133 = 0 then ((ambush_Winner.f a0 y130 a2 x14_9).bind fun bt134 => (if bt134.2 = 0 then (if t118.toList = ([119] : List UInt8) then (if bt134.1.toList = ([119] : List UInt8) then ((drovewaylaw04_alive.f).bind fun t136 => (some t136)) else (some false)) else ((drovewaylaw04_alive.f).bind fun t137 => (some t137))) else (some false))) else ((drovewaylaw04_alive.f).bind fun t138 => (some t138)))) = some r := by first | (rw [hy130]; with_reducible exact H) | (have H2_ := (Option.bind_some _ _).symm.trans H; rw [hy130]; with_reducible exact H2_) | (have H2_ := (Option.bind_some _ _).symm.trans H; with_reducible exact H2_) | with_reducible exact H | (rw [hy130]; exact H) | exact H
                          have Ny130 := Aside0.mk hy130
                          clear hy130
                          replace H := Option.bind_eq_some_iff.mp H
                          obtain ⟨t133, A360, H⟩ := H
                          replace H : (if t133 = 0 then ((ambush_Winner.f a0 y130 a2 x14_9).bind fun bt134 => (if bt134.2 = 0 then (if t118.toList = ([119] : List UInt8) then (if bt134.1.toList = ([119] : List UInt8) then ((drovewaylaw04_alive.f).bind fun t136 => (some t136)) else (some false)) else ((drovewaylaw04_alive.f).bind fun t137 => (some t137))) else (some false))) else ((drovewaylaw04_alive.f).bind fun t138 => (some t138))) = some r := H
                          have A36 := Aside0.mk A360
                          clear A360
                          by_cases c37 : t133 = 0
                          · rw [if_pos c37] at H
                            have c37b0 : (t133 == 0) = true := beq_iff_eq.mpr c37
                            have c37b1 : (t133 != 0) = false := bne_eq_false_iff_eq.mpr c37
                            clear c37
                            replace H := Option.bind_eq_some_iff.mp H
                            obtain ⟨⟨t134, t135⟩, A380, H⟩ := H
                            replace H : (if t135 = 0 then (if t118.toList = ([119] : List UInt8) then (if t134.toList = ([119] : List UInt8) then ((drovewaylaw04_alive.f).bind fun t136 => (some t136)) else (some false)) else ((drovewaylaw04_alive.f).bind fun t137 => (some t137))) else (some false)) = some r := H
                            have A38 := Aside0.mk A380
                            clear A380
                            by_cases c39 : t135 = 0
                            · rw [if_pos c39] at H
                              have c39b0 : (t135 == 0) = true := beq_iff_eq.mpr c39
                              have c39b1 : (t135 != 0) = false := bne_eq_false_iff_eq.mpr c39
                              clear c39
                              by_cases c40 : t118.toList = ([119] : List UInt8)
                              · rw [if_pos c40] at H
                                have c40b0 : (t118.toList == ([119] : List UInt8)) = true := beq_iff_eq.mpr c40
                                have c40b1 : (t118.toList != ([119] : List UInt8)) = false := bne_eq_false_iff_eq.mpr c40
                                clear c40
                                by_cases c41 : t134.toList = ([119] : List UInt8)
                                · rw [if_pos c41] at H
                                  have c41b0 : (t134.toList == ([119] : List UInt8)) = true := beq_iff_eq.mpr c41
                                  have c41b1 : (t134.toList != ([119] : List UInt8)) = false := bne_eq_false_iff_eq.mpr c41
                                  clear c41
                                  replace H := Option.bind_eq_some_iff.mp H
                                  obtain ⟨t136, A420, H⟩ := H
                                  replace H : (some t136) = some r := H
                                  have A42 := Aside0.mk A420
                                  clear A420
                                  obtain rfl := Option.some.inj H
                                  go_wp2_with (first | ((with_reducible refine gate_dst (N := 111) rfl ?_); refine Kd.R_lit (Kd.int .i64) _ 3 ?hg (N := 111) ?hd (xs := ([] : List Int)) (inner := []) (ok := fun _ => True) (okp := fun _ => True) ?hr ?hp (fun _ hk => hk) trivial (Below.refl _ _) (Nat.le_refl _) (by simp) ?_; (case hd => rfl); (case hg => rfl); (case hr => first | (go_simp; done) | (go_simp; rfl)); (case hp => exact (Reps.none _ _)); intro v125 w43 ho44 hb hg_ hnew_; clear hg_ hnew_; (first | rw [← Ny124.out] at ho44 | (simp only [Int.reduceToNat] at ho44; rw [← Ny124.out] at ho44)); have n0_ := Aside0.mk (Kd.R_lower ho44 (below_size (by repeat (first | (with_reducible first | exact HB.out | apply below_alloc | apply pw_below_drewN | apply below_drew1) | exact HB.out)))); have n1_ := Aside0.mk (below_step (by repeat (first | (with_reducible first | exact HB.out | apply below_alloc | apply pw_below_drewN | apply below_drew1) | exact HB.out)) hb); clear HB; have HO126 := n0_; have HB := n1_; clear n0_ n1_; clear hb ho44) | ((with_reducible refine gate_builtin (b := .append) (xs := #[.tmp 111, .tmp 112]) rfl ?_); at_builtin; refine Kd.R_append_rows (Kd.int .i64) (w0 := w) w.heap.size rfl (.tmp 111) (.tmp 112) 22 3 (.int .i64 0) 8 rfl Try.underlying22 info3 rfl (by decide) (by omega) v125 y124 l1 _ _ _ (fun _ => True) (fun _ => False) rfl rfl ?aO ?aR (fun _ _ h => h) (fun _ h => h.elim) ?aF ?aB ?aS ?aL ?_; (case aR => repeat (first | exact (Kd.C_below HR1.out HB.out) | (with_reducible refine Kd.C_alloc ?_ _) | (with_reducible refine Kd.C_drewN ?_ _) | (with_reducible refine Kd.C_drew ?_))); (case aB => exact (by repeat (first | (with_reducible first | exact HB.out | apply below_alloc | apply pw_below_drewN | apply below_drew1) | exact HB.out))); (case aF => exact (fun _ _ => trivial)); (case aO => exact (by (with_reducible repeat (first | apply Kd.R_alloc | apply Kd.R_drewN | apply Kd.R_drew)); exact HO126.out)); (case aS => exact (below_size (by repeat (first | (with_reducible first | exact HB.out | apply below_alloc | apply pw_below_drewN | apply below_drew1) | exact HB.out)))); (case aL => have := LMc34.out; omega); intro v128 w45 ho hb hg hat; rw [← Ny127.out] at ho; have n0_ := Aside0.mk (hb); have n1_ := Aside0.mk (ho); clear HB; clear HO126; have HB := n0_; have HO129 := n1_; clear n0_ n1_; clear ho hb hg hat) | ((with_reducible refine gate_builtin (b := .append) (xs := #[.tmp 113, .tmp 115]) rfl ?_); at_builtin; refine Kd.R_append (Kd.int .i64) (w0 := w) w.heap.size rfl (.tmp 113) (.tmp 115) 22 3 (.int .i64 0) 8 rfl Try.underlying22 info3 rfl (by decide) (by omega) v128 y127 a4 [.int .i64 a4] (fun _ => True) (fun _ => False) rfl rfl ?aP (fun _ hk => hk.elim) ?aF ?aO ?aB ?aS ?aL ?_; (case aP => exact rfl); (case aB => exact (by repeat (first | (with_reducible first | exact HB.out | apply below_alloc | apply pw_below_drewN | apply below_drew1) | exact HB.out))); (case aF => exact (fun _ _ => trivial)); (case aO => exact (by (with_reducible repeat (first | apply Kd.R_alloc | apply Kd.R_drewN | apply Kd.R_drew)); exact HO129.out)); (case aS => exact (below_size (by repeat (first | (with_reducible first | exact HB.out | apply below_alloc | apply pw_below_drewN | apply below_drew1) | exact HB.out)))); (case aL => have := LMc35.out; omega); intro v131 w46 ho hb hg hat; rw [← Ny130.out] at ho; have n0_ := Aside0.mk (hb); have n1_ := Aside0.mk (ho); clear HB; clear HO129; have HB := n0_; have HO132 := n1_; clear n0_ n1_; clear ho hb hg hat; obtain ⟨Ao47, co47, eo47⟩ := Kd.R_slice HO132.out; subst eo47) | ((with_reducible refine gate_callee (f := 17) rfl ?_); refine goesL_ (some 119) rfl rfl Try.func17 (by kernel_rfl) rfl #[.int .i64 a0, .slice Ao47 y130.length co47] rfl (by (try simp only [List.map_toArray, List.map_cons, List.map_nil]); first | done | rfl | (simp only [List.length_drop, List.length_take]; rfl)) ?_; (with_reducible refine (drovewayref04_Field.calls kj20 a0 _ _ y130 t133 _ ?side1 ?side2 A36.out).mono ?_); (case side1 => repeat (first | exact (Kd.R_reads' HO132.out).2.2 | (with_reducible refine Kd.C_alloc ?_ _) | (with_reducible refine Kd.C_drewN ?_ _) | (with_reducible refine Kd.C_drew ?_))); (case side2 => exact (Kd.R_reads' HO132.out).2.1); rintro e w' ⟨rfl, ⟨nd, rfl⟩⟩; refine ⟨_, rfl, ?_⟩) | ((with_reducible refine gate_callee (f := 14) rfl ?_); refine goesL_ (some 127) rfl rfl Try.func14 (by kernel_rfl) rfl #[.int .i64 a0, .slice Ao47 y130.length co47, .string a2, .string x14_9] rfl (by (try simp only [List.map_toArray, List.map_cons, List.map_nil]); first | done | rfl | (simp only [List.length_drop, List.length_take]; rfl)) ?_; (with_reducible refine (ambush_Winner.calls a0 _ _ y130 a2 x14_9 t134 t135 _ ?side1 ?side2 A38.out).mono ?_); (case side1 => repeat (first | exact (Kd.R_reads' HO132.out).2.2 | (with_reducible refine Kd.C_alloc ?_ _) | (with_reducible refine Kd.C_drewN ?_ _) | (with_reducible refine Kd.C_drew ?_))); (case side2 => exact (Kd.R_reads' HO132.out).2.1); rintro e w48 ⟨rfl, hb⟩; refine ⟨_, rfl, ?_⟩; have n0_ := Aside0.mk (Kd.R_below (by (with_reducible repeat (first | apply Kd.R_alloc | apply Kd.R_drewN | apply Kd.R_drew)); exact HO132.out) hb); have n1_ := Aside0.mk (below_step (by repeat (first | (with_reducible first | exact HB.out | apply below_alloc | apply pw_below_drewN | apply below_drew1) | exact HB.out)) hb); clear HO132; clear HB; have HO132 := n0_; have HB := n1_; clear n0_ n1_; (try clear hb); (try clear hb2); (try clear hk); (try clear hi)) | (go_at_call 12; (with_reducible refine (drovewaylaw04_alive.calls  t136 _ A42.out).mono ?_); rintro e w49 ⟨rfl, hb⟩; have n0_ := Aside0.mk (Kd.R_below (by (with_reducible repeat (first | apply Kd.R_alloc | apply Kd.R_drewN | apply Kd.R_drew)); exact HO132.out) hb); have n1_ := Aside0.mk (below_step (by repeat (first | (with_reducible first | exact HB.out | apply below_alloc | apply pw_below_drewN | apply below_drew1) | exact HB.out)) hb); clear HO132; clear HB; have HO132 := n0_; have HB := n1_; clear n0_ n1_; (try clear hb); (try clear hb2); (try clear hk); (try clear hi)))
                                  go_ret
                                  exact ⟨by first | rfl | (simp [errW_none, errW_some] <;> rfl) | (simp [*, errW_none, errW_some] <;> rfl), by repeat (first | (with_reducible first | exact HB.out | apply below_alloc | apply pw_below_drewN | apply below_drew1) | exact HB.out)⟩
                                · rw [if_neg c41] at H
                                  have c41b0 : (t134.toList == ([119] : List UInt8)) = false := beq_eq_false_iff_ne.mpr c41
                                  have c41b1 : (t134.toList != ([119] : List UInt8)) = true := bne_iff_ne.mpr c41
                                  obtain rfl := Option.some.inj H
                                  go_wp2_with (first | ((with_reducible refine gate_dst (N := 111) rfl ?_); refine Kd.R_lit (Kd.int .i64) _ 3 ?hg (N := 111) ?hd (xs := ([] : List Int)) (inner := []) (ok := fun _ => True) (okp := fun _ => True) ?hr ?hp (fun _ hk => hk) trivial (Below.refl _ _) (Nat.le_refl _) (by simp) ?_; (case hd => rfl); (case hg => rfl); (case hr => first | (go_simp; done) | (go_simp; rfl)); (case hp => exact (Reps.none _ _)); intro v125 w50 ho51 hb hg_ hnew_; clear hg_ hnew_; (first | rw [← Ny124.out] at ho51 | (simp only [Int.reduceToNat] at ho51; rw [← Ny124.out] at ho51)); have n0_ := Aside0.mk (Kd.R_lower ho51 (below_size (by repeat (first | (with_reducible first | exact HB.out | apply below_alloc | apply pw_below_drewN | apply below_drew1) | exact HB.out)))); have n1_ := Aside0.mk (below_step (by repeat (first | (with_reducible first | exact HB.out | apply below_alloc | apply pw_below_drewN | apply below_drew1) | exact HB.out)) hb); clear HB; have HO126 := n0_; have HB := n1_; clear n0_ n1_; clear hb ho51) | ((with_reducible refine gate_builtin (b := .append) (xs := #[.tmp 111, .tmp 112]) rfl ?_); at_builtin; refine Kd.R_append_rows (Kd.int .i64) (w0 := w) w.heap.size rfl (.tmp 111) (.tmp 112) 22 3 (.int .i64 0) 8 rfl Try.underlying22 info3 rfl (by decide) (by omega) v125 y124 l1 _ _ _ (fun _ => True) (fun _ => False) rfl rfl ?aO ?aR (fun _ _ h => h) (fun _ h => h.elim) ?aF ?aB ?aS ?aL ?_; (case aR => repeat (first | exact (Kd.C_below HR1.out HB.out) | (with_reducible refine Kd.C_alloc ?_ _) | (with_reducible refine Kd.C_drewN ?_ _) | (with_reducible refine Kd.C_drew ?_))); (case aB => exact (by repeat (first | (with_reducible first | exact HB.out | apply below_alloc | apply pw_below_drewN | apply below_drew1) | exact HB.out))); (case aF => exact (fun _ _ => trivial)); (case aO => exact (by (with_reducible repeat (first | apply Kd.R_alloc | apply Kd.R_drewN | apply Kd.R_drew)); exact HO126.out)); (case aS => exact (below_size (by repeat (first | (with_reducible first | exact HB.out | apply below_alloc | apply pw_below_drewN | apply below_drew1) | exact HB.out)))); (case aL => have := LMc34.out; omega); intro v128 w52 ho hb hg hat; rw [← Ny127.out] at ho; have n0_ := Aside0.mk (hb); have n1_ := Aside0.mk (ho); clear HB; clear HO126; have HB := n0_; have HO129 := n1_; clear n0_ n1_; clear ho hb hg hat) | ((with_reducible refine gate_builtin (b := .append) (xs := #[.tmp 113, .tmp 115]) rfl ?_); at_builtin; refine Kd.R_append (Kd.int .i64) (w0 := w) w.heap.size rfl (.tmp 113) (.tmp 115) 22 3 (.int .i64 0) 8 rfl Try.underlying22 info3 rfl (by decide) (by omega) v128 y127 a4 [.int .i64 a4] (fun _ => True) (fun _ => False) rfl rfl ?aP (fun _ hk => hk.elim) ?aF ?aO ?aB ?aS ?aL ?_; (case aP => exact rfl); (case aB => exact (by repeat (first | (with_reducible first | exact HB.out | apply below_alloc | apply pw_below_drewN | apply below_drew1) | exact HB.out))); (case aF => exact (fun _ _ => trivial)); (case aO => exact (by (with_reducible repeat (first | apply Kd.R_alloc | apply Kd.R_drewN | apply Kd.R_drew)); exact HO129.out)); (case aS => exact (below_size (by repeat (first | (with_reducible first | exact HB.out | apply below_alloc | apply pw_below_drewN | apply below_drew1) | exact HB.out)))); (case aL => have := LMc35.out; omega); intro v131 w53 ho hb hg hat; rw [← Ny130.out] at ho; have n0_ := Aside0.mk (hb); have n1_ := Aside0.mk (ho); clear HB; clear HO129; have HB := n0_; have HO132 := n1_; clear n0_ n1_; clear ho hb hg hat; obtain ⟨Ao54, co54, eo54⟩ := Kd.R_slice HO132.out; subst eo54) | ((with_reducible refine gate_callee (f := 17) rfl ?_); refine goesL_ (some 119) rfl rfl Try.func17 (by kernel_rfl) rfl #[.int .i64 a0, .slice Ao54 y130.length co54] rfl (by (try simp only [List.map_toArray, List.map_cons, List.map_nil]); first | done | rfl | (simp only [List.length_drop, List.length_take]; rfl)) ?_; (with_reducible refine (drovewayref04_Field.calls kj20 a0 _ _ y130 t133 _ ?side1 ?side2 A36.out).mono ?_); (case side1 => repeat (first | exact (Kd.R_reads' HO132.out).2.2 | (with_reducible refine Kd.C_alloc ?_ _) | (with_reducible refine Kd.C_drewN ?_ _) | (with_reducible refine Kd.C_drew ?_))); (case side2 => exact (Kd.R_reads' HO132.out).2.1); rintro e w' ⟨rfl, ⟨nd, rfl⟩⟩; refine ⟨_, rfl, ?_⟩) | ((with_reducible refine gate_callee (f := 14) rfl ?_); refine goesL_ (some 127) rfl rfl Try.func14 (by kernel_rfl) rfl #[.int .i64 a0, .slice Ao54 y130.length co54, .string a2, .string x14_9] rfl (by (try simp only [List.map_toArray, List.map_cons, List.map_nil]); first | done | rfl | (simp only [List.length_drop, List.length_take]; rfl)) ?_; (with_reducible refine (ambush_Winner.calls a0 _ _ y130 a2 x14_9 t134 t135 _ ?side1 ?side2 A38.out).mono ?_); (case side1 => repeat (first | exact (Kd.R_reads' HO132.out).2.2 | (with_reducible refine Kd.C_alloc ?_ _) | (with_reducible refine Kd.C_drewN ?_ _) | (with_reducible refine Kd.C_drew ?_))); (case side2 => exact (Kd.R_reads' HO132.out).2.1); rintro e w55 ⟨rfl, hb⟩; refine ⟨_, rfl, ?_⟩; have n0_ := Aside0.mk (Kd.R_below (by (with_reducible repeat (first | apply Kd.R_alloc | apply Kd.R_drewN | apply Kd.R_drew)); exact HO132.out) hb); have n1_ := Aside0.mk (below_step (by repeat (first | (with_reducible first | exact HB.out | apply below_alloc | apply pw_below_drewN | apply below_drew1) | exact HB.out)) hb); clear HO132; clear HB; have HO132 := n0_; have HB := n1_; clear n0_ n1_; (try clear hb); (try clear hb2); (try clear hk); (try clear hi)))
                                  go_ret
                                  exact ⟨by first | rfl | (simp [errW_none, errW_some] <;> rfl) | (simp [*, errW_none, errW_some] <;> rfl), by repeat (first | (with_reducible first | exact HB.out | apply below_alloc | apply pw_below_drewN | apply below_drew1) | exact HB.out)⟩
                              · rw [if_neg c40] at H
                                have c40b0 : (t118.toList == ([119] : List UInt8)) = false := beq_eq_false_iff_ne.mpr c40
                                have c40b1 : (t118.toList != ([119] : List UInt8)) = true := bne_iff_ne.mpr c40
                                replace H := Option.bind_eq_some_iff.mp H
                                obtain ⟨t137, A560, H⟩ := H
                                replace H : (some t137) = some r := H
                                have A56 := Aside0.mk A560
                                clear A560
                                obtain rfl := Option.some.inj H
                                go_wp2_with (first | ((with_reducible refine gate_dst (N := 111) rfl ?_); refine Kd.R_lit (Kd.int .i64) _ 3 ?hg (N := 111) ?hd (xs := ([] : List Int)) (inner := []) (ok := fun _ => True) (okp := fun _ => True) ?hr ?hp (fun _ hk => hk) trivial (Below.refl _ _) (Nat.le_refl _) (by simp) ?_; (case hd => rfl); (case hg => rfl); (case hr => first | (go_simp; done) | (go_simp; rfl)); (case hp => exact (Reps.none _ _)); intro v125 w57 ho58 hb hg_ hnew_; clear hg_ hnew_; (first | rw [← Ny124.out] at ho58 | (simp only [Int.reduceToNat] at ho58; rw [← Ny124.out] at ho58)); have n0_ := Aside0.mk (Kd.R_lower ho58 (below_size (by repeat (first | (with_reducible first | exact HB.out | apply below_alloc | apply pw_below_drewN | apply below_drew1) | exact HB.out)))); have n1_ := Aside0.mk (below_step (by repeat (first | (with_reducible first | exact HB.out | apply below_alloc | apply pw_below_drewN | apply below_drew1) | exact HB.out)) hb); clear HB; have HO126 := n0_; have HB := n1_; clear n0_ n1_; clear hb ho58) | ((with_reducible refine gate_builtin (b := .append) (xs := #[.tmp 111, .tmp 112]) rfl ?_); at_builtin; refine Kd.R_append_rows (Kd.int .i64) (w0 := w) w.heap.size rfl (.tmp 111) (.tmp 112) 22 3 (.int .i64 0) 8 rfl Try.underlying22 info3 rfl (by decide) (by omega) v125 y124 l1 _ _ _ (fun _ => True) (fun _ => False) rfl rfl ?aO ?aR (fun _ _ h => h) (fun _ h => h.elim) ?aF ?aB ?aS ?aL ?_; (case aR => repeat (first | exact (Kd.C_below HR1.out HB.out) | (with_reducible refine Kd.C_alloc ?_ _) | (with_reducible refine Kd.C_drewN ?_ _) | (with_reducible refine Kd.C_drew ?_))); (case aB => exact (by repeat (first | (with_reducible first | exact HB.out | apply below_alloc | apply pw_below_drewN | apply below_drew1) | exact HB.out))); (case aF => exact (fun _ _ => trivial)); (case aO => exact (by (with_reducible repeat (first | apply Kd.R_alloc | apply Kd.R_drewN | apply Kd.R_drew)); exact HO126.out)); (case aS => exact (below_size (by repeat (first | (with_reducible first | exact HB.out | apply below_alloc | apply pw_below_drewN | apply below_drew1) | exact HB.out)))); (case aL => have := LMc34.out; omega); intro v128 w59 ho hb hg hat; rw [← Ny127.out] at ho; have n0_ := Aside0.mk (hb); have n1_ := Aside0.mk (ho); clear HB; clear HO126; have HB := n0_; have HO129 := n1_; clear n0_ n1_; clear ho hb hg hat) | ((with_reducible refine gate_builtin (b := .append) (xs := #[.tmp 113, .tmp 115]) rfl ?_); at_builtin; refine Kd.R_append (Kd.int .i64) (w0 := w) w.heap.size rfl (.tmp 113) (.tmp 115) 22 3 (.int .i64 0) 8 rfl Try.underlying22 info3 rfl (by decide) (by omega) v128 y127 a4 [.int .i64 a4] (fun _ => True) (fun _ => False) rfl rfl ?aP (fun _ hk => hk.elim) ?aF ?aO ?aB ?aS ?aL ?_; (case aP => exact rfl); (case aB => exact (by repeat (first | (with_reducible first | exact HB.out | apply below_alloc | apply pw_below_drewN | apply below_drew1) | exact HB.out))); (case aF => exact (fun _ _ => trivial)); (case aO => exact (by (with_reducible repeat (first | apply Kd.R_alloc | apply Kd.R_drewN | apply Kd.R_drew)); exact HO129.out)); (case aS => exact (below_size (by repeat (first | (with_reducible first | exact HB.out | apply below_alloc | apply pw_below_drewN | apply below_drew1) | exact HB.out)))); (case aL => have := LMc35.out; omega); intro v131 w60 ho hb hg hat; rw [← Ny130.out] at ho; have n0_ := Aside0.mk (hb); have n1_ := Aside0.mk (ho); clear HB; clear HO129; have HB := n0_; have HO132 := n1_; clear n0_ n1_; clear ho hb hg hat; obtain ⟨Ao61, co61, eo61⟩ := Kd.R_slice HO132.out; subst eo61) | ((with_reducible refine gate_callee (f := 17) rfl ?_); refine goesL_ (some 119) rfl rfl Try.func17 (by kernel_rfl) rfl #[.int .i64 a0, .slice Ao61 y130.length co61] rfl (by (try simp only [List.map_toArray, List.map_cons, List.map_nil]); first | done | rfl | (simp only [List.length_drop, List.length_take]; rfl)) ?_; (with_reducible refine (drovewayref04_Field.calls kj20 a0 _ _ y130 t133 _ ?side1 ?side2 A36.out).mono ?_); (case side1 => repeat (first | exact (Kd.R_reads' HO132.out).2.2 | (with_reducible refine Kd.C_alloc ?_ _) | (with_reducible refine Kd.C_drewN ?_ _) | (with_reducible refine Kd.C_drew ?_))); (case side2 => exact (Kd.R_reads' HO132.out).2.1); rintro e w' ⟨rfl, ⟨nd, rfl⟩⟩; refine ⟨_, rfl, ?_⟩) | ((with_reducible refine gate_callee (f := 14) rfl ?_); refine goesL_ (some 127) rfl rfl Try.func14 (by kernel_rfl) rfl #[.int .i64 a0, .slice Ao61 y130.length co61, .string a2, .string x14_9] rfl (by (try simp only [List.map_toArray, List.map_cons, List.map_nil]); first | done | rfl | (simp only [List.length_drop, List.length_take]; rfl)) ?_; (with_reducible refine (ambush_Winner.calls a0 _ _ y130 a2 x14_9 t134 t135 _ ?side1 ?side2 A38.out).mono ?_); (case side1 => repeat (first | exact (Kd.R_reads' HO132.out).2.2 | (with_reducible refine Kd.C_alloc ?_ _) | (with_reducible refine Kd.C_drewN ?_ _) | (with_reducible refine Kd.C_drew ?_))); (case side2 => exact (Kd.R_reads' HO132.out).2.1); rintro e w62 ⟨rfl, hb⟩; refine ⟨_, rfl, ?_⟩; have n0_ := Aside0.mk (Kd.R_below (by (with_reducible repeat (first | apply Kd.R_alloc | apply Kd.R_drewN | apply Kd.R_drew)); exact HO132.out) hb); have n1_ := Aside0.mk (below_step (by repeat (first | (with_reducible first | exact HB.out | apply below_alloc | apply pw_below_drewN | apply below_drew1) | exact HB.out)) hb); clear HO132; clear HB; have HO132 := n0_; have HB := n1_; clear n0_ n1_; (try clear hb); (try clear hb2); (try clear hk); (try clear hi)) | (go_at_call 12; (with_reducible refine (drovewaylaw04_alive.calls  t137 _ A56.out).mono ?_); rintro e w63 ⟨rfl, hb⟩; have n0_ := Aside0.mk (Kd.R_below (by (with_reducible repeat (first | apply Kd.R_alloc | apply Kd.R_drewN | apply Kd.R_drew)); exact HO132.out) hb); have n1_ := Aside0.mk (below_step (by repeat (first | (with_reducible first | exact HB.out | apply below_alloc | apply pw_below_drewN | apply below_drew1) | exact HB.out)) hb); clear HO132; clear HB; have HO132 := n0_; have HB := n1_; clear n0_ n1_; (try clear hb); (try clear hb2); (try clear hk); (try clear hi)))
                                go_ret
                                exact ⟨by first | rfl | (simp [errW_none, errW_some] <;> rfl) | (simp [*, errW_none, errW_some] <;> rfl), by repeat (first | (with_reducible first | exact HB.out | apply below_alloc | apply pw_below_drewN | apply below_drew1) | exact HB.out)⟩
                            · rw [if_neg c39] at H
                              have c39b0 : (t135 == 0) = false := beq_eq_false_iff_ne.mpr c39
                              have c39b1 : (t135 != 0) = true := bne_iff_ne.mpr c39
                              obtain rfl := Option.some.inj H
                              go_wp2_with (first | ((with_reducible refine gate_dst (N := 111) rfl ?_); refine Kd.R_lit (Kd.int .i64) _ 3 ?hg (N := 111) ?hd (xs := ([] : List Int)) (inner := []) (ok := fun _ => True) (okp := fun _ => True) ?hr ?hp (fun _ hk => hk) trivial (Below.refl _ _) (Nat.le_refl _) (by simp) ?_; (case hd => rfl); (case hg => rfl); (case hr => first | (go_simp; done) | (go_simp; rfl)); (case hp => exact (Reps.none _ _)); intro v125 w64 ho65 hb hg_ hnew_; clear hg_ hnew_; (first | rw [← Ny124.out] at ho65 | (simp only [Int.reduceToNat] at ho65; rw [← Ny124.out] at ho65)); have n0_ := Aside0.mk (Kd.R_lower ho65 (below_size (by repeat (first | (with_reducible first | exact HB.out | apply below_alloc | apply pw_below_drewN | apply below_drew1) | exact HB.out)))); have n1_ := Aside0.mk (below_step (by repeat (first | (with_reducible first | exact HB.out | apply below_alloc | apply pw_below_drewN | apply below_drew1) | exact HB.out)) hb); clear HB; have HO126 := n0_; have HB := n1_; clear n0_ n1_; clear hb ho65) | ((with_reducible refine gate_builtin (b := .append) (xs := #[.tmp 111, .tmp 112]) rfl ?_); at_builtin; refine Kd.R_append_rows (Kd.int .i64) (w0 := w) w.heap.size rfl (.tmp 111) (.tmp 112) 22 3 (.int .i64 0) 8 rfl Try.underlying22 info3 rfl (by decide) (by omega) v125 y124 l1 _ _ _ (fun _ => True) (fun _ => False) rfl rfl ?aO ?aR (fun _ _ h => h) (fun _ h => h.elim) ?aF ?aB ?aS ?aL ?_; (case aR => repeat (first | exact (Kd.C_below HR1.out HB.out) | (with_reducible refine Kd.C_alloc ?_ _) | (with_reducible refine Kd.C_drewN ?_ _) | (with_reducible refine Kd.C_drew ?_))); (case aB => exact (by repeat (first | (with_reducible first | exact HB.out | apply below_alloc | apply pw_below_drewN | apply below_drew1) | exact HB.out))); (case aF => exact (fun _ _ => trivial)); (case aO => exact (by (with_reducible repeat (first | apply Kd.R_alloc | apply Kd.R_drewN | apply Kd.R_drew)); exact HO126.out)); (case aS => exact (below_size (by repeat (first | (with_reducible first | exact HB.out | apply below_alloc | apply pw_below_drewN | apply below_drew1) | exact HB.out)))); (case aL => have := LMc34.out; omega); intro v128 w66 ho hb hg hat; rw [← Ny127.out] at ho; have n0_ := Aside0.mk (hb); have n1_ := Aside0.mk (ho); clear HB; clear HO126; have HB := n0_; have HO129 := n1_; clear n0_ n1_; clear ho hb hg hat) | ((with_reducible refine gate_builtin (b := .append) (xs := #[.tmp 113, .tmp 115]) rfl ?_); at_builtin; refine Kd.R_append (Kd.int .i64) (w0 := w) w.heap.size rfl (.tmp 113) (.tmp 115) 22 3 (.int .i64 0) 8 rfl Try.underlying22 info3 rfl (by decide) (by omega) v128 y127 a4 [.int .i64 a4] (fun _ => True) (fun _ => False) rfl rfl ?aP (fun _ hk => hk.elim) ?aF ?aO ?aB ?aS ?aL ?_; (case aP => exact rfl); (case aB => exact (by repeat (first | (with_reducible first | exact HB.out | apply below_alloc | apply pw_below_drewN | apply below_drew1) | exact HB.out))); (case aF => exact (fun _ _ => trivial)); (case aO => exact (by (with_reducible repeat (first | apply Kd.R_alloc | apply Kd.R_drewN | apply Kd.R_drew)); exact HO129.out)); (case aS => exact (below_size (by repeat (first | (with_reducible first | exact HB.out | apply below_alloc | apply pw_below_drewN | apply below_drew1) | exact HB.out)))); (case aL => have := LMc35.out; omega); intro v131 w67 ho hb hg hat; rw [← Ny130.out] at ho; have n0_ := Aside0.mk (hb); have n1_ := Aside0.mk (ho); clear HB; clear HO129; have HB := n0_; have HO132 := n1_; clear n0_ n1_; clear ho hb hg hat; obtain ⟨Ao68, co68, eo68⟩ := Kd.R_slice HO132.out; subst eo68) | ((with_reducible refine gate_callee (f := 17) rfl ?_); refine goesL_ (some 119) rfl rfl Try.func17 (by kernel_rfl) rfl #[.int .i64 a0, .slice Ao68 y130.length co68] rfl (by (try simp only [List.map_toArray, List.map_cons, List.map_nil]); first | done | rfl | (simp only [List.length_drop, List.length_take]; rfl)) ?_; (with_reducible refine (drovewayref04_Field.calls kj20 a0 _ _ y130 t133 _ ?side1 ?side2 A36.out).mono ?_); (case side1 => repeat (first | exact (Kd.R_reads' HO132.out).2.2 | (with_reducible refine Kd.C_alloc ?_ _) | (with_reducible refine Kd.C_drewN ?_ _) | (with_reducible refine Kd.C_drew ?_))); (case side2 => exact (Kd.R_reads' HO132.out).2.1); rintro e w' ⟨rfl, ⟨nd, rfl⟩⟩; refine ⟨_, rfl, ?_⟩) | ((with_reducible refine gate_callee (f := 14) rfl ?_); refine goesL_ (some 127) rfl rfl Try.func14 (by kernel_rfl) rfl #[.int .i64 a0, .slice Ao68 y130.length co68, .string a2, .string x14_9] rfl (by (try simp only [List.map_toArray, List.map_cons, List.map_nil]); first | done | rfl | (simp only [List.length_drop, List.length_take]; rfl)) ?_; (with_reducible refine (ambush_Winner.calls a0 _ _ y130 a2 x14_9 t134 t135 _ ?side1 ?side2 A38.out).mono ?_); (case side1 => repeat (first | exact (Kd.R_reads' HO132.out).2.2 | (with_reducible refine Kd.C_alloc ?_ _) | (with_reducible refine Kd.C_drewN ?_ _) | (with_reducible refine Kd.C_drew ?_))); (case side2 => exact (Kd.R_reads' HO132.out).2.1); rintro e w69 ⟨rfl, hb⟩; refine ⟨_, rfl, ?_⟩; have n0_ := Aside0.mk (Kd.R_below (by (with_reducible repeat (first | apply Kd.R_alloc | apply Kd.R_drewN | apply Kd.R_drew)); exact HO132.out) hb); have n1_ := Aside0.mk (below_step (by repeat (first | (with_reducible first | exact HB.out | apply below_alloc | apply pw_below_drewN | apply below_drew1) | exact HB.out)) hb); clear HO132; clear HB; have HO132 := n0_; have HB := n1_; clear n0_ n1_; (try clear hb); (try clear hb2); (try clear hk); (try clear hi)))
                              go_ret
                              exact ⟨by first | rfl | (simp [errW_none, errW_some] <;> rfl) | (simp [*, errW_none, errW_some] <;> rfl), by repeat (first | (with_reducible first | exact HB.out | apply below_alloc | apply pw_below_drewN | apply below_drew1) | exact HB.out)⟩
                          · rw [if_neg c37] at H
                            have c37b0 : (t133 == 0) = false := beq_eq_false_iff_ne.mpr c37
                            have c37b1 : (t133 != 0) = true := bne_iff_ne.mpr c37
                            replace H := Option.bind_eq_some_iff.mp H
                            obtain ⟨t138, A700, H⟩ := H
                            replace H : (some t138) = some r := H
                            have A70 := Aside0.mk A700
                            clear A700
                            obtain rfl := Option.some.inj H
                            go_wp2_with (first | ((with_reducible refine gate_dst (N := 111) rfl ?_); refine Kd.R_lit (Kd.int .i64) _ 3 ?hg (N := 111) ?hd (xs := ([] : List Int)) (inner := []) (ok := fun _ => True) (okp := fun _ => True) ?hr ?hp (fun _ hk => hk) trivial (Below.refl _ _) (Nat.le_refl _) (by simp) ?_; (case hd => rfl); (case hg => rfl); (case hr => first | (go_simp; done) | (go_simp; rfl)); (case hp => exact (Reps.none _ _)); intro v125 w71 ho72 hb hg_ hnew_; clear hg_ hnew_; (first | rw [← Ny124.out] at ho72 | (simp only [Int.reduceToNat] at ho72; rw [← Ny124.out] at ho72)); have n0_ := Aside0.mk (Kd.R_lower ho72 (below_size (by repeat (first | (with_reducible first | exact HB.out | apply below_alloc | apply pw_below_drewN | apply below_drew1) | exact HB.out)))); have n1_ := Aside0.mk (below_step (by repeat (first | (with_reducible first | exact HB.out | apply below_alloc | apply pw_below_drewN | apply below_drew1) | exact HB.out)) hb); clear HB; have HO126 := n0_; have HB := n1_; clear n0_ n1_; clear hb ho72) | ((with_reducible refine gate_builtin (b := .append) (xs := #[.tmp 111, .tmp 112]) rfl ?_); at_builtin; refine Kd.R_append_rows (Kd.int .i64) (w0 := w) w.heap.size rfl (.tmp 111) (.tmp 112) 22 3 (.int .i64 0) 8 rfl Try.underlying22 info3 rfl (by decide) (by omega) v125 y124 l1 _ _ _ (fun _ => True) (fun _ => False) rfl rfl ?aO ?aR (fun _ _ h => h) (fun _ h => h.elim) ?aF ?aB ?aS ?aL ?_; (case aR => repeat (first | exact (Kd.C_below HR1.out HB.out) | (with_reducible refine Kd.C_alloc ?_ _) | (with_reducible refine Kd.C_drewN ?_ _) | (with_reducible refine Kd.C_drew ?_))); (case aB => exact (by repeat (first | (with_reducible first | exact HB.out | apply below_alloc | apply pw_below_drewN | apply below_drew1) | exact HB.out))); (case aF => exact (fun _ _ => trivial)); (case aO => exact (by (with_reducible repeat (first | apply Kd.R_alloc | apply Kd.R_drewN | apply Kd.R_drew)); exact HO126.out)); (case aS => exact (below_size (by repeat (first | (with_reducible first | exact HB.out | apply below_alloc | apply pw_below_drewN | apply below_drew1) | exact HB.out)))); (case aL => have := LMc34.out; omega); intro v128 w73 ho hb hg hat; rw [← Ny127.out] at ho; have n0_ := Aside0.mk (hb); have n1_ := Aside0.mk (ho); clear HB; clear HO126; have HB := n0_; have HO129 := n1_; clear n0_ n1_; clear ho hb hg hat) | ((with_reducible refine gate_builtin (b := .append) (xs := #[.tmp 113, .tmp 115]) rfl ?_); at_builtin; refine Kd.R_append (Kd.int .i64) (w0 := w) w.heap.size rfl (.tmp 113) (.tmp 115) 22 3 (.int .i64 0) 8 rfl Try.underlying22 info3 rfl (by decide) (by omega) v128 y127 a4 [.int .i64 a4] (fun _ => True) (fun _ => False) rfl rfl ?aP (fun _ hk => hk.elim) ?aF ?aO ?aB ?aS ?aL ?_; (case aP => exact rfl); (case aB => exact (by repeat (first | (with_reducible first | exact HB.out | apply below_alloc | apply pw_below_drewN | apply below_drew1) | exact HB.out))); (case aF => exact (fun _ _ => trivial)); (case aO => exact (by (with_reducible repeat (first | apply Kd.R_alloc | apply Kd.R_drewN | apply Kd.R_drew)); exact HO129.out)); (case aS => exact (below_size (by repeat (first | (with_reducible first | exact HB.out | apply below_alloc | apply pw_below_drewN | apply below_drew1) | exact HB.out)))); (case aL => have := LMc35.out; omega); intro v131 w74 ho hb hg hat; rw [← Ny130.out] at ho; have n0_ := Aside0.mk (hb); have n1_ := Aside0.mk (ho); clear HB; clear HO129; have HB := n0_; have HO132 := n1_; clear n0_ n1_; clear ho hb hg hat; obtain ⟨Ao75, co75, eo75⟩ := Kd.R_slice HO132.out; subst eo75) | ((with_reducible refine gate_callee (f := 17) rfl ?_); refine goesL_ (some 119) rfl rfl Try.func17 (by kernel_rfl) rfl #[.int .i64 a0, .slice Ao75 y130.length co75] rfl (by (try simp only [List.map_toArray, List.map_cons, List.map_nil]); first | done | rfl | (simp only [List.length_drop, List.length_take]; rfl)) ?_; (with_reducible refine (drovewayref04_Field.calls kj20 a0 _ _ y130 t133 _ ?side1 ?side2 A36.out).mono ?_); (case side1 => repeat (first | exact (Kd.R_reads' HO132.out).2.2 | (with_reducible refine Kd.C_alloc ?_ _) | (with_reducible refine Kd.C_drewN ?_ _) | (with_reducible refine Kd.C_drew ?_))); (case side2 => exact (Kd.R_reads' HO132.out).2.1); rintro e w' ⟨rfl, ⟨nd, rfl⟩⟩; refine ⟨_, rfl, ?_⟩) | ((with_reducible refine gate_callee (f := 12) rfl ?_); refine goesL_ (some 121) rfl rfl Try.func12 (by kernel_rfl) rfl #[] rfl (by (try simp only [List.map_toArray, List.map_cons, List.map_nil]); first | done | rfl | (simp only [List.length_drop, List.length_take]; rfl)) ?_; (with_reducible refine (drovewaylaw04_alive.calls  t138 _ A70.out).mono ?_); rintro e w76 ⟨rfl, hb⟩; refine ⟨_, rfl, ?_⟩; have n0_ := Aside0.mk (Kd.R_below (by (with_reducible repeat (first | apply Kd.R_alloc | apply Kd.R_drewN | apply Kd.R_drew)); exact HO132.out) hb); have n1_ := Aside0.mk (below_step (by repeat (first | (with_reducible first | exact HB.out | apply below_alloc | apply pw_below_drewN | apply below_drew1) | exact HB.out)) hb); clear HO132; clear HB; have HO132 := n0_; have HB := n1_; clear n0_ n1_; (try clear hb); (try clear hb2); (try clear hk); (try clear hi)))
                            go_ret
                            exact ⟨by first | rfl | (simp [errW_none, errW_some] <;> rfl) | (simp [*, errW_none, errW_some] <;> rfl), by repeat (first | (with_reducible first | exact HB.out | apply below_alloc | apply pw_below_drewN | apply below_drew1) | exact HB.out)⟩
                        · rw [if_neg c35] at H
                          exact absurd H (by simp)
                      · rw [if_neg c34] at H
                        exact absurd H (by simp)
    · rw [if_neg c9] at H
      have c9b0 : (t108 == 0) = false := beq_eq_false_iff_ne.mpr c9
      have c9b1 : (t108 != 0) = true := bne_iff_ne.mpr c9
      replace H := Option.bind_eq_some_iff.mp H
      obtain ⟨t109, A770, H⟩ := H
      replace H : (some t109) = some r := H
      have A77 := Aside0.mk A770
      clear A770
      obtain rfl := Option.some.inj H
      go_enter Try.func9, Try.ntmps9
      go_wp2_with (first | ((with_reducible refine gate_callee (f := 11) rfl ?_); refine goesL_ (some 28) rfl rfl Try.func11 (by kernel_rfl) rfl #[.slice A1 l1.length c1, .string a2, .string (⟨#[]⟩ : ByteArray)] rfl (by (try simp only [List.map_toArray, List.map_cons, List.map_nil]); first | done | rfl | (simp only [List.length_drop, List.length_take]; rfl)) ?_; (with_reducible refine (drovewaylaw04_few.calls _ _ l1 a2 (⟨#[]⟩ : ByteArray) true _ ?side1 ?side2 A6.out).mono ?_); (case side1 => repeat (first | exact HR1.out | (with_reducible refine Kd.C_alloc ?_ _) | (with_reducible refine Kd.C_drewN ?_ _) | (with_reducible refine Kd.C_drew ?_))); (case side2 => exact HC1.out); rintro e w' ⟨rfl, ⟨nd, rfl⟩⟩; refine ⟨_, rfl, ?_⟩) | ((with_reducible refine gate_callee (f := 13) rfl ?_); refine goesL_ (some 35) rfl rfl Try.func13 (by kernel_rfl) rfl #[.int .i64 a0, .slice A1 l1.length c1, .string a2] rfl (by (try simp only [List.map_toArray, List.map_cons, List.map_nil]); first | done | rfl | (simp only [List.length_drop, List.length_take]; rfl)) ?_; (with_reducible refine (drovewayref04_Placed.calls k a0 _ _ l1 a2 t106 t107 t108 _ ?side1 ?side2 A8.out).mono ?_); (case side1 => repeat (first | exact HR1.out | (with_reducible refine Kd.C_alloc ?_ _) | (with_reducible refine Kd.C_drewN ?_ _) | (with_reducible refine Kd.C_drew ?_))); (case side2 => exact HC1.out); rintro e w' ⟨rfl, ⟨nd, rfl⟩⟩; refine ⟨_, rfl, ?_⟩) | ((with_reducible refine gate_callee (f := 12) rfl ?_); refine goesL_ (some 41) rfl rfl Try.func12 (by kernel_rfl) rfl #[] rfl (by (try simp only [List.map_toArray, List.map_cons, List.map_nil]); first | done | rfl | (simp only [List.length_drop, List.length_take]; rfl)) ?_; (with_reducible refine (drovewaylaw04_alive.calls  t109 _ A77.out).mono ?_); rintro e w78 ⟨rfl, hb⟩; refine ⟨_, rfl, ?_⟩; have n0_ := Aside0.mk (below_step (by repeat (first | (with_reducible first | exact HB.out | apply below_alloc | apply pw_below_drewN | apply below_drew1) | exact HB.out)) hb); clear HB; have HB := n0_; clear n0_; (try clear hb); (try clear hb2); (try clear hk); (try clear hi)))
      go_ret
      exact ⟨by first | rfl | (simp [errW_none, errW_some] <;> rfl) | (simp [*, errW_none, errW_some] <;> rfl), by repeat (first | (with_reducible first | exact HB.out | apply below_alloc | apply pw_below_drewN | apply below_drew1) | exact HB.out)⟩
  · replace c7 := Bool.eq_false_iff.mpr c7
    subst c7
    have H1 : ((drovewaylaw04_alive.f).bind fun t105 => (some t105)) = some r := by rw [if_neg (show ¬ (false = true) by decide)] at H; exact H
    clear H
    have H := H1
    clear H1
    replace H := Option.bind_eq_some_iff.mp H
    obtain ⟨t105, A790, H⟩ := H
    replace H : (some t105) = some r := H
    have A79 := Aside0.mk A790
    clear A790
    obtain rfl := Option.some.inj H
    go_enter Try.func9, Try.ntmps9
    go_wp2_with (first | ((with_reducible refine gate_callee (f := 11) rfl ?_); refine goesL_ (some 28) rfl rfl Try.func11 (by kernel_rfl) rfl #[.slice A1 l1.length c1, .string a2, .string (⟨#[]⟩ : ByteArray)] rfl (by (try simp only [List.map_toArray, List.map_cons, List.map_nil]); first | done | rfl | (simp only [List.length_drop, List.length_take]; rfl)) ?_; (with_reducible refine (drovewaylaw04_few.calls _ _ l1 a2 (⟨#[]⟩ : ByteArray) false _ ?side1 ?side2 A6.out).mono ?_); (case side1 => repeat (first | exact HR1.out | (with_reducible refine Kd.C_alloc ?_ _) | (with_reducible refine Kd.C_drewN ?_ _) | (with_reducible refine Kd.C_drew ?_))); (case side2 => exact HC1.out); rintro e w' ⟨rfl, ⟨nd, rfl⟩⟩; refine ⟨_, rfl, ?_⟩) | ((with_reducible refine gate_callee (f := 12) rfl ?_); refine goesL_ (some 30) rfl rfl Try.func12 (by kernel_rfl) rfl #[] rfl (by (try simp only [List.map_toArray, List.map_cons, List.map_nil]); first | done | rfl | (simp only [List.length_drop, List.length_take]; rfl)) ?_; (with_reducible refine (drovewaylaw04_alive.calls  t105 _ A79.out).mono ?_); rintro e w80 ⟨rfl, hb⟩; refine ⟨_, rfl, ?_⟩; have n0_ := Aside0.mk (below_step (by repeat (first | (with_reducible first | exact HB.out | apply below_alloc | apply pw_below_drewN | apply below_drew1) | exact HB.out)) hb); clear HB; have HB := n0_; clear n0_; (try clear hb); (try clear hb2); (try clear hk); (try clear hi)))
    go_ret
    exact ⟨by first | rfl | (simp [errW_none, errW_some] <;> rfl) | (simp [*, errW_none, errW_some] <;> rfl), by repeat (first | (with_reducible first | exact HB.out | apply below_alloc | apply pw_below_drewN | apply below_drew1) | exact HB.out)⟩

/-- THE ONE PURE STATEMENT of drovewaylaw04_AmbushLines: yours. -/
def drovewaylaw04_AmbushLines.Pure : Prop := ∀ (a0 : Int) (l1 : List Int) (a2 : ByteArray) (a3 : Bool) (a4 : Int), (Lit.int .i64 a0).wf = true → l1.length ≤ maxLen → l1.length * 8 ≤ 140737488351232 → (∀ x ∈ l1, (Lit.int .i64 x).wf = true) → a2.size ≤ 140737488351232 → (Lit.int .i64 a4).wf = true → ∃ k, drovewaylaw04_AmbushLines.f k a0 l1 a2 a3 a4 = some true
theorem drovewaylaw04_AmbushLines.walk (P : drovewaylaw04_AmbushLines.Pure) (a0 : Int) (a1 : Option Addr) (len1 cap1 : Nat) (z1 : List Int) (a2 : ByteArray) (a3 : Bool) (a4 : Int) (w : World) (w0 : (Lit.int .i64 a0).wf = true) (w1 : (a1 = none ∧ len1 = 0 ∧ cap1 = 0 ∧ z1 = []) ∨ ∃ x, a1 = some x ∧ len1 ≤ cap1 ∧ cap1 ≤ maxLen ∧ z1.length = cap1 ∧ (∀ i, i < z1.length → w.cell? (x.add i) = some (.int .i64 (z1.getD i 0))) ∧ ∀ n ∈ z1, (Lit.int .i64 n).wf = true) (y1 : len1 * 8 ≤ 140737488351232) (w2 : a2.size ≤ 140737488351232) (w4 : (Lit.int .i64 a4).wf = true) :
    Calls Try.prog 9 #[.int .i64 a0, .slice a1 len1 cap1, .string a2, .bool a3, .int .i64 a4] w fun e w' => e = .returned (.bool true) ∧ Below w.heap.size w w' := by
  obtain ⟨l1, rfl, hr1, hm1, hw1, hc1⟩ := ReadsInt.ofRowC w1
  obtain ⟨k, h⟩ := P a0 l1 a2 a3 a4 w0 hm1 y1 hw1 w2 w4
  refine (drovewaylaw04_AmbushLines.calls k a0 _ _ l1 a2 a3 a4 true w (Kd.C_of_reads (d := (0 : Int)) (h1 := fun _ => rfl) hr1) hc1 h).mono ?_
  rintro e w' ⟨rfl, hd⟩
  exact ⟨rfl, hd⟩

end Go.Proofs.Ytbjpjjokamaliaa.PAmbushLines

-- Printed by hprint.py (this claim's own program, over the kit's print.py) out of the translation and contracts by hand. Not trusted: Lean checks it.
namespace Go.Proofs.Ytbjpjjokamaliaa.PAmbushLines
open Go.Proofs.Ytbjpjjokamaliaa.A Go.Proofs.Ytbjpjjokamaliaa.B
open Go.RowKit Go.Proofs.YtbjpjjokamaliaaW.PrintWords Go.Proofs.YtbjpjjokamaliaaW.PrintLast Go.Proofs.YtbjpjjokamaliaaW.PrintMore
attribute [local go_sem] max2_int min2_int max_two min_two max_three min_three max_four min_four   -- for this text's walks alone
set_option linter.unusedVariables false
set_option linter.unusedSimpArgs false

end Go.Proofs.Ytbjpjjokamaliaa.PAmbushLines

/- The plain game: more spots for the wolves never help the dogs; who wins when the other one is next wins when next. -/
namespace Go.Proofs.Ytbjpjjokamaliaa.A
open Go.RowKit Go.Proofs.YtbjpjjokamaliaaW.PrintWords Go.Proofs.YtbjpjjokamaliaaW.PrintMore

/-- A set is within another one. -/
def Sub (f g : Nat → Bool) : Prop := ∀ i, f i = true → g i = true
theorem Sub.refl (f : Nat → Bool) : Sub f f := fun _ h => h
theorem Sub.trans {f g h : Nat → Bool} (a : Sub f g) (b : Sub g h) : Sub f h := fun i x => b i (a i x)
theorem up_iff (f : Nat → Bool) (i j : Nat) : up f i j = true ↔ (f j = true ∨ j = i) := by simp [up]
theorem Sub.up {f g : Nat → Bool} (h : Sub f g) (i : Nat) : Sub (up f i) (A.up g i) := fun j x => by
  rw [up_iff] at x ⊢
  exact x.imp (h j) id
theorem Sub.upr (f : Nat → Bool) (i : Nat) : Sub f (A.up f i) := fun j x => by rw [up_iff]; exact .inl x
theorem Sub.up_in {f g : Nat → Bool} (h : Sub f g) {i : Nat} (hi : g i = true) : Sub (A.up f i) g := fun j x => by
  rw [up_iff] at x
  rcases x with x | rfl
  · exact h j x
  · exact hi
theorem hasL_sub {l : List Int} {m : Nat} {W W' : Nat → Bool} (h : Sub W W') (hl : hasL l m W = true) : hasL l m W' = true := by
  unfold hasL at hl ⊢
  rw [List.any_eq_true] at hl ⊢
  obtain ⟨x, hx, hi⟩ := hl
  refine ⟨x, hx, ?_⟩
  unfold inL at hi ⊢
  rw [List.all_eq_true] at hi ⊢
  intro i hm
  have := hi i hm
  rw [Bool.or_eq_true] at this ⊢
  exact this.imp id (h i)
theorem fr_iff (W D : Nat → Bool) (i : Nat) : fr W D i = true ↔ W i = false ∧ D i = false := by
  unfold fr
  cases W i <;> cases D i <;> simp
theorem wins_w_iff (l : List Int) (m : Nat) (W D : Nat → Bool) : wins l m W D true = true ↔ hasL l m W = true ∨ ∃ i, i < m ∧ fr W D i = true ∧ wins l m (up W i) D false = true := by
  rw [wins_w, Bool.or_eq_true, List.any_eq_true]
  refine or_congr Iff.rfl ⟨?_, ?_⟩
  · rintro ⟨i, hi, h⟩
    rw [Bool.and_eq_true] at h
    exact ⟨i, List.mem_range.1 hi, h.1, h.2⟩
  · rintro ⟨i, hi, h1, h2⟩
    exact ⟨i, List.mem_range.2 hi, by rw [h1, h2]; rfl⟩
theorem wins_d_iff (l : List Int) (m : Nat) (W D : Nat → Bool) : wins l m W D false = true ↔ hasL l m W = true ∨ ((∃ i, i < m ∧ fr W D i = true) ∧ ∀ i, i < m → fr W D i = true → wins l m W (up D i) true = true) := by
  rw [wins_d, Bool.or_eq_true, Bool.and_eq_true, List.any_eq_true, List.all_eq_true]
  refine or_congr Iff.rfl (and_congr ⟨?_, ?_⟩ ⟨?_, ?_⟩)
  · rintro ⟨i, hi, h⟩; exact ⟨i, List.mem_range.1 hi, h⟩
  · rintro ⟨i, hi, h⟩; exact ⟨i, List.mem_range.2 hi, h⟩
  · intro h i hi hf
    have := h i (List.mem_range.2 hi)
    rw [hf] at this
    simpa using this
  · intro h i hi
    by_cases hf : fr W D i = true
    · rw [h i (List.mem_range.1 hi) hf]; simp
    · simp at hf; rw [hf]; rfl
theorem wins_mono_n (l : List Int) (m : Nat) : ∀ n (W D W' D' : Nat → Bool) (nx : Bool), cntF m W D ≤ n → Sub W W' → Sub D' D → wins l m W D nx = true → wins l m W' D' nx = true := by
  intro n
  induction n with
  | zero =>
    intro W D W' D' nx hn hW hD h
    have hno : ∀ i, i < m → fr W D i = true → False := fun i hi hf => by have := cnt_pos hi hf; omega
    have hl : hasL l m W = true := by
      cases nx
      · rcases (wins_d_iff l m W D).1 h with h | ⟨⟨i, hi, hf⟩, _⟩
        · exact h
        · exact (hno i hi hf).elim
      · rcases (wins_w_iff l m W D).1 h with h | ⟨i, hi, hf, _⟩
        · exact h
        · exact (hno i hi hf).elim
    cases nx
    · exact (wins_d_iff l m W' D').2 (.inl (hasL_sub hW hl))
    · exact (wins_w_iff l m W' D').2 (.inl (hasL_sub hW hl))
  | succ n ih =>
    intro W D W' D' nx hn hW hD h
    cases nx
    · rcases (wins_d_iff l m W D).1 h with h | ⟨⟨i, hi, hf⟩, hall⟩
      · exact (wins_d_iff l m W' D').2 (.inl (hasL_sub hW h))
      · have hgo : ∀ j, j < m → fr W D j = true → ∀ E, Sub E (up D j) → wins l m W' E true = true := fun j hj hfj E hE =>
          ih W (up D j) W' E true (by have := cnt_upD hj hfj; omega) hW hE (hall j hj hfj)
        by_cases hex : ∃ j, j < m ∧ fr W' D' j = true
        · refine (wins_d_iff l m W' D').2 (.inr ⟨hex, fun k hk hfk => ?_⟩)
          obtain ⟨hk1, hk2⟩ := (fr_iff W' D' k).1 hfk
          have hkW : W k = false := by
            cases e : W k with
            | false => rfl
            | true => rw [hW k e] at hk1; cases hk1
          cases e : D k with
          | true => exact hgo i hi hf _ ((hD.up_in e).trans (Sub.upr D i))
          | false => exact hgo k hk ((fr_iff W D k).2 ⟨hkW, e⟩) _ (hD.up k)
        · have hw := hgo i hi hf D' (hD.trans (Sub.upr D i))
          rcases (wins_w_iff l m W' D').1 hw with hw | ⟨j, hj, hfj, _⟩
          · exact (wins_d_iff l m W' D').2 (.inl hw)
          · exact (hex ⟨j, hj, hfj⟩).elim
    · rcases (wins_w_iff l m W D).1 h with h | ⟨i, hi, hf, hw⟩
      · exact (wins_w_iff l m W' D').2 (.inl (hasL_sub hW h))
      · have hc := cnt_upW hi hf
        obtain ⟨hi1, hi2⟩ := (fr_iff W D i).1 hf
        cases e : W' i with
        | false =>
          have hiD : D' i = false := by
            cases e' : D' i with
            | false => rfl
            | true => rw [hD i e'] at hi2; cases hi2
          exact (wins_w_iff l m W' D').2 (.inr ⟨i, hi, (fr_iff W' D' i).2 ⟨e, hiD⟩, ih (up W i) D (up W' i) D' false (by omega) (hW.up i) hD hw⟩)
        | true =>
          have hsub : Sub (up W i) W' := hW.up_in e
          rcases (wins_d_iff l m (up W i) D).1 hw with hw | ⟨⟨j, hj, hfj⟩, hall⟩
          · exact (wins_w_iff l m W' D').2 (.inl (hasL_sub hsub hw))
          · exact ih (up W i) (up D j) W' D' true (by have := cnt_upD hj hfj; omega) hsub (hD.trans (Sub.upr D j)) (hall j hj hfj)
theorem wins_mono {l : List Int} {m : Nat} {W D W' D' : Nat → Bool} {nx : Bool} (hW : Sub W W') (hD : Sub D' D) (h : wins l m W D nx = true) : wins l m W' D' nx = true :=
  wins_mono_n l m _ W D W' D' nx (Nat.le_refl _) hW hD h
theorem wins_tempo {l : List Int} {m : Nat} {W D : Nat → Bool} (h : wins l m W D false = true) : wins l m W D true = true := by
  rcases (wins_d_iff l m W D).1 h with h | ⟨⟨i, hi, hf⟩, hall⟩
  · exact (wins_w_iff l m W D).2 (.inl h)
  · exact wins_mono (Sub.refl W) (Sub.upr D i) (hall i hi hf)

/-! ### a position with a spot more -/
theorem bt_nums (xs : List Int) (j : Nat) (hj : j < xs.length) (h0 : 0 ≤ xs.getD j 0) (h1 : xs.getD j 0 < 256) : bt (strOfNums xs) j = xs.getD j 0 := by
  have hs : (strOfNums xs).size = xs.length := strOfNums_size xs
  have hg : xs.getD j 0 = xs[j] := by simp [List.getD_eq_getElem?_getD, List.getElem?_eq_getElem hj]
  rw [hg] at h0 h1 ⊢
  unfold bt
  have h : ((j : Int)).toNat < (strOfNums xs).size := by rw [hs]; simpa using hj
  rw [dif_pos h]
  have : (strOfNums xs)[((j : Int)).toNat]'h = UInt8.ofNat (xs[j]).toNat := by
    show (strOfNums xs).data[((j : Int)).toNat] = _
    simp [strOfNums]
  rw [this]
  simp
  omega
theorem bytes_getD (s : ByteArray) (j : Nat) : (bytesOf s).getD j 0 = bt s j := by
  have := rd_bytesOf s j
  unfold rd at this
  simpa using this
theorem placedS_size (s : ByteArray) (i c : Int) : (placedS s i c).size = s.size := by
  unfold placedS
  split <;> rw [strOfNums_size] <;> simp [bytesOf_length]
theorem placedS_bt (s : ByteArray) (i c : Int) (j : Nat) (hj : j < s.size) (h0 : 0 ≤ c) (h1 : c < 256) : bt (placedS s i c) j = if (j : Int) = i then c else bt s j := by
  have hb := bt_range s j
  unfold placedS
  by_cases hi : 0 ≤ i ∧ i < s.size
  · rw [if_pos hi]
    have hlen : j < ((bytesOf s).set i.toNat c).length := by simpa [bytesOf_length] using hj
    by_cases e : (j : Int) = i
    · have he : i.toNat = j := by omega
      rw [if_pos e, bt_nums _ _ hlen] <;> rw [he] <;> simp [List.getD_eq_getElem?_getD, bytesOf_length, hj] <;> omega
    · have he : i.toNat ≠ j := by omega
      have hg : ((bytesOf s).set i.toNat c).getD j 0 = bt s j := by
        rw [← bytes_getD]
        simp [List.getD_eq_getElem?_getD, List.getElem?_set_ne he]
      rw [if_neg e, bt_nums _ _ hlen] <;> rw [hg] <;> omega
  · rw [if_neg hi]
    have e : ¬ (j : Int) = i := by omega
    rw [if_neg e, bt_nums _ _ (by simpa [bytesOf_length] using hj)] <;> rw [bytes_getD] <;> omega
theorem okP_iff {m : Int} {l : List Int} {s : ByteArray} : okP m l s = 0 ↔ okF m l = 0 ∧ (s.size : Int) = m ∧ ∀ i, i < s.size → okC (bt s i) = true := by
  unfold okP
  constructor
  · intro h
    by_cases h1 : okF m l ≠ 0
    · rw [if_pos h1] at h; exact absurd h h1
    · rw [if_neg h1] at h
      by_cases h2 : (s.size : Int) ≠ m
      · rw [if_pos h2] at h; cases h
      · rw [if_neg h2] at h
        refine ⟨by simpa using h1, by simpa using h2, fun i hi => ?_⟩
        by_cases h3 : (List.range s.size).all (fun i => okC (bt s i)) = true
        · exact List.all_eq_true.1 h3 i (List.mem_range.2 hi)
        · rw [if_neg h3] at h; cases h
  · rintro ⟨h1, h2, h3⟩
    rw [if_neg (by simpa using h1), if_neg (by simpa using h2), if_pos (List.all_eq_true.2 fun i hi => h3 i (List.mem_range.1 hi))]
theorem okP_placed {m : Int} {l : List Int} {s : ByteArray} (h : okP m l s = 0) (i c : Int) (hc : okC c = true) (h0 : 0 ≤ c) (h1 : c < 256) : okP m l (placedS s i c) = 0 := by
  obtain ⟨hF, hm, ha⟩ := okP_iff.1 h
  refine okP_iff.2 ⟨hF, by rw [placedS_size]; exact hm, fun j hj => ?_⟩
  rw [placedS_size] at hj
  rw [placedS_bt s i c j hj h0 h1]
  split
  · exact hc
  · exact ha j hj
theorem okA_w {m : Int} {l : List Int} {s : ByteArray} (h : okP m l s = 0) : okA m l s sW = 0 := by
  unfold okA
  rw [if_neg (by simpa using h), if_pos (by decide +kernel)]
theorem okA_d {m : Int} {l : List Int} {s : ByteArray} (h : okP m l s = 0) : okA m l s sD = 0 := by
  unfold okA
  rw [if_neg (by simpa using h), if_neg (by decide +kernel), if_pos (by decide +kernel)]
theorem okA_let {m : Int} {l : List Int} {s : ByteArray} (h : okP m l s = 0) (b : Bool) : okA m l s (letS b) = 0 := by
  cases b
  · exact okA_d h
  · exact okA_w h
theorem nxW_let (b : Bool) : nxW (letS b) = some b := by cases b <;> decide +kernel
theorem winner_let {m : Int} {l : List Int} {s : ByteArray} (h : okP m l s = 0) (b : Bool) : ambush_Winner.f m l s (letS b) = some (letS (winS l s b), 0) := by
  unfold ambush_Winner.f
  rw [if_pos (okA_let h b), nxW_let]
  rfl
theorem winS_placed {l : List Int} {s : ByteArray} {i : Int} {nx : Bool} (h : winS l s nx = true) : winS l (placedS s i 119) nx = true := by
  unfold winS at h ⊢
  rw [placedS_size]
  refine wins_mono ?_ ?_ h
  · intro j hj
    rw [msk_tb] at hj ⊢
    simp only [Bool.and_eq_true, decide_eq_true_eq] at hj ⊢
    refine ⟨hj.1, ?_⟩
    rw [placedS_bt s i 119 j hj.1 (by decide) (by decide)]
    split
    · rfl
    · exact hj.2
  · intro j hj
    rw [msk_tb] at hj ⊢
    simp only [Bool.and_eq_true, decide_eq_true_eq] at hj ⊢
    refine ⟨hj.1, ?_⟩
    have := hj.2
    rw [placedS_bt s i 119 j hj.1 (by decide) (by decide)] at this
    split at this
    · cases this
    · exact this
theorem winS_tempo {l : List Int} {s : ByteArray} (h : winS l s false = true) : winS l s true = true := wins_tempo h

/-- The free spots below i. -/
def freeC (s : ByteArray) : Nat → Nat
  | 0 => 0
  | i + 1 => if bt s i = 46 then freeC s i + 1 else freeC s i
theorem freeC_le (s : ByteArray) : ∀ i, freeC s i ≤ i
  | 0 => Nat.le_refl _
  | i + 1 => by
    have := freeC_le s i
    rw [freeC]; split <;> omega
end Go.Proofs.Ytbjpjjokamaliaa.A

/- Positions that are written: what a spot more does to the sets and to the number of free spots. -/
namespace Go.Proofs.Ytbjpjjokamaliaa.A
open Go.RowKit Go.Proofs.YtbjpjjokamaliaaW.PrintWords Go.Proofs.YtbjpjjokamaliaaW.PrintMore

theorem msk_apart (s : ByteArray) (n k : Nat) (h : (msk 119 s n).testBit k = true) : (msk 100 s n).testBit k = false := by
  rw [msk_tb] at h ⊢
  simp only [Bool.and_eq_true, decide_eq_true_eq] at h
  simp [h.2]
theorem fr_bt {m : Int} {l : List Int} {s : ByteArray} (h : okP m l s = 0) {i : Nat} (hi : i < s.size) : fr (msk 119 s s.size).testBit (msk 100 s s.size).testBit i = true ↔ bt s i = 46 := by
  have ho := (okP_iff.1 h).2.2 i hi
  rw [fr_iff, msk_tb, msk_tb]
  simp only [hi, decide_true, Bool.true_and, decide_eq_false_iff_not]
  constructor
  · rintro ⟨h1, h2⟩
    simp [okC, h1, h2] at ho
    exact ho
  · intro e
    rw [e]; exact ⟨by decide, by decide⟩
theorem msk_put {s : ByteArray} {i : Nat} {c : Int} (hi : i < s.size) (h0 : 0 ≤ c) (h1 : c < 256) : msk c (placedS s i c) s.size = msk c s s.size ||| 2 ^ i := by
  refine Nat.eq_of_testBit_eq fun k => ?_
  rw [Nat.testBit_or, tb_two, msk_tb, msk_tb]
  by_cases hk : k < s.size
  · rw [placedS_bt s i c k hk h0 h1]
    by_cases e : k = i
    · subst e; simp [hk]
    · have e' : ¬ (k : Int) = i := by omega
      rw [if_neg e']
      simp [hk, e]
  · have e : k ≠ i := by omega
    simp [hk, e]
theorem msk_keep {s : ByteArray} {i : Nat} {c c' : Int} (hi : i < s.size) (h46 : bt s i = 46) (h0 : 0 ≤ c) (h1 : c < 256) (hc : c' ≠ 46) (hcc : c ≠ c') : msk c' (placedS s i c) s.size = msk c' s s.size := by
  refine Nat.eq_of_testBit_eq fun k => ?_
  rw [msk_tb, msk_tb]
  by_cases hk : k < s.size
  · rw [placedS_bt s i c k hk h0 h1]
    by_cases e : k = i
    · subst e
      rw [if_pos rfl, h46]
      simp [hcc, Ne.symm hc]
    · have e' : ¬ (k : Int) = i := by omega
      rw [if_neg e']
  · simp [hk]
theorem freeC_placed {s : ByteArray} {i : Nat} {c : Int} (hi : i < s.size) (h46 : bt s i = 46) (h0 : 0 ≤ c) (h1 : c < 256) (hc : c ≠ 46) : ∀ k, k ≤ s.size → freeC (placedS s i c) k + (if i < k then 1 else 0) = freeC s k
  | 0, _ => by simp [freeC]
  | k + 1, hk => by
    have ih := freeC_placed hi h46 h0 h1 hc k (by omega)
    rw [freeC, freeC, placedS_bt s i c k (by omega) h0 h1]
    by_cases e : k = i
    · subst e
      rw [if_pos rfl, if_neg hc, if_pos h46, if_pos (by omega)]
      rw [if_neg (by omega)] at ih
      omega
    · have e' : ¬ (k : Int) = i := by omega
      rw [if_neg e']
      have e2 : (if i < k + 1 then 1 else 0) = if i < k then 1 else 0 := by
        by_cases q : i < k
        · rw [if_pos q, if_pos (by omega)]
        · rw [if_neg q, if_neg (by omega)]
      rw [e2]
      by_cases e46 : bt s k = 46
      · rw [if_pos e46, if_pos e46]; omega
      · rw [if_neg e46, if_neg e46]; exact ih
theorem freeC_pos {s : ByteArray} : ∀ k, 0 < freeC s k → ∃ i, i < k ∧ bt s i = 46
  | 0, h => by simp [freeC] at h
  | k + 1, h => by
    rw [freeC] at h
    split at h
    · rename_i e; exact ⟨k, by omega, e⟩
    · obtain ⟨i, hi, e⟩ := freeC_pos k h
      exact ⟨i, by omega, e⟩
theorem freeC_mono {s : ByteArray} {i : Nat} : ∀ j, freeC s i ≤ freeC s (i + j)
  | 0 => Nat.le_refl _
  | j + 1 => by
    have := freeC_mono (s := s) (i := i) j
    rw [← Nat.add_assoc, freeC]
    split <;> omega
end Go.Proofs.Ytbjpjjokamaliaa.A

/- What the law package's own functions and the reference's small ones compute (plain). -/
namespace Go.Proofs.Ytbjpjjokamaliaa.PAmbushLines
open Go.Proofs.Ytbjpjjokamaliaa.A
open Go.RowKit Go.Proofs.YtbjpjjokamaliaaW.PrintWords Go.Proofs.YtbjpjjokamaliaaW.PrintLast

theorem few_eq (l : List Int) (s t : ByteArray) : drovewaylaw04_few.f l s t = some (decide ((l.length : Int) ≤ 40 ∧ (s.size : Int) ≤ 40 ∧ (t.size : Int) ≤ 40)) := by
  unfold drovewaylaw04_few.f
  by_cases h1 : (l.length : Int) ≤ 40
  · by_cases h2 : (s.size : Int) ≤ 40
    · rw [if_pos h1, if_pos h2]; simp [h1, h2]
    · rw [if_pos h1, if_neg h2]; simp [h2]
  · rw [if_neg h1]; simp [h1]
theorem shl_two {m : Nat} (h1 : 1 ≤ m) (h9 : m ≤ 9) : shl .i64 1 (m : Int) = 2 ^ m := by
  have : ∀ m : Nat, m < 10 → shl .i64 1 (m : Int) = (2 : Int) ^ m := by decide +kernel
  exact this m (by omega)
def bad (m : Nat) (x : Int) : Bool := decide (x < 1) || decide (2 ^ m ≤ x)
theorem Field_l0 {m : Nat} (h1 : 1 ≤ m) (h9 : m ≤ 9) (l : List Int) (h12 : l.length ≤ 12) : ∀ n i, l.length - i = n → i ≤ l.length →
    Ev (fun k => drovewayref04_Field.l0 k m l (i : Int)) (if ((l.drop i).any (bad m)) = true then 2 else 0) := by
  intro n
  induction n with
  | zero =>
    intro i hn hi
    have e : l.drop i = [] := List.drop_eq_nil_of_le (by omega)
    rw [e]
    refine Ev.step (f := fun _ => some 0) (fun k => ?_) (Ev.now _)
    rw [drovewayref04_Field.l0, if_neg (by omega)]
  | succ n ih =>
    intro i hn hi
    have hlt : i < l.length := by omega
    have ed : l.drop i = l[i] :: l.drop (i + 1) := List.drop_eq_getElem_cons hlt
    have er : rd l (i : Int) = l[i] := by simp [rd, List.getD_eq_getElem?_getD, hlt]
    have ew : wrap64 ((i : Int) + 1) = ((i + 1 : Nat) : Int) := by rw [wrap64_id] <;> omega
    rw [ed]
    have ih' := ih (i + 1) (by omega) (by omega)
    clear ed ih
    generalize l.drop (i + 1) = t at *
    have hun : ∀ k, drovewayref04_Field.l0 (k + 1) m l (i : Int) = if l[i] < 1 then some 2 else if l[i] ≥ 2 ^ m then some 2 else drovewayref04_Field.l0 k m l ((i + 1 : Nat) : Int) := by
      intro k
      rw [drovewayref04_Field.l0, if_pos (by omega), if_pos (by omega), er, shl_two h1 h9, ew, if_pos (show (0 : Int) ≤ m by omega)]
    by_cases b1 : l[i] < 1
    · refine Ev.step (f := fun _ => some 2) (fun k => by rw [hun, if_pos b1]) ?_
      have : ((l[i] :: t).any (bad m)) = true := by simp [List.any_cons, bad, b1]
      rw [if_pos this]
      exact Ev.now _
    · by_cases b2 : l[i] ≥ 2 ^ m
      · refine Ev.step (f := fun _ => some 2) (fun k => by rw [hun, if_neg b1, if_pos b2]) ?_
        have : ((l[i] :: t).any (bad m)) = true := by
          have b2' : 2 ^ m ≤ l[i] := b2
          simp [List.any_cons, bad, b2']
        rw [if_pos this]
        exact Ev.now _
      · refine Ev.step (fun k => by rw [hun, if_neg b1, if_neg b2]) ?_
        have : ((l[i] :: t).any (bad m)) = (t.any (bad m)) := by
          have b2' : ¬ 2 ^ m ≤ l[i] := b2
          simp [List.any_cons, bad, b1, b2']
        rw [this]
        exact ih'
theorem Field_ev (m : Int) (l : List Int) : Ev (fun k => drovewayref04_Field.f k m l) (okF m l) := by
  by_cases h1 : m < 1 ∨ 9 < m
  · have : okF m l = 2 := by unfold okF; rw [if_pos h1]
    rw [this]
    refine Ev.congr (f := fun k => drovewayref04_Field.j0 k m l true) (fun k => ?_) (Ev.step (f := fun _ => some 2) (fun k => ?_) (Ev.now _))
    · unfold drovewayref04_Field.f
      by_cases h : m < 1
      · rw [if_pos h]
      · rw [if_neg h]
        have : m > 9 := by omega
        simp [this]
    · rw [drovewayref04_Field.j0, if_pos rfl]
  · have hc : Ev (fun k => drovewayref04_Field.j0 k m l false) (okF m l) := by
      by_cases h12 : 12 < l.length
      · have : okF m l = 3 := by unfold okF; rw [if_neg h1, if_pos h12]
        rw [this]
        refine Ev.step (f := fun _ => some 3) (fun k => ?_) (Ev.now _)
        rw [drovewayref04_Field.j0, if_neg (by decide), if_pos (by omega)]
      · obtain ⟨n, rfl⟩ : ∃ n : Nat, m = n := ⟨m.toNat, by omega⟩
        have hb := Field_l0 (m := n) (by omega) (by omega) l (by omega) _ 0 rfl (by omega)
        have : okF (n : Int) l = if ((l.drop 0).any (bad n)) = true then 2 else 0 := by unfold okF; rw [if_neg h1, if_neg h12]; rfl
        rw [this]
        refine Ev.step (fun k => ?_) hb
        rw [drovewayref04_Field.j0, if_neg (by decide), if_neg (by omega)]
        rfl
    refine Ev.congr (fun k => ?_) hc
    unfold drovewayref04_Field.f
    rw [if_neg (by omega)]
    have : ¬ m > 9 := by omega
    simp [this]
theorem Placed_l0 {m : Nat} (h9 : m ≤ 9) (s : ByteArray) (hs : s.size = m) : ∀ n i (x y : Int), m - i = n → i ≤ m →
    ∃ r, Ev (fun k => drovewayref04_Placed.l0 k m s x y (i : Int)) r ∧ ((r.2.2 = 0 ∧ ∀ j, i ≤ j → j < m → okC (bt s j) = true) ∨ (r.2.2 = 5 ∧ ∃ j, i ≤ j ∧ j < m ∧ okC (bt s j) ≠ true)) := by
  intro n
  induction n with
  | zero =>
    intro i x y hn hi
    refine ⟨_, Ev.step (f := fun _ => some (x, y, 0)) (fun k => ?_) (Ev.now _), ?_⟩
    · rw [drovewayref04_Placed.l0, if_neg (by omega)]
    · exact .inl ⟨rfl, fun j h1 h2 => by omega⟩
  | succ n ih =>
    intro i x y hn hi
    have ew : wrap64 ((i : Int) + 1) = ((i + 1 : Nat) : Int) := by rw [wrap64_id] <;> omega
    have hsucc : ∀ e : Int, okC (bt s i) = true → ((e = 0 ∧ ∀ j, i + 1 ≤ j → j < m → okC (bt s j) = true) ∨ (e = 5 ∧ ∃ j, i + 1 ≤ j ∧ j < m ∧ okC (bt s j) ≠ true)) →
        ((e = 0 ∧ ∀ j, i ≤ j → j < m → okC (bt s j) = true) ∨ (e = 5 ∧ ∃ j, i ≤ j ∧ j < m ∧ okC (bt s j) ≠ true)) := by
      intro e ho h
      rcases h with ⟨h0, h⟩ | ⟨h0, j, h1, h2, h3⟩
      · refine .inl ⟨h0, fun j h1 h2 => ?_⟩
        by_cases e : i = j
        · subst e; exact ho
        · exact h j (by omega) h2
      · exact .inr ⟨h0, j, by omega, h2, h3⟩
    by_cases e1 : bt s i = 119
    · obtain ⟨r, hr, hr2⟩ := ih (i + 1) (wrap64 (x + (shl .i64 1 (i : Int)))) y (by omega) (by omega)
      refine ⟨r, Ev.step (fun k => ?_) hr, ?_⟩
      · rw [drovewayref04_Placed.l0, if_pos (by omega), if_pos (by omega), if_pos (by omega), if_pos e1, ew]
      · exact hsucc _ (by rw [e1]; rfl) hr2
    · by_cases e2 : bt s i = 100
      · obtain ⟨r, hr, hr2⟩ := ih (i + 1) x (wrap64 (y + (shl .i64 1 (i : Int)))) (by omega) (by omega)
        refine ⟨r, Ev.step (fun k => ?_) hr, ?_⟩
        · rw [drovewayref04_Placed.l0, if_pos (by omega), if_pos (by omega), if_pos (by omega), if_neg e1, if_pos e2, ew]
        · exact hsucc _ (by rw [e2]; rfl) hr2
      · by_cases e3 : bt s i = 46
        · obtain ⟨r, hr, hr2⟩ := ih (i + 1) x y (by omega) (by omega)
          refine ⟨r, Ev.step (fun k => ?_) hr, ?_⟩
          · rw [drovewayref04_Placed.l0, if_pos (by omega), if_pos (by omega), if_pos (by omega), if_neg e1, if_neg e2, if_pos e3, ew]
          · exact hsucc _ (by rw [e3]; rfl) hr2
        · refine ⟨_, Ev.step (f := fun _ => some (0, 0, 5)) (fun k => ?_) (Ev.now _), ?_⟩
          · rw [drovewayref04_Placed.l0, if_pos (by omega), if_pos (by omega), if_pos (by omega), if_neg e1, if_neg e2, if_neg e3]
          · exact .inr ⟨rfl, i, Nat.le_refl _, by omega, by simp [okC, e1, e2, e3]⟩
theorem Placed_ev (m : Int) (l : List Int) (s : ByteArray) : ∃ r, Ev (fun k => drovewayref04_Placed.f k m l s) r ∧ r.2.2 = okP m l s := by
  by_cases h0 : okF m l = 0
  · by_cases hs : (s.size : Int) = m
    · obtain ⟨h1, h9⟩ := okF_m h0
      obtain ⟨r, hr, hr2⟩ := Placed_l0 (m := s.size) (by omega) s rfl _ 0 0 0 rfl (by omega)
      refine ⟨r, Ev.bind (Field_ev m l) ?_, ?_⟩
      · rw [h0]
        refine Ev.congr (fun k => ?_) hr
        show (if (0 : Int) = 0 then _ else _) = _
        rw [if_pos rfl, if_pos hs, hs]
        rfl
      · unfold okP
        rw [if_neg (by simpa using h0), if_neg (by simpa using hs)]
        rcases hr2 with ⟨h, ha⟩ | ⟨h, j, _, hj, hb⟩
        · rw [h, if_pos (List.all_eq_true.2 fun j hj => ha j (Nat.zero_le _) (List.mem_range.1 hj))]
        · rw [h, if_neg]
          intro hall
          exact hb (List.all_eq_true.1 hall j (List.mem_range.2 hj))
    · refine ⟨(0, 0, 5), Ev.bind (Field_ev m l) ?_, ?_⟩
      · rw [h0]
        refine Ev.congr (f := fun _ => some (0, 0, 5)) (fun k => ?_) (Ev.now _)
        show (if (0 : Int) = 0 then _ else _) = _
        rw [if_pos rfl, if_neg hs]
      · unfold okP
        rw [if_neg (by simpa using h0), if_pos hs]
  · refine ⟨(0, 0, okF m l), Ev.bind (Field_ev m l) ?_, ?_⟩
    · refine Ev.congr (f := fun _ => some (0, 0, okF m l)) (fun k => ?_) (Ev.now _)
      show (if okF m l = 0 then _ else _) = _
      rw [if_neg h0]
    · unfold okP
      rw [if_pos h0]
end Go.Proofs.Ytbjpjjokamaliaa.PAmbushLines

/- Lists of whole numbers: ascending ones with the same numbers are one; what compact does with a sorted list. -/
namespace Go.Proofs.Ytbjpjjokamaliaa.A
open Go.RowKit Go.Proofs.YtbjpjjokamaliaaW.PrintWords

theorem asc_ext : ∀ {l1 l2 : List Int}, l1.Pairwise (· < ·) → l2.Pairwise (· < ·) → (∀ x, x ∈ l1 ↔ x ∈ l2) → l1 = l2
  | [], [], _, _, _ => rfl
  | [], b :: l2, _, _, h => by have := (h b).2 (by simp); cases this
  | a :: l1, [], _, _, h => by have := (h a).1 (by simp); cases this
  | a :: l1, b :: l2, h1, h2, h => by
    rw [List.pairwise_cons] at h1 h2
    have hab : a = b := by
      rcases List.mem_cons.1 ((h a).1 (by simp)) with e | ha
      · exact e
      rcases List.mem_cons.1 ((h b).2 (by simp)) with e | hb
      · exact e.symm
      have := h2.1 a ha
      have := h1.1 b hb
      omega
    subst hab
    have : l1 = l2 := asc_ext h1.2 h2.2 fun x => by
      constructor
      · intro hx
        rcases List.mem_cons.1 ((h x).1 (List.mem_cons_of_mem _ hx)) with e | hq
        · have := h1.1 x hx; omega
        · exact hq
      · intro hx
        rcases List.mem_cons.1 ((h x).2 (List.mem_cons_of_mem _ hx)) with e | hq
        · have := h2.1 x hx; omega
        · exact hq
    rw [this]

theorem sortI_asc (l : List Int) : (sortI l).Pairwise (· ≤ ·) := by
  have := List.pairwise_mergeSort (le := fun x y : Int => decide (x ≤ y)) (fun a b c h1 h2 => by simp at *; omega) (fun a b => by simp; omega) l
  exact this.imp (fun h => by simpa using h)
theorem get_arr (l : List Int) (i : Nat) (h : i < l.length) : l.toArray[i]! = l[i] := by
  rw [getElem!_pos l.toArray i (by simpa using h)]; simp
theorem compact_asc {l : List Int} (h : l.Pairwise (· ≤ ·)) : (Lib.compact l).Pairwise (· < ·) := by
  unfold Lib.compact Lib.compactUpTo
  rw [List.pairwise_map, List.pairwise_filter]
  have hr := List.pairwise_lt_range (n := l.length)
  refine List.Pairwise.imp_of_mem (fun {i j} hi hj hij _ hk => ?_) hr
  have hj' := List.mem_range.1 hj
  have hi' := List.mem_range.1 hi
  have hk' : j = 0 ∨ l.toArray[j]! ≠ l.toArray[j - 1]! := by simpa [Lib.keeps] using hk
  have hne := hk'.resolve_left (by omega)
  rw [get_arr l j hj', get_arr l (j - 1) (by omega)] at hne
  rw [get_arr l i hi', get_arr l j hj']
  rw [List.pairwise_iff_getElem] at h
  have h1 := h (j - 1) j (by omega) hj' (by omega)
  by_cases e : i = j - 1
  · subst e; omega
  · have h2 := h i (j - 1) hi' (by omega) (by omega)
    omega
theorem compact_mem (l : List Int) (x : Int) : x ∈ Lib.compact l ↔ x ∈ l := by
  refine ⟨mem_compact, fun h => ?_⟩
  have key : ∀ i, (h : i < l.length) → l[i] ∈ Lib.compact l := by
    intro i
    induction i with
    | zero =>
      intro h
      unfold Lib.compact Lib.compactUpTo
      exact List.mem_map.2 ⟨0, List.mem_filter.2 ⟨List.mem_range.2 h, by simp [Lib.keeps]⟩, get_arr l 0 h⟩
    | succ i ih =>
      intro h
      by_cases e : l[i + 1] = l[i]
      · rw [e]; exact ih (by omega)
      · unfold Lib.compact Lib.compactUpTo
        refine List.mem_map.2 ⟨i + 1, List.mem_filter.2 ⟨List.mem_range.2 h, ?_⟩, get_arr l (i + 1) h⟩
        unfold Lib.keeps
        rw [decide_eq_true_iff, Nat.add_sub_cancel, get_arr l (i + 1) h, get_arr l i (by omega)]
        exact .inr e
  obtain ⟨i, hi, rfl⟩ := List.getElem_of_mem h
  exact key i hi
theorem leastL_asc (l : List Int) : (leastL l).Pairwise (· < ·) := (compact_asc (sortI_asc l)).filter _
theorem leastL_mem (l : List Int) (x : Int) : x ∈ leastL l ↔ x ∈ l ∧ holdsOther l x = false := by
  unfold leastL
  rw [List.mem_filter, compact_mem, mem_sortI]
  simp
end Go.Proofs.Ytbjpjjokamaliaa.A

/- The game with other lines: the least ones, the lines backwards, a line more. -/
namespace Go.Proofs.Ytbjpjjokamaliaa.A
open Go.RowKit Go.Proofs.YtbjpjjokamaliaaW.PrintWords

theorem win_more {l l' : List Int} {m : Nat} (h : ∀ W, hasL l m W = true → hasL l' m W = true) : ∀ n W D nx, win l m n W D nx = true → win l' m n W D nx = true := by
  intro n
  induction n with
  | zero => intro W D nx hw; exact h W hw
  | succ n ih =>
    intro W D nx hw
    cases nx
    · rw [win, Bool.or_eq_true, Bool.and_eq_true, List.all_eq_true] at hw ⊢
      rcases hw with hw | ⟨h1, h2⟩
      · exact .inl (h W hw)
      · refine .inr ⟨h1, fun i hi => ?_⟩
        have := h2 i hi
        rw [Bool.or_eq_true] at this ⊢
        exact this.imp id (ih _ _ _)
    · rw [win, Bool.or_eq_true, List.any_eq_true] at hw ⊢
      rcases hw with hw | ⟨i, hi, h2⟩
      · exact .inl (h W hw)
      · rw [Bool.and_eq_true] at h2
        exact .inr ⟨i, hi, by rw [Bool.and_eq_true]; exact ⟨h2.1, ih _ _ _ h2.2⟩⟩
theorem wins_more {l l' : List Int} {m : Nat} (h : ∀ W, hasL l m W = true → hasL l' m W = true) {W D : Nat → Bool} {nx : Bool} (hw : wins l m W D nx = true) : wins l' m W D nx = true := win_more h _ _ _ _ hw
theorem winS_more {l l' : List Int} {s : ByteArray} (h : ∀ W, hasL l s.size W = true → hasL l' s.size W = true) {nx : Bool} (hw : winS l s nx = true) : winS l' s nx = true := wins_more h hw
theorem winS_same {l l' : List Int} {s : ByteArray} (h : ∀ W, hasL l s.size W = true ↔ hasL l' s.size W = true) (nx : Bool) : winS l s nx = winS l' s nx := by
  rw [Bool.eq_iff_iff]
  exact ⟨winS_more fun W => (h W).1, winS_more fun W => (h W).2⟩
theorem hasL_mem {l l' : List Int} {m : Nat} (h : ∀ x, x ∈ l → x ∈ l') (W : Nat → Bool) (hw : hasL l m W = true) : hasL l' m W = true := by
  unfold hasL at *
  rw [List.any_eq_true] at *
  obtain ⟨x, hx, hh⟩ := hw
  exact ⟨x, h x hx, hh⟩
theorem inside_iff (x y : Int) : inside x y = true ↔ y ≠ x ∧ less y.toNat x.toNat = 0 := by
  unfold inside
  rw [Bool.and_eq_true, bne_iff_ne, decide_eq_true_iff]
theorem less_zero_le {a b : Nat} (h : less a b = 0) : a ≤ b ∧ ∀ i, a.testBit i = true → b.testBit i = true := by
  have key : ∀ i, a.testBit i = true → b.testBit i = true := by
    intro i hi
    have := congrArg (fun x => x.testBit i) h
    simp only [tb_less, Nat.zero_testBit, hi, Bool.true_and] at this
    simpa using this
  refine ⟨?_, key⟩
  have e : a &&& b = a := by
    apply Nat.eq_of_testBit_eq
    intro i
    rw [Nat.testBit_and]
    cases hi : a.testBit i with
    | false => rfl
    | true => rw [key i hi]; rfl
  rw [← e]
  exact Nat.and_le_right
theorem least_under {m : Nat} {l : List Int} (hl : okL m l) : ∀ n (x : Int), x.toNat ≤ n → x ∈ l → ∃ y, y ∈ leastL l ∧ ∀ i, y.toNat.testBit i = true → x.toNat.testBit i = true := by
  intro n
  induction n with
  | zero =>
    intro x hn hx
    have := hl x hx
    omega
  | succ n ih =>
    intro x hn hx
    cases hh : holdsOther l x with
    | false => exact ⟨x, (leastL_mem l x).2 ⟨hx, hh⟩, fun _ h => h⟩
    | true =>
      unfold holdsOther at hh
      rw [List.any_eq_true] at hh
      obtain ⟨y, hy, h2⟩ := hh
      rw [inside_iff] at h2
      obtain ⟨hle, hb⟩ := less_zero_le h2.2
      have hx1 := hl x hx
      have hy1 := hl y hy
      obtain ⟨z, hz, hzb⟩ := ih y (by have := h2.1; omega) hy
      exact ⟨z, hz, fun i hi => hb i (hzb i hi)⟩
theorem hasL_least {m : Nat} {l : List Int} (hl : okL m l) (W : Nat → Bool) : hasL l m W = true ↔ hasL (leastL l) m W = true := by
  constructor
  · intro h
    unfold hasL at *
    rw [List.any_eq_true] at *
    obtain ⟨x, hx, hw⟩ := h
    obtain ⟨y, hy, hb⟩ := least_under hl _ x (Nat.le_refl _) hx
    refine ⟨y, hy, ?_⟩
    unfold inL at *
    rw [List.all_eq_true] at *
    intro i hi
    have := hw i hi
    cases hyi : y.toNat.testBit i with
    | false => rfl
    | true => rw [hb i hyi] at this; simpa using this
  · exact fun h => hasL_mem (fun x hx => ((leastL_mem l x).1 hx).1) W h
theorem okF_of {m : Nat} {l l' : List Int} (h : okF m l = 0) (hlen : l'.length ≤ 12) (hm : ∀ x ∈ l', x ∈ l) : okF m l' = 0 := by
  have h1 := okF_m h
  have hl : okL m l := okF_L h
  unfold okF
  rw [if_neg (by omega), if_neg (by omega), if_neg]
  rw [List.any_eq_true]
  rintro ⟨x, hx, hh⟩
  have := hl x (hm x hx)
  simp only [Int.toNat_natCast] at hh
  rw [Bool.or_eq_true, decide_eq_true_iff, decide_eq_true_iff] at hh
  omega
theorem leastL_len (l : List Int) : (leastL l).length ≤ l.length := by
  have h1 := List.length_filter_le (fun x => !holdsOther l x) (Lib.compact (sortI l))
  have h2 := compact_len (sortI l)
  rw [sortI_len] at h2
  unfold leastL
  omega
theorem okP_other {m : Int} {l l' : List Int} {s : ByteArray} (h : okP m l s = 0) (h' : okF m l' = 0) : okP m l' s = 0 := by
  rw [okP_iff] at h ⊢
  exact ⟨h', h.2⟩
end Go.Proofs.Ytbjpjjokamaliaa.A

/- AmbushLines, plain: the winner is the same with the least lines and with the lines backwards, and a line more does not help the dogs. -/
namespace Go.Proofs.Ytbjpjjokamaliaa.Pure
open Go.Proofs.Ytbjpjjokamaliaa.A Go.Proofs.Ytbjpjjokamaliaa.B
open Go.RowKit Go.Proofs.Ytbjpjjokamaliaa.PAmbushLines Go.Proofs.YtbjpjjokamaliaaW.PrintWords Go.Proofs.YtbjpjjokamaliaaW.PrintLast

theorem letS_w (b : Bool) : (letS b).toList = ([119] : List UInt8) ↔ b = true := by cases b <;> decide +kernel
theorem lines_j2 {m : Int} {l : List Int} {s : ByteArray} (h0 : okP m l s = 0) (hl : l.length ≤ 12) (x : Int) (nx : Bool) :
    Ev (fun k => drovewaylaw04_AmbushLines.j2 k m l s x (letS nx) (letS (winS l s nx)) false) true := by
  have hend : Ev (fun k => (drovewayref04_Field.f k m (l ++ [x])).bind fun t133 => (if t133 = 0 then ((ambush_Winner.f m (l ++ [x]) s (letS nx)).bind fun bt134 => (if bt134.2 = 0 then (if (letS (winS l s nx)).toList = ([119] : List UInt8) then (if bt134.1.toList = ([119] : List UInt8) then ((drovewaylaw04_alive.f).bind fun t136 => (some t136)) else (some false)) else ((drovewaylaw04_alive.f).bind fun t137 => (some t137))) else (some false))) else ((drovewaylaw04_alive.f).bind fun t138 => (some t138)))) true := by
    refine Ev.bind (f := fun _ t133 => (if t133 = 0 then ((ambush_Winner.f m (l ++ [x]) s (letS nx)).bind fun bt134 => (if bt134.2 = 0 then (if (letS (winS l s nx)).toList = ([119] : List UInt8) then (if bt134.1.toList = ([119] : List UInt8) then ((drovewaylaw04_alive.f).bind fun t136 => (some t136)) else (some false)) else ((drovewaylaw04_alive.f).bind fun t137 => (some t137))) else (some false))) else ((drovewaylaw04_alive.f).bind fun t138 => (some t138)))) (PAmbushLines.Field_ev m (l ++ [x])) ?_
    by_cases hF : okF m (l ++ [x]) = 0
    · have hw := winner_let (okP_other h0 hF) nx
      refine Ev.congr (fun k => ?_) (Ev.now true)
      rw [if_pos hF, hw]
      simp only [Option.bind_some, if_true]
      by_cases h1 : winS l s nx = true
      · have h2 : winS (l ++ [x]) s nx = true := winS_more (fun W hW => hasL_mem (fun y hy => List.mem_append_left _ hy) W hW) h1
        rw [if_pos ((letS_w _).2 h1), if_pos ((letS_w _).2 h2)]
        rfl
      · rw [if_neg (fun e => h1 ((letS_w _).1 e))]
        rfl
    · exact Ev.congr (fun k => by rw [if_neg hF]; rfl) (Ev.now true)
  refine Ev.step (fun k => ?_) hend
  rw [drovewaylaw04_AmbushLines.j2, if_neg (by decide)]
  simp only [Option.bind_some, List.nil_append, List.length_nil, Nat.zero_add]
  rw [if_pos (by omega), if_pos (by omega)]

theorem lines_end {m : Int} {l : List Int} {s : ByteArray} (h0 : okP m l s = 0) (x : Int) (nx : Bool) :
    Ev (fun k => drovewaylaw04_AmbushLines.l0 k m l s x (letS nx) l.reverse (-1)) true := by
  obtain ⟨hF, hs, _⟩ := okP_iff.1 h0
  subst hs
  have hl := okF_L hF
  have h12 := okF_len hF
  have hFr : okF (s.size : Int) l.reverse = 0 := okF_of hF (by rw [List.length_reverse]; exact h12) (fun y hy => List.mem_reverse.1 hy)
  have hFl : okF (s.size : Int) (leastL l) = 0 := okF_of hF (by have := leastL_len l; omega) (fun y hy => ((leastL_mem l y).1 hy).1)
  have hL : ambush_Least.f (s.size : Int) l = some (leastL l, 0) := by unfold ambush_Least.f; rw [if_pos hF]
  have e1 : winS (leastL l) s nx = winS l s nx := (winS_same (fun W => hasL_least hl W) nx).symm
  have e2 : winS l.reverse s nx = winS l s nx := winS_same (fun W => ⟨hasL_mem (fun y hy => List.mem_reverse.1 hy) W, hasL_mem (fun y hy => List.mem_reverse.2 hy) W⟩) nx
  refine Ev.step (fun k => ?_) (lines_j2 h0 h12 x nx)
  rw [drovewaylaw04_AmbushLines.l0, if_neg (by decide), hL, winner_let h0 nx]
  simp only [Option.bind_some]
  rw [winner_let (okP_other h0 hFl) nx, winner_let (okP_other h0 hFr) nx, e1, e2]
  simp only [Option.bind_some, if_true]
  rw [show ((letS (winS l s nx)).toList != (letS (winS l s nx)).toList) = false from bne_self_eq_false _]
theorem lines_l0 {m : Int} {l : List Int} {s : ByteArray} (h0 : okP m l s = 0) (x : Int) (nx : Bool) : ∀ n (b : List Int), n ≤ l.length → b = (l.drop n).reverse →
    Ev (fun k => drovewaylaw04_AmbushLines.l0 k m l s x (letS nx) b ((n : Int) - 1)) true := by
  have h12 := okF_len (okP_iff.1 h0).1
  intro n
  induction n with
  | zero =>
    intro b _ hb
    rw [hb, List.drop_zero]
    exact lines_end h0 x nx
  | succ n ih =>
    intro b hn hb
    have hlt : n < l.length := by omega
    have ed : l.drop n = l[n] :: l.drop (n + 1) := List.drop_eq_getElem_cons hlt
    have er : rd l (n : Int) = l[n] := by simp [rd, List.getD_eq_getElem?_getD, hlt]
    have ew : wrap64 ((n : Int) - 1) = (n : Int) - 1 := by rw [wrap64_id] <;> omega
    have e1 : (((n + 1 : Nat) : Int) - 1) = (n : Int) := by omega
    refine Ev.step (fun k => ?_) (ih (b ++ [l[n]]) (by omega) (by rw [ed, List.reverse_cons, hb]))
    have hbl : b.length < 17592186044416 := by rw [hb, List.length_reverse, List.length_drop]; omega
    rw [e1, drovewaylaw04_AmbushLines.l0, if_pos (by omega), if_pos (by omega), if_pos (by omega), if_pos hbl, er, ew]
theorem lines_j0 {m : Int} {l : List Int} {s : ByteArray} (h0 : okP m l s = 0) (x : Int) (nx : Bool) : Ev (fun k => drovewaylaw04_AmbushLines.j0 k m l s x (letS nx)) true := by
  have h12 := okF_len (okP_iff.1 h0).1
  have ew : wrap64 ((l.length : Int) - 1) = (l.length : Int) - 1 := by rw [wrap64_id] <;> omega
  refine Ev.step (fun k => ?_) (lines_l0 h0 x nx l.length [] (Nat.le_refl _) (by simp))
  rw [drovewaylaw04_AmbushLines.j0, ew]

/-- AmbushLines, plain. -/
theorem AmbushLines : drovewaylaw04_AmbushLines.Pure := by
  intro m l s nx x _ _ _ _ hs _
  refine Ev.rounds (g := fun k => drovewaylaw04_AmbushLines.f k m l s nx x) ?_
  unfold drovewaylaw04_AmbushLines.f
  rw [PAmbushLines.few_eq]
  simp only [Option.bind_some]
  by_cases hf : ((l.length : Int) ≤ 40 ∧ (s.size : Int) ≤ 40 ∧ ((⟨#[]⟩ : ByteArray).size : Int) ≤ 40)
  · simp only [decide_eq_true hf, if_true]
    obtain ⟨r, hr, hr2⟩ := PAmbushLines.Placed_ev m l s
    refine Ev.bind hr ?_
    rw [hr2]
    by_cases h0 : okP m l s = 0
    · have hh := fun nx => lines_j0 h0 x nx
      cases nx
      · exact Ev.congr (fun k => by rw [if_pos h0, if_neg (by decide)]; rfl) (hh false)
      · exact Ev.congr (fun k => by rw [if_pos h0, if_pos rfl]; rfl) (hh true)
    · exact Ev.congr (fun k => by rw [if_neg h0]; rfl) (Ev.now true)
  · simp only [decide_eq_false hf]
    exact Ev.congr (fun k => by rw [if_neg (by decide)]; rfl) (Ev.now true)
end Go.Proofs.Ytbjpjjokamaliaa.Pure

/- AmbushLines holds: its code returns true and leaves what it was given as it was. Conditions: those of the given statement, none besides. -/
-- Printed by hprint.py (this claim's own program, over the kit's print.py) out of the translation and contracts by hand. Not trusted: Lean checks it.
namespace Go.Proofs.Ytbjpjjokamaliaa.ambushLines
open Go.ChangeShapes Go.WideShapes Go.ChangeAt Go.RowKit
open Go.ChangeMaps (open_string shut_string)
set_option linter.unusedVariables false
theorem own : ownKnob Try.prog.godebug = none := by kernel_rfl
theorem laidOut : laidOutB Try.prog = true := by kernel_rfl
def IsRow (k : IntKind) (w : World) (a : Option Addr) (len cap : Nat) (zs : List Int) : Prop :=
  (a = none ∧ len = 0 ∧ cap = 0 ∧ zs = []) ∨
  ∃ x, a = some x ∧ len ≤ cap ∧ cap ≤ maxLen ∧ zs.length = cap ∧ (∀ i, i < zs.length → w.cell? (x.add i) = some (.int k (zs.getD i 0))) ∧ ∀ n ∈ zs, (Lit.int k n).wf = true
set_option maxRecDepth 100000 in
theorem lifted (os : Os) (started : os.Started) (H : Type) (enc : TypeId × Value → H) :
    ReturnsInHanded {} Try.checked os 9 .any (Rows.ambushLinesSpec.pre6 enc Try.prog Try.f9 Rows.ambushLinesRow.domain false) (Rows.ambushLinesSpec.post enc Try.prog Try.f9 false true false false) := by
  refine returnsInHanded_of_change_sized (C := Try.checked) own started (by kernel_rfl) Try.func9
    (ChangeSpec.witness6 (enc := enc) (C := Try.checked) false ⟨#[], #[.int .i64 0, .slice none 0 0, .string ByteArray.empty, .bool false, .int .i64 0], []⟩ 8 (by kernel_rfl) (by kernel_rfl) (by kernel_rfl) (by kernel_rfl)) ?_
  intro W base args ds gs before hval0 hW hcnd hsz0 _
  have hsz : (DataW.weightsEach Try.prog (Try.f9.params.toList ++ Rows.ambushLinesSpec.plain.varTypes Try.prog) (ds ++ gs)).all (· ≤ reachBytes) = true := hsz0
  have hval : ∀ (j : Nat) t v, Try.f9.params[j]? = some t → args[j]? = some v → Value.okWide Try.prog W .any base t v := hval0
  have hW' := hW
  obtain ⟨p, q, hA0, hV, rfl, hfz, hnd⟩ := hW
  have hA : DataW.TrodAll enc Try.prog W 0 (fun _ => true) true Try.f9.params.toList args.toList ds p := hA0
  rw [Try.params9] at hA hval hsz
  obtain ⟨v0, vs0, d0, ds0, p0, q0, hargs, rfl, rfl, h0, r0⟩ := trodAll_cons hA
  obtain ⟨v1, vs1, d1, ds1, p1, q1, rfl, rfl, rfl, h1, r1⟩ := trodAll_cons r0
  obtain ⟨v2, vs2, d2, ds2, p2, q2, rfl, rfl, rfl, h2, r2⟩ := trodAll_cons r1
  obtain ⟨v3, vs3, d3, ds3, p3, q3, rfl, rfl, rfl, h3, r3⟩ := trodAll_cons r2
  obtain ⟨v4, vs4, d4, ds4, p4, q4, rfl, rfl, rfl, h4, r4⟩ := trodAll_cons r3
  obtain ⟨rfl, rfl, rfl⟩ := trodAll_nil r4
  obtain rfl : args = #[v0, v1, v2, v3, v4] := by cases args; simp_all
  obtain ⟨rfl, rfl⟩ := trodVars_none hV
  obtain ⟨a0, rfl, rfl, rfl, w0⟩ := open_int Try.underlying3 (hval 0 3 v0 rfl rfl) h0
  obtain ⟨a1, len1, cap1, rfl⟩ := okWide_slice Try.underlying22 (hval 1 22 v1 rfl rfl)
  have k1 := h1
  have lt1 : ∀ x ∈ p1, x.block < W.heap.size := by obtain ⟨m, hm⟩ := k1; exact DataW.trod_lt m _ _ _ hm
  obtain ⟨z1, w1⟩ : ∃ zs, IsRow .i64 W a1 len1 cap1 zs := by
    obtain ⟨fuel, hf⟩ := h1
    rcases open_ints Try.underlying22 Try.underlying3 (by kernel_rfl) hf with ⟨hcs, _⟩ | ⟨x, l, c, zs, hcs, _, hl, hm, hz, _, hcell, hwz⟩
    · simp [Value.cells] at hcs
      obtain ⟨rfl, rfl, rfl⟩ := hcs
      exact ⟨[], .inl ⟨rfl, rfl, rfl, rfl⟩⟩
    · simp [Value.cells] at hcs
      obtain ⟨rfl, rfl, rfl⟩ := hcs
      exact ⟨zs, .inr ⟨_, rfl, hl, hm, by simpa using hz, hcell, hwz⟩⟩
  have y1 : len1 * 8 ≤ 140737488351232 := Go.Proofs.YtbjpjjokamaliaaW.PrintWords.sized_ints hsz (j := 1) (t := 22) rfl rfl Try.underlying22 Try.underlying3 (by kernel_rfl) (by kernel_rfl) h1
  obtain ⟨a2, rfl, rfl, rfl, y2⟩ := open_string Try.underlying9 (hval 2 9 v2 rfl rfl) h2
  have w2 : a2.size ≤ 140737488351232 := by
    have z := sized_string hsz (j := 2) (t := 9) rfl rfl
    rw [Array.length_toList] at z
    exact z
  obtain ⟨a3, rfl, rfl, rfl⟩ := open_bool Try.underlying4 (hval 3 4 v3 rfl rfl) h3
  obtain ⟨a4, rfl, rfl, rfl, w4⟩ := open_int Try.underlying3 (hval 4 3 v4 rfl rfl) h4
  clear hA0 hval0 hsz0 hsz
  refine (PAmbushLines.drovewaylaw04_AmbushLines.walk Pure.AmbushLines a0 a1 len1 cap1 z1 a2 a3 a4 W w0 w1 y1 w2 w4).mono fun e W' ⟨he, bel⟩ => ?_
  subst he
  exact ⟨_, rfl, _, _, _, [], _, [], hW', trodAll_mk1 (shut_bool Try.underlying4 _), (trodAll_cons_mk (shut_int Try.underlying3 w0) (trodAll_cons_mk (Below.trod laidOut (by kernel_rfl) (of_decide_eq_true (by kernel_rfl)) k1 bel lt1) (trodAll_cons_mk (shut_string Try.underlying9 y2) (trodAll_cons_mk (shut_bool Try.underlying4 _) (trodAll_cons_mk (shut_int Try.underlying3 w4) trodAll_mk0))))), rfl, bel.frame _, fun h => by cases h⟩
theorem over : Rows.ambushLinesRow.holds Try.pinned (OpenSpec.ofChange Rows.ambushLinesSpec) :=
  OpenClaim.holds_of_wide 9 Try.f9 rfl rfl rfl rfl rfl rfl rfl ⟨rfl, rfl, rfl, rfl, rfl⟩ rfl rfl rfl rfl rfl (by kernel_rfl) Try.func9 (by kernel_rfl)
    (of_decide_eq_true (by kernel_rfl)) (by unfold Func.isWrapper; first | (rw [if_pos (by decide +kernel)]; kernel_rfl) | (rw [if_neg (by decide +kernel)]; exact ⟨rfl, rfl⟩))
    (fun os started H enc _ => lifted os started H enc)
theorem proved : Rows.AmbushLinesSaid := over
#print axioms proved
end Go.Proofs.Ytbjpjjokamaliaa.ambushLines
namespace Go.Proofs.Ytbjpjjokamaliaa
/-- The row, under a short name, for the claim. -/
theorem ambushLines_holds : Rows.AmbushLinesSaid := ambushLines.proved
end Go.Proofs.Ytbjpjjokamaliaa
