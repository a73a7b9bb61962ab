/- Wrong and Least: what they return. -/
import Derived.Test.YtaegldcifhgnmaaZCa0
import Derived.Laws.CopyRow
import Derived.Laws.EntriesVeiled
import Derived.WalkSpells
import Derived.Sort.OwnSortedInts
import Derived.Lib.SliceRun
import Derived.Lib.LazyBuf
import Derived.KernelRfl
/- Wrong and Least: what they return. -/
namespace Go.Proofs.Ytaegldcifhgnmaa.A
open Go.RowKit Go.Proofs.YtaegldcifhgnmaaW.PrintWords Go.Proofs.YtaegldcifhgnmaaW.PrintMore

/-- Is a number a set of m drovers? -/
def setB (m : Nat) (s : Int) : Bool := decide (0 ≤ s) && decide (s < ((2 ^ m : Nat) : Int))
set_option maxRecDepth 100000 in
set_option maxHeartbeats 400000 in
theorem isSet_calls (m : Nat) (hm : m ≤ 8) (v : Value) (s : Int) (w : World) :
    Calls Try.prog 61 #[.agg #[.int .i64 m, v], .int .i64 s] w fun e w' => e = .returned (.bool (setB m s)) ∧ Below w.heap.size w w' := by
  have hw : wrap64 (2 ^ m) = ((2 ^ m : Nat) : Int) := by rw [wrap64_two (by omega), pow_cast]
  have hb : wrap64 ((1 : Int) * 2 ^ m) = ((2 ^ m : Nat) : Int) := by rw [Int.one_mul]; exact hw
  have HB := Aside0.mk (below_alloc (Below.refl w.heap.size w) (.cells #[.int .i64 m, v] 59))
  obtain ⟨b, hbv⟩ : ∃ b, setB m s = b := ⟨_, rfl⟩
  have HV := Aside0.mk hbv
  rw [hbv]
  clear hbv
  by_cases h0 : 0 ≤ s
  · go_enter Try.func61, Try.ntmps61
    go_wp2
    go_ret
    exact ⟨by rw [← HV.out]; simp [setB, h0], HB.out⟩
  · go_enter Try.func61, Try.ntmps61
    go_wp2
    go_ret
    exact ⟨by rw [← HV.out]; simp [setB]; omega, HB.out⟩

theorem errne {E : Int} (h : E ≠ 0) : (E != 0) = true := by rw [bne_iff_ne]; exact h

set_option maxRecDepth 100000 in
set_option maxHeartbeats 800000 in
theorem Wrong_err (n : Int) (A : Option Addr) (c : Nat) (l : List S39) (s : Int) (w : World) (hr : Kd.C k39 w A l.length l) (E : Int) (h : tiesE n l = E) (h0 : E ≠ 0) :
    Calls Try.prog 36 #[.int .i64 n, .slice A l.length c, .int .i64 s] w fun e w' => e = .returned (.tuple #[.slice none 0 0, .int .i64 E]) ∧ Below w.heap.size w w' := by
  have HR := Aside0.mk hr
  have HE := Aside0.mk h
  have hg := errne h0
  have H0 := Aside0.mk h0
  clear hr h h0
  go_enter Try.func36, Try.ntmps36
  go_wp2_with (go_at_call 46; refine (read_err HR.out HE.out H0.out).mono ?_; rintro e w' ⟨rfl, hb'⟩; have HB := Aside0.mk hb'; clear hb')
  go_ret2
  exact ⟨rfl, below_alloc HB.out _⟩

set_option maxRecDepth 100000 in
set_option maxHeartbeats 800000 in
theorem Wrong_good (m : Nat) (A : Option Addr) (c : Nat) (l : List S39) (s : Int) (w : World) (hr : Kd.C k39 w A l.length l) (hc : l.length ≤ c) (h : tiesE m l = 0) :
    Calls Try.prog 36 #[.int .i64 m, .slice A l.length c, .int .i64 s] w fun e w' => ∃ v, e = .returned (.tuple #[v, .int .i64 (if setB m s = true then 0 else 2)]) ∧ Kd.R (Kd.int .i64) 3 w' w.heap.size (fun _ => True) v (if setB m s = true then wrongF l s.toNat else []) ∧ Below w.heap.size w w' := by
  have hm : m ≤ 8 := by have := (tiesE_parts h).1; omega
  have HR := Aside0.mk hr
  have HC := Aside0.mk hc
  have HS := Aside0.mk (tiesE_small h)
  have HL : Aside0 (l.length ≤ 1000) := ⟨by have := (tiesE_parts h).2.1; omega⟩
  have HE := Aside0.mk h
  clear hr h hc
  cases hb : setB m s with
  | false =>
    have HV := Aside0.mk hb
    clear hb
    go_enter Try.func36, Try.ntmps36
    go_wp2_with (first | (go_at_call 46; refine (read_good HR.out HE.out).mono ?_; rintro e w1 ⟨rfl, hb1⟩; have HB1 := Aside0.mk hb1; clear hb1) | (go_at_call 61; refine (isSet_calls m hm _ s _).mono ?_; rw [HV.out]; rintro e w2 ⟨rfl, hb2⟩; have HB2 := Aside0.mk (below_then (below_alloc HB1.out _) (below_alloc HB1.out _).size hb2); clear hb2))
    go_ret2
    exact ⟨_, rfl, Kd.R_nil _ _ _ _ _, HB2.out⟩
  | true =>
    have HV := Aside0.mk hb
    have hs : 0 ≤ s ∧ s < ((2 ^ m : Nat) : Int) := by unfold setB at hb; simpa using hb
    obtain ⟨k, rfl⟩ := Int.eq_ofNat_of_zero_le hs.1
    have hk : Aside0 (k < 2 ^ 62) := ⟨by have := pow8 hm; omega⟩
    clear hb hs
    simp only [Int.toNat_natCast]
    go_enter Try.func36, Try.ntmps36
    go_wp2_with (first | (go_at_call 46; refine (read_good HR.out HE.out).mono ?_; rintro e w1 ⟨rfl, hb1⟩; have HB1 := Aside0.mk hb1; clear hb1) | (go_at_call 61; refine (isSet_calls m hm _ k _).mono ?_; rw [HV.out]; rintro e w2 ⟨rfl, hb2⟩; have hg2 := cells2 ((hb2.block _ (by simp)).trans (heap_alloc_new w1 (.cells #[.int .i64 (m : Int), .slice A l.length c] 59))); obtain ⟨r0, r1, _, _⟩ := hg2; have HB2 := Aside0.mk (below_then (below_alloc HB1.out _) (below_alloc HB1.out _).size hb2); clear hb2) | (go_at_call 47; refine (wrong_calls m A c l k _ (Kd.C_below HR.out HB2.out) HC.out HS.out HL.out hk.out).mono ?_; rintro e w3 ⟨v3, rfl, hr3, hb3⟩; have HR3 := Aside0.mk hr3; have HB3 := Aside0.mk hb3; clear hr3 hb3))
    go_ret2
    exact ⟨_, rfl, Kd.R_lower HR3.out HB2.out.size, below_then HB2.out HB2.out.size HB3.out⟩

def wrongE (n : Int) (l : List S39) (s : Int) : Int := if tiesE n l = 0 then (if setB n.toNat s = true then 0 else 2) else tiesE n l
def feuds_Wrong.f (a0 : Int) (l1 : List S39) (a2 : Int) : Option (List Int × Int) := some (if wrongE a0 l1 a2 = 0 then wrongF l1 a2.toNat else [], wrongE a0 l1 a2)
theorem feuds_Wrong.calls (a0 : Int) (A1 : Option Addr) (c1 : Nat) (l1 : List S39) (a2 : Int) (r1 : List Int) (r2 : Int) (w : World) (hr1 : Kd.C k39 w A1 l1.length l1) (hc1 : l1.length ≤ c1) (h : feuds_Wrong.f a0 l1 a2 = some (r1, r2)) :
    Calls Try.prog 36 #[.int .i64 a0, .slice A1 l1.length c1, .int .i64 a2] w fun e w' => ∃ v0_ : Value, e = .returned (.tuple #[v0_, .int .i64 r2]) ∧ Kd.R (Kd.int .i64) 3 w' w.heap.size (fun _ => True) v0_ r1 ∧ Below w.heap.size w w' := by
  unfold feuds_Wrong.f at h
  cases h
  by_cases h0 : tiesE a0 l1 = 0
  · have h1 := tiesE_parts h0
    obtain ⟨m, rfl⟩ : ∃ m : Nat, a0 = m := ⟨a0.toNat, by omega⟩
    have e : wrongE m l1 a2 = if setB m a2 = true then 0 else 2 := by unfold wrongE; rw [if_pos h0, Int.toNat_natCast]
    have := Wrong_good m A1 c1 l1 a2 w hr1 hc1 h0
    rw [e]
    cases hb : setB m a2 with
    | true => rw [hb] at this; exact this
    | false => rw [hb] at this; exact this
  · have e : wrongE a0 l1 a2 = tiesE a0 l1 := by unfold wrongE; rw [if_neg h0]
    rw [e, if_neg h0]
    exact (Wrong_err a0 A1 c1 l1 a2 w hr1 _ rfl h0).mono fun _ _ ⟨h1, h2⟩ => ⟨_, h1, Kd.R_nil _ _ _ _ _, h2⟩

/-! ### Least -/
/-- The first of k sets with the fewest wrong ties, and these. -/
def leastK (l : List S39) : Nat → Nat × List Int
  | 0 => (0, wrongF l 0)
  | k + 1 => if (wrongF l k).length < (leastK l k).2.length then (k, wrongF l k) else leastK l k

set_option maxRecDepth 100000 in
set_option maxHeartbeats 800000 in
theorem Least_err (n : Int) (A : Option Addr) (c : Nat) (l : List S39) (w : World) (hr : Kd.C k39 w A l.length l) (E : Int) (h : tiesE n l = E) (h0 : E ≠ 0) :
    Calls Try.prog 25 #[.int .i64 n, .slice A l.length c] w fun e w' => e = .returned (.tuple #[.int .i64 0, .slice none 0 0, .int .i64 E]) ∧ Below w.heap.size w w' := by
  have HR := Aside0.mk hr
  have HE := Aside0.mk h
  have hg := errne h0
  have H0 := Aside0.mk h0
  clear hr h h0
  go_enter Try.func25, Try.ntmps25
  go_wp2_with (go_at_call 46; refine (read_err HR.out HE.out H0.out).mono ?_; rintro e w' ⟨rfl, hb'⟩; have HB := Aside0.mk hb'; clear hb')
  go_ret3
  exact ⟨rfl, below_alloc HB.out _⟩

set_option maxRecDepth 100000 in
set_option maxHeartbeats 800000 in
theorem Least_good (m : Nat) (A : Option Addr) (c : Nat) (l : List S39) (w : World) (hr : Kd.C k39 w A l.length l) (hc : l.length ≤ c) (h : tiesE m l = 0) :
    Calls Try.prog 25 #[.int .i64 m, .slice A l.length c] w fun e w' => ∃ v, e = .returned (.tuple #[.int .i64 (leastK l (2 ^ m)).1, v, .int .i64 0]) ∧ Kd.R (Kd.int .i64) 3 w' w.heap.size (fun _ => True) v (leastK l (2 ^ m)).2 ∧ Below w.heap.size w w' := by
  have hm : m ≤ 8 := by have := (tiesE_parts h).1; omega
  have HR := Aside0.mk hr
  have HC := Aside0.mk hc
  have HS := Aside0.mk (tiesE_small h)
  have HL : Aside0 (l.length ≤ 1000) := ⟨by have := (tiesE_parts h).2.1; omega⟩
  have HE := Aside0.mk h
  clear hr h hc
  obtain ⟨N, hN⟩ : ∃ N : Nat, N = 2 ^ m := ⟨_, rfl⟩
  have hN8 : N ≤ 256 := by rw [hN]; exact pow8 hm
  have hw : wrap64 (2 ^ m) = (N : Int) := by rw [wrap64_two (by omega), pow_cast, hN]
  rw [← hN]
  clear hN
  go_enter Try.func25, Try.ntmps25
  go_wp2_with (first | (go_at_call 46; refine (read_good HR.out HE.out).mono ?_; rintro e w1 ⟨rfl, hb1⟩; have HB1 := Aside0.mk hb1; clear hb1) | (go_at_call 47; refine (wrong_calls m A c l 0 _ (Kd.C_below HR.out (below_alloc HB1.out _)) HC.out HS.out HL.out (by decide)).mono ?_; rintro e w2 ⟨v2, rfl, hr2, hb2⟩; have hg2 := (hb2.block _ (by simp)).trans (heap_alloc_new w1 (.cells #[.int .i64 (m : Int), .slice A l.length c] 59)); have HS1 := Aside0.mk (And.intro hg2 (And.intro (below_then (below_alloc HB1.out _) (below_alloc HB1.out _).size hb2) (Kd.R_lower hr2 (below_alloc HB1.out _).size))); clear hr2 hb2 hg2))
  rw [hw]
  clear hw
  go_loopg [9, 10, 11, 12, 26] N (fun gg v9 v10 _ _ v26 wr => ∃ i : Nat, i ≤ N ∧ N - i ≤ gg ∧ v26 = .int .i64 i ∧ v9 = .int .i64 (leastK l i).1 ∧ Aside0 (wr.heap[w1.heap.size]? = some (.cells #[.int .i64 (m : Int), .slice A l.length c] 59 (0, 0)) ∧ Below w.heap.size w wr ∧ Kd.R (Kd.int .i64) 3 wr w.heap.size (fun _ => True) v10 (leastK l i).2))
  case atStart => exact ⟨0, Nat.zero_le _, by omega, rfl, rfl, HS1⟩
  case round =>
    clear HS1 HB1
    obtain ⟨i, hi, hgg, rfl, rfl, HI⟩ := hrel
    obtain ⟨r0, r1, _, _⟩ := cells2 HI.out.1
    by_cases hlt : i < N
    · have hltz : (i : Int) < (N : Int) := by omega
      obtain ⟨A0, c0, rfl, hc0, _⟩ := Kd.R_reads HI.out.2.2
      obtain ⟨K, hK⟩ : ∃ K, (leastK l i).2.length = K := ⟨_, rfl⟩
      have HK := Aside0.mk hK
      obtain ⟨Q, hQ⟩ : ∃ Q, (wrongF l i).length = Q := ⟨_, rfl⟩
      have HQ := Aside0.mk hQ
      rw [hK]
      clear hK hQ hc0
      have hls : Aside0 (leastK l (i + 1) = if Q < K then (i, wrongF l i) else leastK l i) := ⟨by rw [leastK, HK.out, HQ.out]⟩
      by_cases hq : Q < K
      · have hqz : (Q : Int) < (K : Int) := by omega
        go_wp2_with (go_at_call 47; refine (wrong_calls m A c l i _ (Kd.C_below HR.out HI.out.2.1) HC.out HS.out HL.out (by omega)).mono ?_; rintro e w2 ⟨v2, rfl, hr2, hb2⟩; have HR2 := Aside0.mk hr2; obtain ⟨A2, c2, rfl, hc2, _⟩ := Kd.R_reads hr2; have HB2 := Aside0.mk hb2; rw [HQ.out] at HR2 ⊢; clear hr2 hb2 hc2)
        go_roundg (N - (i + 1))
        case measure => omega
        case rel =>
          refine ⟨i + 1, by omega, by omega, by go_num, by rw [hls.out, if_pos hq], ⟨(HB2.out.block _ (blk_lt HI.out.1)).trans HI.out.1, below_then HI.out.2.1 HI.out.2.1.size HB2.out, ?_⟩⟩
          rw [hls.out, if_pos hq]
          exact Kd.R_lower HR2.out HI.out.2.1.size
      · have hqz : ¬ (Q : Int) < (K : Int) := by omega
        go_wp2_with (go_at_call 47; refine (wrong_calls m A c l i _ (Kd.C_below HR.out HI.out.2.1) HC.out HS.out HL.out (by omega)).mono ?_; rintro e w2 ⟨v2, rfl, hr2, hb2⟩; have HR2 := Aside0.mk hr2; obtain ⟨A2, c2, rfl, hc2, _⟩ := Kd.R_reads hr2; have HB2 := Aside0.mk hb2; rw [HQ.out] at HR2 ⊢; clear hr2 hb2 hc2)
        go_roundg (N - (i + 1))
        case measure => omega
        case rel =>
          refine ⟨i + 1, by omega, by omega, by go_num, by rw [hls.out, if_neg hq], ⟨(HB2.out.block _ (blk_lt HI.out.1)).trans HI.out.1, below_then HI.out.2.1 HI.out.2.1.size HB2.out, ?_⟩⟩
          rw [hls.out, if_neg hq]
          rw [← HK.out]
          exact Kd.R_below HI.out.2.2 HB2.out
    · have hltz : ¬ (i : Int) < (N : Int) := by omega
      have hie : i = N := by omega
      subst hie
      go_wp2
      go_ret3
      exact ⟨_, rfl, HI.out.2.2, HI.out.2.1⟩
end Go.Proofs.Ytaegldcifhgnmaa.A

/- A copy of ties onto a row of the call's own. -/
namespace Go.Proofs.Ytaegldcifhgnmaa.A
open Go.RowKit Go.Proofs.YtaegldcifhgnmaaW.PrintWords Go.Proofs.YtaegldcifhgnmaaW.PrintMore

def cellsT (t : S39) : List Value := [.int .i64 t.f0, .int .i64 t.f1, .bool t.f2]
def encL (xs : List S39) : List Value := xs.flatMap cellsT
theorem encL_cons (t : S39) (xs : List S39) : encL (t :: xs) = cellsT t ++ encL xs := rfl
theorem encL_len : ∀ xs : List S39, (encL xs).length = xs.length * 3
  | [] => rfl
  | t :: xs => by rw [encL_cons, List.length_append, encL_len xs, List.length_cons]; show 3 + _ = _; omega
theorem encL_seg : ∀ (xs : List S39) (j : Nat) (t : S39), xs[j]? = some t → ((encL xs).drop (j * 3)).take 3 = cellsT t
  | [], j, t, h => by simp at h
  | x :: xs, 0, t, h => by
    simp at h
    subst h
    rw [encL_cons]; rfl
  | x :: xs, j + 1, t, h => by
    rw [encL_cons, show (j + 1) * 3 = 3 + j * 3 by omega, ← List.drop_drop]
    exact encL_seg xs j t (by simpa using h)
theorem encL_one (xs : List S39) : ∀ u ∈ encL xs, u.oneCell' = true := by
  intro u hu
  obtain ⟨t, _, h⟩ := List.mem_flatMap.1 hu
  simp only [cellsT, List.mem_cons, List.not_mem_nil, or_false] at h
  rcases h with rfl | rfl | rfl <;> rfl
theorem encL_get {xs : List S39} {k : Nat} {u : Value} (h : (encL xs)[k]? = some u) : ∃ t, xs[k / 3]? = some t ∧ (cellsT t)[k % 3]? = some u := by
  have hk : k < xs.length * 3 := by rw [← encL_len]; exact (List.getElem?_eq_some_iff.1 h).1
  have hj : k / 3 < xs.length := by omega
  refine ⟨xs[k / 3], List.getElem?_eq_getElem hj, ?_⟩
  rw [← encL_seg xs (k / 3) _ (List.getElem?_eq_getElem hj), List.getElem?_take, if_pos (by omega), List.getElem?_drop, ← h]
  congr 1
  omega
theorem encL_reps (w : World) (base : Nat) (ok : Nat → Prop) (xs : List S39) : Reps (k39.M w base ok) 3 xs (encL xs) :=
  ⟨encL_len xs, fun j p hp => by rw [encL_seg xs j p hp]; exact k39_mkM w base ok p⟩

theorem run_copyT (w : World) (ty g dLen dCap : Nat) (A : Option Addr) (c : Nat) (cur : Array Value) (ys : List S39) (hg : w.heap[g]? = some (.cells cur 39 (0, 0))) (hn : ys.length = dLen) (hr : Kd.C k39 w A ys.length ys) (hfit : dLen * 3 ≤ cur.size) :
    (Builtin.copy_ #[22, 22] ty #[.slice (some ⟨g, 0, none⟩) dLen dCap, .slice A ys.length c]).run Try.prog w = .ok (goInt dLen) (w.setRow g (encL ys ++ cur.toList.drop (encL ys).length).toArray) := by
  obtain ⟨i, hi, hz0, hz1, hz2⟩ := info_parts info39
  have hst := run_storeCells_at Try.prog g 0 39 (encL ys) 0 cur w hg (by rw [encL_len]; omega) (encL_one ys)
  rw [Nat.zero_add, List.take_zero, List.nil_append, Nat.zero_add] at hst
  have hmin : Nat.min ys.length dLen = dLen := by rw [hn]; exact Nat.min_self _
  cases A with
  | none =>
    have h0 : ys.length = 0 := by
      rcases Nat.eq_zero_or_pos ys.length with h | h
      · exact h
      · obtain ⟨ad, e, _⟩ := hr.2.2 h
        cases e
    obtain rfl : ys = [] := List.length_eq_zero_iff.1 h0
    subst hn
    simp only [encL, List.flatMap_nil, List.length_nil] at hst ⊢
    simp [Builtin.copy_, run_underlying Try.underlying22, Builtin.lenOf, Builtin.firstCells, sizeOf, typeInfo, hi, storeCells]
    rw [setRow_self w g cur 39 (0, 0) hg]
  | some ad =>
    have hsrc : ∀ j v, (encL ys)[j]? = some v → w.cell? (ad.add j) = some v := by
      intro j v hv
      obtain ⟨t, h1, h2⟩ := encL_get hv
      obtain ⟨ad', e, hc⟩ := hr.2.2 (by have := (List.getElem?_eq_some_iff.1 h1).1; omega)
      cases e
      obtain ⟨cs, h3, h4, h5⟩ := hc _ t h1
      obtain rfl := k39_open h4
      have := h5 (j % 3) v h2
      rwa [show j / 3 * k39.sz + j % 3 = j by show j / 3 * 3 + j % 3 = j; omega] at this
    have hl := run_loadCells_list (P := Try.prog) w ad (encL ys) hsrc
    rw [encL_len, hn] at hl
    simp [Builtin.copy_, run_underlying Try.underlying22, Builtin.lenOf, Builtin.firstCells, sizeOf, typeInfo, hi, hz1, hmin, hl, hst]

theorem wpList_copyT {w0 W : World} {ops : Array Oper} {rest : List Oper} {o : Oper} {a : Act} {Q : Exit → Act → World → Prop} (base : Nat) (hgd : o.guard = none) (s x : Operand)
    (ho : o.op = .call { callee := .builtin .copy, args := #[s, x], argTypes := #[22, 22] }) (g n cap : Nat) (xs ys : List S39) (A : Option Addr) (c : Nat) (hs : a.eval s = .slice (some ⟨g, 0, none⟩) n cap) (hx : a.eval x = .slice A ys.length c)
    (HO : Kd.R k39 39 W base (fun _ => True) (.slice (some ⟨g, 0, none⟩) n cap) xs) (HR : Kd.C k39 W A ys.length ys) (hlen : ys.length = n) (HB : Below base w0 W) (_hbase : base ≤ W.heap.size)
    (h : ∀ w1, Kd.R k39 39 w1 base (fun _ => True) (.slice (some ⟨g, 0, none⟩) n cap) ys → Below base w0 w1 → W.grownBy w1 (some g) → wpList Try.prog ops Q rest (a.put o.dst (.int .i64 n)) w1) :
    wpList Try.prog ops Q (o :: rest) a W := by
  have hnx : n = xs.length := (Kd.R_reads' HO).1
  obtain ⟨hok, inner, hown, hr⟩ := HO
  rcases hown.2 with ⟨hv, _⟩ | ⟨g', cap', cur, hv, hb, hh, hnc, hcm, hcs, _⟩
  · cases hv
  have hv' : g = g' ∧ cap = cap' := by
    injection hv with ha _ hc
    injection ha with ha
    injection ha with ha
    exact ⟨ha, hc⟩
  obtain ⟨rfl, rfl⟩ := hv'
  clear hv
  have hcs3 : cur.size = cap * 3 := hcs
  have hrun := run_copyT W o.type g n cap A c cur ys hh hlen HR (by omega)
  have hfar : ∀ k, k ≠ g → (W.setRow g (encL ys ++ cur.toList.drop (encL ys).length).toArray).heap[k]? = W.heap[k]? := fun k hk => setRow_other W g k _ (fun e => hk (by omega))
  have hsz : W.heap.size ≤ (W.setRow g (encL ys ++ cur.toList.drop (encL ys).length).toArray).heap.size := by simp [World.setRow]
  refine wpList_plain hgd fun K hK => ?_
  unfold Oper.wp execOp
  simp only [ho, resolve, invoke, builtin, Sem.run_bind, Sem.run_pure, Result.andThen_ok, List.map_toArray, List.map_cons, List.map_nil, hs, hx, hrun]
  refine hK _ _ (h _ ⟨fun k _ => trivial, encL ys, ⟨?_, .inr ⟨g, cap, _, by rw [hlen], hb, setRow_heap W g cur _ 39 _ hh, by omega, hcm, ?_, ?_⟩⟩, encL_reps _ _ _ _⟩ (HB.trans ⟨rfl, rfl, rfl, hsz, fun k hk => hfar k (by omega)⟩) ⟨rfl, rfl, rfl, hsz, fun k _ hk => hfar k (fun e => hk (by rw [e]))⟩)
  · rw [encL_len]; rfl
  · have hcl : cur.toList.length = cur.size := Array.length_toList
    rw [List.size_toArray, List.length_append, List.length_drop, encL_len, hcl]
    show _ = cap * 3
    omega
  · show List.take (ys.length * 3) _ = _
    rw [← encL_len, List.take_left]
end Go.Proofs.Ytaegldcifhgnmaa.A

/- Ties switched by a set. -/
namespace Go.Proofs.Ytaegldcifhgnmaa.A
open Go.RowKit Go.Proofs.YtaegldcifhgnmaaW.PrintWords Go.Proofs.YtaegldcifhgnmaaW.PrintMore

/-- A tie, switched by a set. -/
def swT (s : Nat) (t : S39) : S39 := ⟨t.f0, t.f1, t.f2 != crossB t s⟩
def switchF (l : List S39) (s : Nat) : List S39 := l.map (swT s)
/-- The first i ties are switched. -/
def swK (l : List S39) (s i : Nat) : List S39 := (l.take i).map (swT s) ++ l.drop i
theorem swK_len (l : List S39) (s i : Nat) : (swK l s i).length = l.length := by
  unfold swK
  rw [List.length_append, List.length_map, List.length_take, List.length_drop]; omega
theorem swK_zero (l : List S39) (s : Nat) : swK l s 0 = l := by simp [swK]
theorem swK_all (l : List S39) (s : Nat) : swK l s l.length = switchF l s := by simp [swK, switchF]
theorem swK_get {l : List S39} {s i : Nat} (h : i < l.length) : (swK l s i).getD i z39 = l.getD i z39 := by
  unfold swK
  have hl : ((l.take i).map (swT s)).length = i := by rw [List.length_map, List.length_take]; omega
  rw [List.getD_eq_getElem?_getD, List.getElem?_append_right (by omega), hl, Nat.sub_self, List.getElem?_drop, Nat.add_zero, ← List.getD_eq_getElem?_getD]
theorem swK_succ {l : List S39} {s i : Nat} (h : i < l.length) : swK l s (i + 1) = (swK l s i).set i (swT s (l.getD i z39)) := by
  unfold swK
  have hl : ((l.take i).map (swT s)).length = i := by rw [List.length_map, List.length_take]; omega
  have hg : l.getD i z39 = l[i] := by rw [List.getD_eq_getElem?_getD, List.getElem?_eq_getElem h]; rfl
  rw [List.set_append_right _ _ (by omega), hl, Nat.sub_self, List.drop_eq_getElem_cons h, List.set_cons_zero, List.take_succ_eq_append_getElem h, List.map_append, hg]
  simp
theorem swK_stay {l : List S39} {s i : Nat} (h : i < l.length) (hb : crossB (l.getD i z39) s = false) : swK l s (i + 1) = swK l s i := by
  rw [swK_succ h]
  have he : swT s (l.getD i z39) = l.getD i z39 := by unfold swT; rw [hb, Bool.bne_false]
  rw [he, ← swK_get (s := s) h, List.getD_eq_getElem?_getD, List.getElem?_eq_getElem (by rw [swK_len]; exact h)]
  simp

theorem R_head {α : Type} {d : Kd α} {e base b : Nat} {ok : Nat → Prop} {w : World} {v : Value} {xs : List α} (h : d.R e w base ok v xs) (hb : v.ownBlock = some b) : ∃ cap, v = .slice (some ⟨b, 0, none⟩) xs.length cap := by
  obtain ⟨_, inner, hown, hr⟩ := h
  rcases hown.2 with ⟨rfl, _⟩ | ⟨g, cap, cur, rfl, _⟩
  · simp [Value.ownBlock] at hb
  · have : g = b := by simpa [Value.ownBlock] using hb
    subst this
    exact ⟨cap, rfl⟩
theorem crosses_calls (t : S39) (s : Nat) (h : 0 ≤ t.f0 ∧ t.f0 < 60 ∧ 0 ≤ t.f1 ∧ t.f1 < 60) (hs : s < 2 ^ 62) (w : World) :
    Calls Try.prog 74 #[.agg #[.int .i64 t.f0, .int .i64 t.f1, .bool t.f2], .int .i64 s] w fun e w' => e = .returned (.bool (crossB t s)) ∧ Below w.heap.size w w' :=
  feuds_crosses.calls t.f0 t.f1 t.f2 s _ w (crosses_f h hs)

theorem seg_cells {w : World} {kb i : Nat} {y : S39} (h0 : w.cell? ⟨kb, i * 3, none⟩ = some (.int .i64 y.f0)) (h1 : w.cell? ⟨kb, i * 3 + 1, none⟩ = some (.int .i64 y.f1)) (h2 : w.cell? ⟨kb, i * 3 + 2, none⟩ = some (.bool y.f2)) :
    ∀ j u, (cellsT y)[j]? = some u → w.cell? ⟨kb, (i : Int).toNat * k39.sz + j, none⟩ = some u := by
  intro j u h
  rw [Int.toNat_natCast]
  show w.cell? ⟨kb, i * 3 + j, none⟩ = some u
  match j, h with
  | 0, h => cases h; exact h0
  | 1, h => cases h; exact h1
  | 2, h => cases h; exact h2

set_option maxRecDepth 100000 in
set_option maxHeartbeats 1600000 in
theorem switched_calls (n : Int) (A : Option Addr) (c : Nat) (l : List S39) (s : Nat) (w : World) (hr : Kd.C k39 w A l.length l) (hs : smallT l) (hn : l.length ≤ 1000) (h62 : s < 2 ^ 62) :
    Calls Try.prog 58 #[.agg #[.int .i64 n, .slice A l.length c], .int .i64 s] w fun e w' => ∃ v : Value, e = .returned v ∧ Kd.R k39 39 w' w.heap.size (fun _ => True) v (switchF l s) ∧ Below w.heap.size w w' := by
  have HR := Aside0.mk hr
  have HS := Aside0.mk hs
  have H62 := Aside0.mk h62
  have HB := Aside0.mk (below_alloc (Below.refl w.heap.size w) (.cells #[.int .i64 n, .slice A l.length c] 59))
  have HG := Aside0.mk (heap_alloc_new w (.cells #[.int .i64 n, .slice A l.length c] 59))
  have HNN := Aside0.mk hn
  have Q2 : Aside0 ((l.length : Int).toNat * 24 ≤ 281474976710656) := ⟨by omega⟩
  clear hr hs h62
  go_enter Try.func58, Try.ntmps58
  go_wp2_with (first
    | ((with_reducible refine gate_dst (N := 11) rfl ?_); refine Kd.R_make k39 (w0 := w) w.heap.size 39 rfl (N := 11) rfl 22 _ _ rfl (l.length : Int) rfl rfl Try.underlying22 (.agg #[.int .i64 0, .int .i64 0, .bool false]) 24 info39 rfl (by decide) (by decide) z39 (ok := fun _ => True) (okp := fun _ => True) (k39_mkM _ _ _ z39) (fun _ hk => hk) trivial (by omega) Q2.out HB.out HB.out.size ?_; intro v1 w1 ho1 hb1 hg1 hn1; rw [Int.toNat_natCast] at ho1; obtain ⟨kb, hkb, hle⟩ := hn1; obtain ⟨C, rfl⟩ := R_head ho1 hkb; rw [List.length_replicate] at ho1 ⊢; have hgg := (hg1.block _ (by simp) (by simp)).trans HG.out; obtain ⟨g0, g1, _, _⟩ := cells2 hgg; have HO1 := Aside0.mk ho1; have HB1 := Aside0.mk hb1; have HG1 := Aside0.mk hgg; have HLE := Aside0.mk hle; clear ho1 hb1 hg1 hkb hle hgg)
    | ((with_reducible refine gate_ (.call { callee := .builtin .copy, args := #[.tmp 12, .tmp 14], argTypes := #[22, 22] }) rfl ?_); refine wpList_copyT (w0 := w) w.heap.size rfl (.tmp 12) (.tmp 14) rfl kb l.length C _ l A c rfl rfl HO1.out (Kd.C_below HR.out HB1.out) rfl HB1.out HB1.out.size ?_; intro w2 ho2 hb2 hg2; have HO2 := Aside0.mk ho2; have HB2 := Aside0.mk hb2; clear ho2 hb2 hg2))
  have HI0 : Aside0 (Kd.R k39 39 w2 w.heap.size (fun _ => True) (.slice (some ⟨kb, 0, none⟩) l.length C) (swK l s 0) ∧ Below w.heap.size w w2) := ⟨by rw [swK_zero]; exact HO2.out, HB2.out⟩
  clear HO2 HB2 HO1 HB1
  go_loopg [6, 7, 18] l.length (fun gg _ _ v18 wr => ∃ i : Nat, i ≤ l.length ∧ l.length - i ≤ gg ∧ v18 = .int .i64 i ∧ Aside0 (Kd.R k39 39 wr w.heap.size (fun _ => True) (.slice (some ⟨kb, 0, none⟩) l.length C) (swK l s i) ∧ Below w.heap.size w wr))
  case atStart => exact ⟨0, Nat.zero_le _, by omega, rfl, HI0⟩
  case round =>
    clear HI0
    obtain ⟨i, hi, hgg, rfl, HI⟩ := hrel
    by_cases hlt : i < l.length
    · have hltz : (i : Int) < (l.length : Int) := by omega
      have hC := (Kd.R_reads' HI.out.1).2.2
      rw [swK_len] at hC
      obtain ⟨ad, had, hx0, hx1, hx2⟩ := at_T39 hC (i : Int) (by omega) (by omega)
      cases had
      rw [Int.toNat_natCast] at hx0 hx1 hx2
      have hrd : rd_T39 (swK l s i) (i : Int) = l.getD i z39 := by simp only [rd_T39, Int.toNat_natCast]; exact swK_get hlt
      rw [hrd] at hx0 hx1 hx2
      have hts := HS.out _ (getD_mem z39 hlt)
      have hsuc := swK_succ (s := s) hlt
      have hsta := swK_stay (s := s) hlt
      generalize hy : l.getD i z39 = y at hx0 hx1 hx2 hts hsuc hsta
      have HY := Aside0.mk hy
      have HTS := Aside0.mk hts
      have HSU := Aside0.mk hsuc
      have HST := Aside0.mk hsta
      clear hy hts hsuc hsta hrd hC
      rw [add_plain] at hx0 hx1 hx2
      have hkb : kb < wr.heap.size := (Kd.R_lt HI.out.1) kb (by simp [Value.ownBlock])
      obtain ⟨b, hb⟩ : ∃ b, crossB y s = b := ⟨_, rfl⟩
      have HBB := Aside0.mk hb
      clear hb
      cases b with
      | false =>
        go_wp2_with (go_at_call 74; refine (crosses_calls y s HTS.out H62.out _).mono ?_; rw [HBB.out]; rintro e w3 ⟨rfl, hb3⟩; have HB3 := Aside0.mk (below_then (below_alloc (Below.refl wr.heap.size wr) _) (below_alloc (Below.refl _ _) _).size hb3); clear hb3)
        go_roundg (l.length - (i + 1))
        case measure => omega
        case rel =>
          refine ⟨i + 1, by omega, by omega, by go_num, ⟨?_, below_then HI.out.2 HI.out.2.size HB3.out⟩⟩
          rw [HST.out HBB.out]
          exact Kd.R_below HI.out.1 HB3.out
      | true =>
        have HSW : Aside0 (swT s y = ⟨y.f0, y.f1, !y.f2⟩) := ⟨by unfold swT; rw [HBB.out, Bool.bne_true]⟩
        have HSEG := Aside0.mk (seg_cells hx0 hx1 hx2)
        go_wp2_with (first
          | (go_at_call 74; refine (crosses_calls y s HTS.out H62.out _).mono ?_; rw [HBB.out]; rintro e w3 ⟨rfl, hb3⟩; obtain ⟨t0, t1, t2, _, _, _⟩ := cells3 ((hb3.block _ (by simp)).trans (heap_alloc_new wr (.cells #[.int .i64 y.f0, .int .i64 y.f1, .bool y.f2] 39))); have HB3 := Aside0.mk (below_then (below_alloc (Below.refl wr.heap.size wr) _) (below_alloc (Below.refl _ _) _).size hb3); clear hb3)
          | ((with_reducible refine gate_ (.store 4 (.tmp 32) (.tmp 30)) rfl ?_); (refine Kd.R_store k39 (w0 := w) w.heap.size rfl rfl 4 (.tmp 32) (.tmp 30) rfl 39 (i : Int) 2 (swK l s i) ⟨y.f0, y.f1, !y.f2⟩ (.bool (!y.f2)) [.bool (!y.f2)] (cellsT y) (fun _ => True) (fun _ => False) rfl ?s1 rfl rfl ?s2 ?s3 (Kd.R_below HI.out.1 HB3.out) (by omega) (by omega) rfl ?s4 (Nat.le_refl 3) (k39_mkM _ _ _ ⟨y.f0, y.f1, !y.f2⟩) (fun _ hk => hk.elim) (below_then HI.out.2 HI.out.2.size HB3.out) ?_); (case s1 => rw [Int.toNat_natCast]; rfl); (case s2 => kernel_rfl); (case s3 => simp; rfl); (case s4 => exact fun j u h => pw_cell_below HB3.out (HSEG.out j u h)); intro w4 ho4 hb4 hg4; rw [Int.toNat_natCast] at ho4; have HO4 := Aside0.mk ho4; have HB4 := Aside0.mk hb4; clear ho4 hb4 hg4))
        go_roundg (l.length - (i + 1))
        case measure => omega
        case rel =>
          refine ⟨i + 1, by omega, by omega, by go_num, ⟨?_, HB4.out⟩⟩
          rw [HSU.out, HSW.out]
          exact HO4.out
    · have hltz : ¬ (i : Int) < (l.length : Int) := by omega
      have hie : i = l.length := by omega
      subst hie
      go_wp2
      go_ret
      exact ⟨_, rfl, by rw [← swK_all]; exact HI.out.1, HI.out.2⟩
end Go.Proofs.Ytaegldcifhgnmaa.A

/- Switch and Same: what they return. -/
namespace Go.Proofs.Ytaegldcifhgnmaa.A
open Go.RowKit Go.Proofs.YtaegldcifhgnmaaW.PrintWords Go.Proofs.YtaegldcifhgnmaaW.PrintMore

set_option maxRecDepth 100000 in
set_option maxHeartbeats 800000 in
theorem Switch_err (n : Int) (A : Option Addr) (c : Nat) (l : List S39) (s : Int) (w : World) (hr : Kd.C k39 w A l.length l) (E : Int) (h : tiesE n l = E) (h0 : E ≠ 0) :
    Calls Try.prog 34 #[.int .i64 n, .slice A l.length c, .int .i64 s] w fun e w' => e = .returned (.tuple #[.slice none 0 0, .int .i64 E]) ∧ Below w.heap.size w w' := by
  have HR := Aside0.mk hr
  have HE := Aside0.mk h
  have hg := errne h0
  have H0 := Aside0.mk h0
  clear hr h h0
  go_enter Try.func34, Try.ntmps34
  go_wp2_with (go_at_call 46; refine (read_err HR.out HE.out H0.out).mono ?_; rintro e w' ⟨rfl, hb'⟩; have HB := Aside0.mk hb'; clear hb')
  go_ret2
  exact ⟨rfl, below_alloc HB.out _⟩

set_option maxRecDepth 100000 in
set_option maxHeartbeats 800000 in
theorem Switch_good (m : Nat) (A : Option Addr) (c : Nat) (l : List S39) (s : Int) (w : World) (hr : Kd.C k39 w A l.length l) (h : tiesE m l = 0) :
    Calls Try.prog 34 #[.int .i64 m, .slice A l.length c, .int .i64 s] w fun e w' => ∃ v, e = .returned (.tuple #[v, .int .i64 (if setB m s = true then 0 else 2)]) ∧ Kd.R k39 39 w' w.heap.size (fun _ => True) v (if setB m s = true then switchF l s.toNat else []) ∧ Below w.heap.size w w' := by
  have hm : m ≤ 8 := by have := (tiesE_parts h).1; omega
  have HR := Aside0.mk hr
  have HS := Aside0.mk (tiesE_small h)
  have HL : Aside0 (l.length ≤ 1000) := ⟨by have := (tiesE_parts h).2.1; omega⟩
  have HE := Aside0.mk h
  clear hr h
  cases hb : setB m s with
  | false =>
    have HV := Aside0.mk hb
    clear hb
    go_enter Try.func34, Try.ntmps34
    go_wp2_with (first | (go_at_call 46; refine (read_good HR.out HE.out).mono ?_; rintro e w1 ⟨rfl, hb1⟩; have HB1 := Aside0.mk hb1; clear hb1) | (go_at_call 61; refine (isSet_calls m hm _ s _).mono ?_; rw [HV.out]; rintro e w2 ⟨rfl, hb2⟩; have HB2 := Aside0.mk (below_then (below_alloc HB1.out _) (below_alloc HB1.out _).size hb2); clear hb2))
    go_ret2
    exact ⟨_, rfl, Kd.R_nil _ _ _ _ _, HB2.out⟩
  | true =>
    have HV := Aside0.mk hb
    have hs : 0 ≤ s ∧ s < ((2 ^ m : Nat) : Int) := by unfold setB at hb; simpa using hb
    obtain ⟨k, rfl⟩ := Int.eq_ofNat_of_zero_le hs.1
    have hk : Aside0 (k < 2 ^ 62) := ⟨by have := pow8 hm; omega⟩
    clear hb hs
    simp only [Int.toNat_natCast]
    go_enter Try.func34, Try.ntmps34
    go_wp2_with (first | (go_at_call 46; refine (read_good HR.out HE.out).mono ?_; rintro e w1 ⟨rfl, hb1⟩; have HB1 := Aside0.mk hb1; clear hb1) | (go_at_call 61; refine (isSet_calls m hm _ k _).mono ?_; rw [HV.out]; rintro e w2 ⟨rfl, hb2⟩; have hg2 := cells2 ((hb2.block _ (by simp)).trans (heap_alloc_new w1 (.cells #[.int .i64 (m : Int), .slice A l.length c] 59))); obtain ⟨r0, r1, _, _⟩ := hg2; have HB2 := Aside0.mk (below_then (below_alloc HB1.out _) (below_alloc HB1.out _).size hb2); clear hb2) | (go_at_call 58; refine (switched_calls m A c l k _ (Kd.C_below HR.out HB2.out) HS.out HL.out hk.out).mono ?_; rintro e w3 ⟨v3, rfl, hr3, hb3⟩; have HR3 := Aside0.mk hr3; have HB3 := Aside0.mk hb3; clear hr3 hb3))
    go_ret2
    exact ⟨_, rfl, Kd.R_lower HR3.out HB2.out.size, below_then HB2.out HB2.out.size HB3.out⟩

def feuds_Switch.f (a0 : Int) (l1 : List S39) (a2 : Int) : Option (List S39 × Int) := some (if wrongE a0 l1 a2 = 0 then switchF l1 a2.toNat else [], wrongE a0 l1 a2)
theorem feuds_Switch.calls (a0 : Int) (A1 : Option Addr) (c1 : Nat) (l1 : List S39) (a2 : Int) (r1 : List S39) (r2 : Int) (w : World) (hr1 : Kd.C k39 w A1 l1.length l1) (_hc1 : l1.length ≤ c1) (h : feuds_Switch.f a0 l1 a2 = some (r1, r2)) :
    Calls Try.prog 34 #[.int .i64 a0, .slice A1 l1.length c1, .int .i64 a2] w fun e w' => ∃ v0_ : Value, e = .returned (.tuple #[v0_, .int .i64 r2]) ∧ Kd.R k39 39 w' w.heap.size (fun _ => True) v0_ r1 ∧ Below w.heap.size w w' := by
  unfold feuds_Switch.f at h
  cases h
  by_cases h0 : tiesE a0 l1 = 0
  · have h1 := tiesE_parts h0
    obtain ⟨m, rfl⟩ : ∃ m : Nat, a0 = m := ⟨a0.toNat, by omega⟩
    have e : wrongE m l1 a2 = if setB m a2 = true then 0 else 2 := by unfold wrongE; rw [if_pos h0, Int.toNat_natCast]
    have := Switch_good m A1 c1 l1 a2 w hr1 h0
    rw [e]
    cases hb : setB m a2 with
    | true => rw [hb] at this; exact this
    | false => rw [hb] at this; exact this
  · have e : wrongE a0 l1 a2 = tiesE a0 l1 := by unfold wrongE; rw [if_neg h0]
    rw [e, if_neg h0]
    exact (Switch_err a0 A1 c1 l1 a2 w hr1 _ rfl h0).mono fun _ _ ⟨h1, h2⟩ => ⟨_, h1, Kd.R_nil _ _ _ _ _, h2⟩

def feuds_Least.f (a0 : Int) (l1 : List S39) : Option (Int × List Int × Int) := some (if tiesE a0 l1 = 0 then (((leastK l1 (2 ^ a0.toNat)).1 : Int), (leastK l1 (2 ^ a0.toNat)).2, 0) else (0, [], tiesE a0 l1))
theorem feuds_Least.calls (a0 : Int) (A1 : Option Addr) (c1 : Nat) (l1 : List S39) (r1 : Int) (r2 : List Int) (r3 : Int) (w : World) (hr1 : Kd.C k39 w A1 l1.length l1) (hc1 : l1.length ≤ c1) (h : feuds_Least.f a0 l1 = some (r1, r2, r3)) :
    Calls Try.prog 25 #[.int .i64 a0, .slice A1 l1.length c1] w fun e w' => ∃ v0_ : Value, e = .returned (.tuple #[.int .i64 r1, v0_, .int .i64 r3]) ∧ Kd.R (Kd.int .i64) 3 w' w.heap.size (fun _ => True) v0_ r2 ∧ Below w.heap.size w w' := by
  unfold feuds_Least.f at h
  by_cases h0 : tiesE a0 l1 = 0
  · have h1 := tiesE_parts h0
    obtain ⟨m, rfl⟩ : ∃ m : Nat, a0 = m := ⟨a0.toNat, by omega⟩
    rw [if_pos h0] at h
    cases h
    exact Least_good m A1 c1 l1 w hr1 hc1 h0
  · rw [if_neg h0] at h
    cases h
    exact (Least_err a0 A1 c1 l1 w hr1 _ rfl h0).mono fun _ _ ⟨h1, h2⟩ => ⟨_, h1, Kd.R_nil _ _ _ _ _, h2⟩

/-! ### Same -/
/-- Are the first k ties feuds so they are asked for? -/
def sameT (l : List S39) (fs : List Bool) (s i : Nat) : Bool := (swT s (l.getD i z39)).f2 == fs.getD i false
def sameK (l : List S39) (fs : List Bool) (s k : Nat) : Bool := (List.range k).all (sameT l fs s)
def sameB (l : List S39) (fs : List Bool) (s : Nat) : Bool := sameK l fs s l.length
theorem sameK_succ (l : List S39) (fs : List Bool) (s k : Nat) : sameK l fs s (k + 1) = (sameK l fs s k && ((swT s (l.getD k z39)).f2 == fs.getD k false)) := by
  unfold sameK
  rw [List.range_succ, List.all_append, List.all_cons, List.all_nil, Bool.and_true]; rfl
theorem switchF_get {l : List S39} {s i : Nat} (h : i < l.length) : (switchF l s).getD i z39 = swT s (l.getD i z39) := by
  unfold switchF
  rw [List.getD_eq_getElem?_getD, List.getD_eq_getElem?_getD, List.getElem?_map, List.getElem?_eq_getElem h]; rfl
theorem switchF_len (l : List S39) (s : Nat) : (switchF l s).length = l.length := by unfold switchF; rw [List.length_map]
def sameN (m : Nat) (l : List S39) (fs : List Bool) : Option Nat := (List.range (2 ^ m)).find? (sameB l fs)
def sameF (n : Int) (l : List S39) (fs : List Bool) : Int × Int := if tiesE n l = 0 then (if fs.length = l.length then (match sameN n.toNat l fs with | some s => ((s : Int), 0) | none => (0, 10)) else (0, 2)) else (0, tiesE n l)

set_option maxRecDepth 100000 in
set_option maxHeartbeats 800000 in
theorem Same_err (n : Int) (A : Option Addr) (c : Nat) (l : List S39) (v : Value) (w : World) (hr : Kd.C k39 w A l.length l) (E : Int) (h : tiesE n l = E) (h0 : E ≠ 0) :
    Calls Try.prog 30 #[.int .i64 n, .slice A l.length c, v] w fun e w' => e = .returned (.tuple #[.int .i64 0, .int .i64 E]) ∧ Below w.heap.size w w' := by
  have HR := Aside0.mk hr
  have HE := Aside0.mk h
  have hg := errne h0
  have H0 := Aside0.mk h0
  clear hr h h0
  go_enter Try.func30, Try.ntmps30
  go_wp2_with (go_at_call 46; refine (read_err HR.out HE.out H0.out).mono ?_; rintro e w' ⟨rfl, hb'⟩; have HB := Aside0.mk hb'; clear hb')
  go_ret2
  exact ⟨rfl, below_alloc HB.out _⟩
set_option maxRecDepth 100000 in
set_option maxHeartbeats 800000 in
theorem Same_len (n : Int) (A : Option Addr) (c : Nat) (l : List S39) (A2 : Option Addr) (n2 c2 : Nat) (w : World) (hr : Kd.C k39 w A l.length l) (h : tiesE n l = 0) (hne : n2 ≠ l.length) :
    Calls Try.prog 30 #[.int .i64 n, .slice A l.length c, .slice A2 n2 c2] w fun e w' => e = .returned (.tuple #[.int .i64 0, .int .i64 2]) ∧ Below w.heap.size w w' := by
  have HR := Aside0.mk hr
  have HE := Aside0.mk h
  have hg : ((n2 : Int) != (l.length : Int)) = true := by rw [bne_iff_ne]; omega
  clear hr h hne
  go_enter Try.func30, Try.ntmps30
  go_wp2_with (go_at_call 46; refine (read_good HR.out HE.out).mono ?_; rintro e w' ⟨rfl, hb'⟩; have HB := Aside0.mk hb'; clear hb')
  go_ret2
  exact ⟨rfl, below_alloc HB.out _⟩

set_option maxRecDepth 100000 in
set_option maxHeartbeats 1600000 in
theorem Same_good (m : Nat) (A : Option Addr) (c : Nat) (l : List S39) (A2 : Option Addr) (c2 : Nat) (fs : List Bool) (w : World) (hr : Kd.C k39 w A l.length l) (h : tiesE m l = 0) (hr2 : Kd.C Kd.bool w A2 fs.length fs) (hlen : fs.length = l.length) (Z : Int × Int) (hZ : (match sameN m l fs with | some s => ((s : Int), (0 : Int)) | none => (0, 10)) = Z) :
    Calls Try.prog 30 #[.int .i64 m, .slice A l.length c, .slice A2 fs.length c2] w fun e w' => e = .returned (.tuple #[.int .i64 Z.1, .int .i64 Z.2]) ∧ Below w.heap.size w w' := by
  have hm : m ≤ 8 := by have := (tiesE_parts h).1; omega
  have HR := Aside0.mk hr
  have HR2 := Aside0.mk hr2
  have HS := Aside0.mk (tiesE_small h)
  have HL : Aside0 (l.length ≤ 1000) := ⟨by have := (tiesE_parts h).2.1; omega⟩
  have hl20 : l.length ≤ 20 := (tiesE_parts h).2.1
  have HLN := Aside0.mk hlen
  have HE := Aside0.mk h
  have hg : ((fs.length : Int) != (l.length : Int)) = false := by rw [bne_eq_false_iff_eq, hlen]
  clear hr h hr2 hlen
  obtain ⟨N, hN⟩ : ∃ N : Nat, N = 2 ^ m := ⟨_, rfl⟩
  have hN8 : N ≤ 256 := by rw [hN]; exact pow8 hm
  have hw : wrap64 (2 ^ m) = (N : Int) := by rw [wrap64_two (by omega), pow_cast, hN]
  have HZ : Aside0 ((match (List.range N).find? (sameB l fs) with | some s => ((s : Int), (0 : Int)) | none => (0, 10)) = Z) := ⟨by rw [hN]; exact hZ⟩
  clear hN hZ
  go_enter Try.func30, Try.ntmps30
  go_wp2_with (go_at_call 46; refine (read_good HR.out HE.out).mono ?_; rintro e w1 ⟨rfl, hb1⟩; have hz := hb1.size; have HS1 := Aside0.mk (And.intro (heap_alloc_new w1 (.cells #[.int .i64 (m : Int), .slice A l.length c] 59)) (below_alloc hb1 (.cells #[.int .i64 (m : Int), .slice A l.length c] 59))); clear hb1)
  rw [hw]
  clear hw
  go_loopg [10, 11, 12, 13, 32] N (fun gg _ _ _ _ v32 wr => ∃ i : Nat, i ≤ N ∧ N - i ≤ gg ∧ v32 = .int .i64 i ∧ Aside0 (wr.heap[w1.heap.size]? = some (.cells #[.int .i64 (m : Int), .slice A l.length c] 59 (0, 0)) ∧ Below w.heap.size w wr) ∧ Aside0 (∀ j, j < i → sameB l fs j = false))
  case atStart => exact ⟨0, Nat.zero_le _, by omega, rfl, ⟨HS1.out⟩, ⟨fun j hj => absurd hj (Nat.not_lt_zero _)⟩⟩
  case round =>
    clear HS1
    obtain ⟨i, hi, hgg, rfl, HI, AF⟩ := hrel
    obtain ⟨r0, r1, _, _⟩ := cells2 HI.out.1
    by_cases hlt : i < N
    · have hltz : (i : Int) < (N : Int) := by omega
      go_wp2_with (go_at_call 58; refine (switched_calls m A c l i _ (Kd.C_below HR.out HI.out.2) HS.out HL.out (by omega)).mono ?_; rintro e w2 ⟨v2, rfl, hr2, hb2⟩; obtain ⟨A3, c3, rfl, hc3, hC3⟩ := Kd.R_reads hr2; rw [switchF_len] at hC3 ⊢; have HC3 := Aside0.mk hC3; have HI2 : Aside0 (w2.heap[w1.heap.size]? = some (.cells #[.int .i64 (m : Int), .slice A l.length c] 59 (0, 0)) ∧ Below w.heap.size w w2) := ⟨(hb2.block _ (blk_lt HI.out.1)).trans HI.out.1, below_then HI.out.2 HI.out.2.size hb2⟩; clear hr2 hb2 hc3 hC3)
      clear HI r0 r1
      obtain ⟨wo, rfl⟩ : ∃ wo : World, wo = wr := ⟨_, rfl⟩
      go_loopg [11, 12, 13, 39] l.length (fun g2 v11 _ _ v39 wr => ∃ j : Nat, j ≤ l.length ∧ l.length - j ≤ g2 ∧ v39 = .int .i64 j ∧ v11 = .bool (sameK l fs i j) ∧ Aside0 (Below w2.heap.size w2 wr))
      case atStart => exact ⟨0, Nat.zero_le _, by omega, rfl, rfl, ⟨Below.refl _ _⟩⟩
      case round =>
        obtain ⟨j, hj, hg2, rfl, rfl, HB⟩ := hrel
        by_cases hjlt : j < l.length
        · have hjz : (j : Int) < (l.length : Int) := by omega
          obtain ⟨ad, rfl, hx0, hx1, hx2⟩ := at_T39 (Kd.C_below HC3.out HB.out) (j : Int) (by omega) (by omega)
          rw [Int.toNat_natCast] at hx0 hx1 hx2
          have hrd : rd_T39 (switchF l i) (j : Int) = swT i (l.getD j z39) := by simp only [rd_T39, Int.toNat_natCast]; exact switchF_get hjlt
          rw [hrd] at hx0 hx1 hx2
          obtain ⟨ad2, rfl, hy⟩ := Kd.at_bool (Kd.C_below HR2.out (below_then HI2.out.2 HI2.out.2.size HB.out)) (j : Int) (by omega) (by rw [HLN.out]; omega)
          rw [Int.toNat_natCast] at hy
          have hrd2 : rdOf false fs (j : Int) = fs.getD j false := by simp [rdOf]
          rw [hrd2] at hy
          have hss := sameK_succ l fs i j
          clear hrd hrd2
          generalize ha : fs.getD j false = a at hy hss
          generalize ht : swT i (l.getD j z39) = t at hx0 hx1 hx2 hss
          generalize hb : sameK l fs i j = b at hss
          have HSS := Aside0.mk hss
          have hy8 := pw_cell_below (below_alloc (Below.refl wr.heap.size wr) (.cells #[.int .i64 t.f0, .int .i64 t.f1, .bool t.f2] 39)) hy
          clear ha ht hb hss
          have hjas : (j : Int) < (fs.length : Int) := by rw [HLN.out]; omega
          cases b with
          | false =>
            go_wp2
            go_quiet (fail)
            go_wp2
            go_roundg (l.length - (j + 1))
            case measure => omega
            case rel => exact ⟨j + 1, by omega, by omega, by go_num, by rw [HSS.out]; rfl, ⟨pw_below_drewN (below_alloc HB.out _) _⟩⟩
          | true =>
            go_wp2
            go_quiet (fail)
            go_wp2
            go_roundg (l.length - (j + 1))
            case measure => omega
            case rel => exact ⟨j + 1, by omega, by omega, by go_num, by rw [HSS.out]; rfl, ⟨pw_below_drewN (below_alloc HB.out _) _⟩⟩
        · have hjz : ¬ (j : Int) < (l.length : Int) := by omega
          have hje : j = l.length := by omega
          have HJ : Aside0 (sameK l fs i j = sameB l fs i) := ⟨by rw [hje]; rfl⟩
          have HI3 := Aside0.mk (show wr.heap[w1.heap.size]? = some (.cells #[.int .i64 (m : Int), .slice A l.length c] 59 (0, 0)) ∧ Below w.heap.size w wr from ⟨(HB.out.block _ (blk_lt HI2.out.1)).trans HI2.out.1, below_then HI2.out.2 HI2.out.2.size HB.out⟩)
          clear hje
          obtain ⟨b, hb⟩ : ∃ b, sameB l fs i = b := ⟨_, rfl⟩
          have HBB := Aside0.mk hb
          rw [HJ.out, hb]
          clear hb
          cases b with
          | true =>
            go_wp2
            go_ret2
            refine ⟨?_, HI3.out.2⟩
            rw [← HZ.out, find_hit hlt HBB.out (fun j hj => AF.out j hj)]; rfl
          | false =>
            go_wp2
            go_roundg (N - (i + 1))
            case measure => omega
            case rel =>
              refine ⟨i + 1, by omega, by omega, by go_num, HI3, ⟨fun k hk => ?_⟩⟩
              by_cases e : k = i
              · subst e
                exact HBB.out
              · exact AF.out k (by omega)
    · have hltz : ¬ (i : Int) < (N : Int) := by omega
      go_wp2
      go_ret2
      refine ⟨?_, HI.out.2⟩
      rw [← HZ.out, find_miss (fun j hj => AF.out j (by omega))]; rfl

def feuds_Same.f (a0 : Int) (l1 : List S39) (l2 : List Bool) : Option (Int × Int) := some (sameF a0 l1 l2)
theorem feuds_Same.calls (a0 : Int) (A1 : Option Addr) (c1 : Nat) (l1 : List S39) (A2 : Option Addr) (c2 : Nat) (l2 : List Bool) (r1 : Int) (r2 : Int) (w : World) (hr1 : Kd.C k39 w A1 l1.length l1) (_hc1 : l1.length ≤ c1) (hr2 : Kd.C Kd.bool w A2 l2.length l2) (_hc2 : l2.length ≤ c2) (h : feuds_Same.f a0 l1 l2 = some (r1, r2)) :
    Calls Try.prog 30 #[.int .i64 a0, .slice A1 l1.length c1, .slice A2 l2.length c2] w fun e w' => e = .returned (.tuple #[.int .i64 r1, .int .i64 r2]) ∧ Below w.heap.size w w' := by
  unfold feuds_Same.f at h
  have h := Option.some.inj h
  unfold sameF at h
  by_cases h0 : tiesE a0 l1 = 0
  · rw [if_pos h0] at h
    by_cases hl : l2.length = l1.length
    · rw [if_pos hl] at h
      have h1 := tiesE_parts h0
      obtain ⟨m, rfl⟩ : ∃ m : Nat, a0 = m := ⟨a0.toNat, by omega⟩
      exact Same_good m A1 c1 l1 A2 c2 l2 w hr1 h0 hr2 hl _ h
    · rw [if_neg hl] at h
      cases h
      exact Same_len a0 A1 c1 l1 A2 _ c2 w hr1 h0 hl
  · rw [if_neg h0] at h
    cases h
    exact Same_err a0 A1 c1 l1 _ w hr1 _ rfl h0
end Go.Proofs.Ytaegldcifhgnmaa.A

/- The lists of rings that are gone through, plain; what is held while they are. -/
namespace Go.Proofs.Ytaegldcifhgnmaa.A
open Go.RowKit Go.Proofs.YtaegldcifhgnmaaW.PrintWords Go.Proofs.YtaegldcifhgnmaaW.PrintMore

/-! ### plain -/
def hasB (t : S39) (at_ : Nat) : Bool := t.f0 == (at_ : Int) || t.f1 == (at_ : Int)
def toT (t : S39) (at_ : Nat) : Nat := (t.f0 + t.f1 - (at_ : Int)).toNat
def feT (t : S39) : Nat := if t.f2 then 1 else 0
/-- May a list go on along a tie, d ties more being asked for behind it? -/
def goesB (t : S39) (fr d at_ met : Nat) : Bool := hasB t at_ && (if d = 0 then decide (toT t at_ = fr) else !met.testBit (toT t at_))
/-- The lists that go on from one, with d ties more, and their feuds. -/
def onF (l : List S39) (fr : Nat) : Nat → List Int → Nat → Nat → Nat → List (List Int × Nat)
  | 0, now, at_, _, fe => if at_ = fr then [(now, fe)] else []
  | d + 1, now, at_, met, fe => (List.range l.length).flatMap fun i => if goesB (l.getD i z39) fr d at_ met = true then onF l fr d (now ++ [(i : Int)]) (toT (l.getD i z39) at_) (met ||| 2 ^ toT (l.getD i z39) at_) (fe + feT (l.getD i z39)) else []
def onK (l : List S39) (fr d : Nat) (now : List Int) (at_ met fe k : Nat) : List (List Int × Nat) :=
  (List.range k).flatMap fun i => if goesB (l.getD i z39) fr d at_ met = true then onF l fr d (now ++ [(i : Int)]) (toT (l.getD i z39) at_) (met ||| 2 ^ toT (l.getD i z39) at_) (fe + feT (l.getD i z39)) else []
theorem onF_succ (l : List S39) (fr d : Nat) (now : List Int) (at_ met fe : Nat) : onF l fr (d + 1) now at_ met fe = onK l fr d now at_ met fe l.length := rfl
theorem onK_succ (l : List S39) (fr d : Nat) (now : List Int) (at_ met fe k : Nat) : onK l fr d now at_ met fe (k + 1) = onK l fr d now at_ met fe k ++ (if goesB (l.getD k z39) fr d at_ met = true then onF l fr d (now ++ [(k : Int)]) (toT (l.getD k z39) at_) (met ||| 2 ^ toT (l.getD k z39) at_) (fe + feT (l.getD k z39)) else []) := by
  unfold onK
  rw [List.range_succ, List.flatMap_append, List.flatMap_cons, List.flatMap_nil, List.append_nil]
/-- All lists that begin with a tie, coming back to one of its drovers. -/
def fromF (l : List S39) (d i fr : Nat) : List (List Int × Nat) :=
  onF l fr d [(i : Int)] (toT (l.getD i z39) fr) (2 ^ (l.getD i z39).f0.toNat ||| 2 ^ (l.getD i z39).f1.toNat) (feT (l.getD i z39))
def ringsK (l : List S39) (d k : Nat) : List (List Int × Nat) := (List.range k).flatMap fun i => fromF l d i (l.getD i z39).f0.toNat ++ fromF l d i (l.getD i z39).f1.toNat
/-- All lists with d + 1 ties. -/
def ringsF (l : List S39) (d : Nat) : List (List Int × Nat) := ringsK l d l.length
theorem ringsK_succ (l : List S39) (d k : Nat) : ringsK l d (k + 1) = ringsK l d k ++ (fromF l d k (l.getD k z39).f0.toNat ++ fromF l d k (l.getD k z39).f1.toNat) := by
  unfold ringsK
  rw [List.range_succ, List.flatMap_append, List.flatMap_cons, List.flatMap_nil, List.append_nil]

/-! ### worlds -/
theorem add_block (a : Addr) (k : Nat) : (a.add k).block = a.block := by unfold Addr.add; split <;> rfl
theorem cell_same {W W' : World} {a : Addr} (h : W'.heap[a.block]? = W.heap[a.block]?) : W'.cell? a = W.cell? a := by
  unfold World.cell?
  rw [h]
theorem C_move39 {W W' : World} {A : Option Addr} {n : Nat} {xs : List S39} (h : Kd.C k39 W A n xs) (hm : ∀ ad, A = some ad → 0 < n → W'.heap[ad.block]? = W.heap[ad.block]?) : Kd.C k39 W' A n xs := by
  refine ⟨h.1, h.2.1, fun hp => ?_⟩
  obtain ⟨ad, e, hc⟩ := h.2.2 hp
  refine ⟨ad, e, fun j p hj => ?_⟩
  obtain ⟨c, h1, h2, h3⟩ := hc j p hj
  exact ⟨c, h1, h2, fun i u hu => (cell_same (by rw [add_block]; exact hm ad e hp)).trans (h3 i u hu)⟩
theorem C_moveI {k : IntKind} {W W' : World} {A : Option Addr} {n : Nat} {xs : List Int} (h : Kd.C (Kd.int k) W A n xs) (hm : ∀ ad, A = some ad → 0 < n → W'.heap[ad.block]? = W.heap[ad.block]?) : Kd.C (Kd.int k) W' A n xs := by
  refine ⟨h.1, h.2.1, fun hp => ?_⟩
  obtain ⟨ad, e, hc⟩ := h.2.2 hp
  refine ⟨ad, e, fun j p hj => ?_⟩
  obtain ⟨c, h1, h2, h3⟩ := hc j p hj
  exact ⟨c, h1, h2, fun i u hu => (cell_same (by rw [add_block]; exact hm ad e hp)).trans (h3 i u hu)⟩

/-- All that lay, but for some blocks, lies. -/
structure Fw (S : Nat → Prop) (w w' : World) : Prop where
  os : w'.os = w.os
  tape : w'.tape = w.tape
  output : w'.output = w.output
  size : w.heap.size ≤ w'.heap.size
  block : ∀ k, k < w.heap.size → ¬ S k → w'.heap[k]? = w.heap[k]?
theorem Fw.refl (S : Nat → Prop) (w : World) : Fw S w w := ⟨rfl, rfl, rfl, Nat.le_refl _, fun _ _ _ => rfl⟩
theorem Fw.of_below {S : Nat → Prop} {w w' : World} (h : Below w.heap.size w w') : Fw S w w' := ⟨h.os, h.tape, h.output, h.size, fun k hk _ => h.block k hk⟩
theorem Fw.trans {S S' : Nat → Prop} {a b c : World} (h : Fw S a b) (k : Fw S' b c) (hs : ∀ i, S' i → S i ∨ a.heap.size ≤ i) : Fw S a c :=
  ⟨k.os.trans h.os, k.tape.trans h.tape, k.output.trans h.output, Nat.le_trans h.size k.size, fun i hi hn => (k.block i (Nat.lt_of_lt_of_le hi h.size) (fun h' => (hs i h').elim hn (fun h'' => by omega))).trans (h.block i hi hn)⟩
theorem Fw.below {S : Nat → Prop} {w w' : World} {B : Nat} (h : Fw S w w') (hB : B ≤ w.heap.size) (hs : ∀ k, S k → B ≤ k) : Below B w w' :=
  ⟨h.os, h.tape, h.output, h.size, fun k hk => h.block k (by omega) (fun h' => by have := hs k h'; omega)⟩

/-- A function value that is called with lists and their feuds, and says false each time. -/
structure Visitor (gf : Nat) (lb : Array Value) {σ : Type} (step : σ → List Int → Nat → σ) (Inv : σ → (Nat → Prop) → World → Prop) : Prop where
  enters : ∀ args w, (callFunc gf args).run Try.prog w = .ok (.enter gf args) w
  lt : ∀ {s S W}, Inv s S W → ∀ k, S k → k < W.heap.size
  keep : ∀ {s S W W'}, Inv s S W → (∀ k, S k → W'.heap[k]? = W.heap[k]?) → Inv s S W'
  call : ∀ {s S W} (A : Option Addr) (c : Nat) (now : List Int) (fe : Nat), Inv s S W → Kd.C (Kd.int .i64) W A now.length now → now.length ≤ 1000 → now.length ≤ c → now ≠ [] → fe ≤ 1000 → (∀ ad, A = some ad → ¬ S ad.block ∧ ad.block < W.heap.size) →
    Calls Try.prog gf (#[.slice A now.length c, .int .i64 fe] ++ lb) W fun e w' => e = .returned (.bool false) ∧ ∃ S', Inv (step s now fe) S' w' ∧ (∀ k, S' k → S k ∨ W.heap.size ≤ k) ∧ Fw S W w'
end Go.Proofs.Ytaegldcifhgnmaa.A

/- What is held while rings are gone through. -/
namespace Go.Proofs.Ytaegldcifhgnmaa.A
open Go.RowKit Go.Proofs.YtaegldcifhgnmaaW.PrintWords Go.Proofs.YtaegldcifhgnmaaW.PrintMore

def ptr (g : Nat) : Value := .pointer (some ⟨g, 0, none⟩)
/-- The closure that goes on from a list. -/
def onV (g : Nat) : Value := .func (.func 82) #[] #[.pointer (some ⟨g + 3, 0, none⟩), .pointer (some ⟨g + 1, 0, none⟩), .pointer (some ⟨g + 2, 0, none⟩), .pointer (some ⟨g, 0, none⟩), .pointer (some ⟨g + 4, 0, none⟩)]

/-- What the memory holds: the boxes, the list so far, what the function value keeps; and one block more. -/
structure RSt {σ : Type} (Inv : σ → (Nat → Prop) → World → Prop) (S0 : Nat → Prop) (w0 : World) (g n : Nat) (A : Option Addr) (c : Nat) (l : List S39) (long gf : Nat) (lb : Array Value) (PB : List (Nat × Obj)) (v : Value) (now : List Int) (s : σ) (W : World) : Prop where
  fw : Fw S0 w0 W
  cn : W.heap[g]? = some (.cells #[.int .i64 n, .slice A l.length c] 59 (0, 0))
  cl : W.heap[g + 1]? = some (.cells #[.int .i64 long] 3 (0, 0))
  cv : W.heap[g + 2]? = some (.cells #[.func (.func gf) #[] lb] 81 (0, 0))
  cr : W.heap[g + 3]? = some (.cells #[v] 28 (0, 0))
  co : W.heap[g + 4]? = some (.cells #[onV g] 95 (0, 0))
  row : Kd.R (Kd.int .i64) 3 W (g + 5) (fun _ => True) v now
  inv : ∃ S, Inv s S W ∧ (∀ k, S k → S0 k ∨ g + 5 ≤ k) ∧ (∀ k, S k → some k ≠ v.ownBlock) ∧ ∀ q ∈ PB, ¬ S q.1
  pc : ∀ q ∈ PB, W.heap[q.1]? = some q.2
  pv : ∀ q ∈ PB, some q.1 ≠ v.ownBlock
  pl : ∀ q ∈ PB, q.1 ≠ g + 3
  ct : Kd.C k39 W A l.length l
  ca : ∀ ad, A = some ad → 0 < l.length → ad.block < g ∧ ¬ S0 ad.block
  s0 : ∀ k, S0 k → k < g
  wg : w0.heap.size ≤ g

variable {σ : Type} {Inv : σ → (Nat → Prop) → World → Prop} {S0 : Nat → Prop} {w0 W W' : World} {g n : Nat} {A : Option Addr} {c : Nat} {l : List S39} {long gf : Nat} {lb : Array Value} {PB : List (Nat × Obj)} {v v1 : Value} {now q : List Int} {s : σ} {step : σ → List Int → Nat → σ}

theorem RSt.big (h : RSt Inv S0 w0 g n A c l long gf lb PB v now s W) : g + 4 < W.heap.size := blk_lt h.co
/-- Where only new blocks are made. -/
theorem RSt.next (hv : Visitor gf lb step Inv) (h : RSt Inv S0 w0 g n A c l long gf lb PB v now s W) (hb : Below W.heap.size W W') : RSt Inv S0 w0 g n A c l long gf lb PB v now s W' := by
  have hbig := h.big
  obtain ⟨S, h1, h2, h3, h4⟩ := h.inv
  refine ⟨h.fw.trans (Fw.of_below (S := fun _ => False) hb) (fun _ h => h.elim), (hb.block _ (by omega)).trans h.cn, (hb.block _ (by omega)).trans h.cl, (hb.block _ (by omega)).trans h.cv, (hb.block _ (by omega)).trans h.cr, (hb.block _ (by omega)).trans h.co, Kd.R_below h.row hb, ⟨S, hv.keep h1 (fun k hk => hb.block k (hv.lt h1 k hk)), h2, h3, h4⟩, fun q hq => (hb.block _ (blk_lt (h.pc q hq))).trans (h.pc q hq), h.pv, h.pl, Kd.C_below h.ct hb, h.ca, h.s0, h.wg⟩

/-- The list's box is stored; its row may have grown. -/
theorem RSt.store (hv : Visitor gf lb step Inv) (h : RSt Inv S0 w0 g n A c l long gf lb PB v now s W) {W1 : World} (hg : W.grownBy W1 v.ownBlock) (hr : Kd.R (Kd.int .i64) 3 W1 (g + 5) (fun _ => True) v1 q) (hat : v1.ownBlock = v.ownBlock ∨ ∃ b, v1.ownBlock = some b ∧ W.heap.size ≤ b) :
    RSt Inv S0 w0 g n A c l long gf lb PB v1 q s (W1.setCell ⟨g + 3, 0, none⟩ v1) := by
  have hbig := h.big
  have hbs : ∀ b, v.ownBlock = some b → g + 5 ≤ b := fun b hb => Kd.R_base h.row b hb
  have hblk : ∀ k, k < W.heap.size → some k ≠ v.ownBlock → k ≠ g + 3 → (W1.setCell ⟨g + 3, 0, none⟩ v1).heap[k]? = W.heap[k]? := fun k hk hne hn3 => (Below.heap_setCell _ _ _ _ hn3).trans (hg.block k hk hne)
  have hlow : ∀ k, k < g + 5 → some k ≠ v.ownBlock := fun k hk e => by have := hbs k e.symm; omega
  have hsz : W.heap.size ≤ (W1.setCell ⟨g + 3, 0, none⟩ v1).heap.size := by
    have : W.heap.size ≤ W1.heap.size := hg.size
    unfold World.setCell; split <;> simp <;> omega
  have hot : (W1.setCell ⟨g + 3, 0, none⟩ v1).os = W1.os ∧ (W1.setCell ⟨g + 3, 0, none⟩ v1).tape = W1.tape ∧ (W1.setCell ⟨g + 3, 0, none⟩ v1).output = W1.output := by
    unfold World.setCell; split <;> exact ⟨rfl, rfl, rfl⟩
  obtain ⟨S, h1, h2, h3, h4⟩ := h.inv
  have hwg := h.wg
  have hs3 : ∀ k, S k → k ≠ g + 3 := fun k hk e => by
    rcases h2 k hk with h' | h'
    · have := h.s0 k h'; omega
    · omega
  have hnv1 : ∀ k, k < W.heap.size → some k ≠ v.ownBlock → some k ≠ v1.ownBlock := fun k hk hne e => by
    rcases hat with ho | ⟨b, hb, hle⟩
    · exact hne (e.trans ho)
    · rw [hb] at e; cases e; omega
  refine ⟨⟨hot.1.trans (hg.os.trans h.fw.os), hot.2.1.trans (hg.tape.trans h.fw.tape), hot.2.2.trans (hg.output.trans h.fw.output), Nat.le_trans h.fw.size hsz, fun k hk hs => (hblk k (by have := h.fw.size; omega) (hlow k (by omega)) (by omega)).trans (h.fw.block k hk hs)⟩, ?_, ?_, ?_, ?_, ?_, ?_, ⟨S, hv.keep h1 (fun k hk => hblk k (hv.lt h1 k hk) (h3 k hk) (hs3 k hk)), h2, fun k hk => hnv1 k (hv.lt h1 k hk) (h3 k hk), h4⟩, fun q hq => (hblk q.1 (blk_lt (h.pc q hq)) (h.pv q hq) (h.pl q hq)).trans (h.pc q hq), fun q hq => hnv1 q.1 (blk_lt (h.pc q hq)) (h.pv q hq), h.pl, C_move39 h.ct (fun ad e hp => hblk _ (by have := (h.ca ad e hp).1; omega) (hlow _ (by have := (h.ca ad e hp).1; omega)) (by have := (h.ca ad e hp).1; omega)), h.ca, h.s0, h.wg⟩
  · exact (hblk g (by omega) (hlow g (by omega)) (by omega)).trans h.cn
  · exact (hblk (g + 1) (by omega) (hlow _ (by omega)) (by omega)).trans h.cl
  · exact (hblk (g + 2) (by omega) (hlow _ (by omega)) (by omega)).trans h.cv
  · exact blk_set ((hg.block (g + 3) (by omega) (hlow _ (by omega))).trans h.cr) 0 _
  · exact (hblk (g + 4) (by omega) (hlow _ (by omega)) (by omega)).trans h.co
  · have h1 := Kd.R_bound hr
    exact Kd.R_mono (Kd.R_far h1 (fun k hk => by show k ≠ g + 3; have := hk.2.1; omega) v1) (fun _ _ => trivial)

theorem own_slice_same {A : Option Addr} {n c n' c' : Nat} : (Value.slice A n c).ownBlock = (Value.slice A n' c').ownBlock := by cases A <;> rfl
/-- The list is cut. -/
theorem RSt.cut (hv : Visitor gf lb step Inv) {A' : Option Addr} {n' c' m : Nat} (h : RSt Inv S0 w0 g n A c l long gf lb PB (.slice A' n' c') now s W) (hm : m ≤ now.length) (hq : now.take m = q) : RSt Inv S0 w0 g n A c l long gf lb PB (.slice A' m c') q s (W.setCell ⟨g + 3, 0, none⟩ (.slice A' m c')) := by
  have hr := Kd.R_take (m := m) h.row hm
  rw [hq] at hr
  exact h.store hv (World.grownBy.refl W _) hr (.inl own_slice_same)
theorem RSt.cut' {A' : Option Addr} {n' c' m : Nat} (h : RSt Inv S0 w0 g n A c l long gf lb PB (.slice A' n' c') now s W) (hm : m ≤ now.length) : Kd.R (Kd.int .i64) 3 W (g + 5) (fun _ => True) (.slice A' m c') (now.take m) := Kd.R_take (m := m) h.row hm

/-- A list is visited. -/
theorem RSt.visit (hv : Visitor gf lb step Inv) (h : RSt Inv S0 w0 g n A c l long gf lb PB v now s W) (A' : Option Addr) (c' : Nat) (hvv : v = .slice A' now.length c') (fe : Nat) (hf : fe ≤ 1000) (hn : now.length ≤ 1000) (hne : now ≠ []) :
    Calls Try.prog gf (#[.slice A' now.length c', .int .i64 fe] ++ lb) W fun e w' => e = .returned (.bool false) ∧ RSt Inv S0 w0 g n A c l long gf lb PB v now (step s now fe) w' := by
  subst hvv
  have hbig := h.big
  obtain ⟨S, h1, h2, h3, h4⟩ := h.inv
  have hrr := Kd.R_reads' h.row
  refine (hv.call A' c' now fe h1 hrr.2.2 hn hrr.2.1 hne hf (fun ad e => ?_)).mono ?_
  · subst e
    exact ⟨fun hs => h3 _ hs rfl, Kd.R_lt h.row ad.block rfl⟩
  rintro e w' ⟨rfl, S', k1, k2, k3⟩
  have hS : ∀ k, S k → S0 k ∨ g + 5 ≤ k := h2
  have hlow : ∀ k, g ≤ k → k < g + 5 → ¬ S k := fun k ha hb hs => by
    rcases h2 k hs with h' | h'
    · have := h.s0 k h'; omega
    · omega
  have hblk : ∀ k, k < W.heap.size → ¬ S k → w'.heap[k]? = W.heap[k]? := k3.block
  have hpb : ∀ q ∈ PB, ¬ S' q.1 := fun q hq hs => by
    rcases k2 q.1 hs with h' | h'
    · exact h4 q hq h'
    · have := blk_lt (h.pc q hq); omega
  refine ⟨rfl, ⟨h.fw.trans k3 (fun i hi => ?_), (hblk g (by omega) (hlow g (by omega) (by omega))).trans h.cn, (hblk _ (by omega) (hlow _ (by omega) (by omega))).trans h.cl, (hblk _ (by omega) (hlow _ (by omega) (by omega))).trans h.cv, (hblk _ (by omega) (hlow _ (by omega) (by omega))).trans h.cr, (hblk _ (by omega) (hlow _ (by omega) (by omega))).trans h.co, ?_, ⟨S', k1, fun k hk => ?_, fun k hk => ?_, hpb⟩, fun q hq => (hblk q.1 (blk_lt (h.pc q hq)) (h4 q hq)).trans (h.pc q hq), h.pv, h.pl, C_move39 h.ct (fun ad e hp => hblk _ (by have := (h.ca ad e hp).1; omega) (fun hs => ?_)), h.ca, h.s0, h.wg⟩⟩
  · rcases h2 i hi with h' | h'
    · exact .inl h'
    · exact .inr (by have := h.wg; omega)
  · obtain ⟨hok, inner, ho, hr⟩ := h.row
    exact ⟨hok, inner, own_move ho (fun k hk => hblk k (Kd.R_lt h.row k hk) (fun hs => h3 k hs hk.symm)), hr⟩
  · rcases k2 k hk with h' | h'
    · exact h2 k h'
    · exact .inr (by omega)
  · rcases k2 k hk with h' | h'
    · exact h3 k h'
    · intro e
      have := Kd.R_lt h.row k e.symm
      omega
  · have hca := h.ca ad e hp
    rcases h2 _ hs with h' | h'
    · exact hca.2 h'
    · omega
end Go.Proofs.Ytaegldcifhgnmaa.A

/- The rings: the closure that goes on from a list. -/
namespace Go.Proofs.Ytaegldcifhgnmaa.A
open Go.RowKit Go.Proofs.YtaegldcifhgnmaaW.PrintWords Go.Proofs.YtaegldcifhgnmaaW.PrintMore

set_option maxRecDepth 100000 in
set_option maxHeartbeats 400000 in
theorem has_calls (t : S39) (at_ : Nat) (w : World) :
    Calls Try.prog 80 #[.agg #[.int .i64 t.f0, .int .i64 t.f1, .bool t.f2], .int .i64 at_] w fun e w' => e = .returned (.bool (hasB t at_)) ∧ Below w.heap.size w w' := by
  have HB := Aside0.mk (below_alloc (Below.refl w.heap.size w) (.cells #[.int .i64 t.f0, .int .i64 t.f1, .bool t.f2] 39))
  obtain ⟨b, hbv⟩ : ∃ b, hasB t at_ = b := ⟨_, rfl⟩
  have HV := Aside0.mk hbv
  rw [hbv]
  clear hbv
  cases h0 : t.f0 == (at_ : Int) with
  | true =>
    go_enter Try.func80, Try.ntmps80
    go_wp2
    go_ret
    exact ⟨by rw [← HV.out]; simp only [hasB, h0, Bool.true_or]; rfl, HB.out⟩
  | false =>
    go_enter Try.func80, Try.ntmps80
    go_wp2
    go_ret
    exact ⟨by rw [← HV.out]; simp only [hasB, h0, Bool.false_or]; rfl, HB.out⟩

theorem enters82 : ∀ args w, (callFunc 82 args).run Try.prog w = .ok (.enter 82 args) w := enters_of Try.func82 (by kernel_rfl) rfl

section
variable {σ : Type} (Inv : σ → (Nat → Prop) → World → Prop) (step : σ → List Int → Nat → σ) (S0 : Nat → Prop) (w0 : World) (g n : Nat) (A : Option Addr) (c : Nat) (l : List S39) (long gf : Nat) (lb : Array Value) (fr : Nat)

def foldV (step : σ → List Int → Nat → σ) (s : σ) (V : List (List Int × Nat)) : σ := V.foldl (fun s x => step s x.1 x.2) s

def OnPost (PB : List (Nat × Obj)) (now : List Int) (s : σ) (e : Ending) (w' : World) : Prop := e = .returned (.bool false) ∧ ∃ v, RSt Inv S0 w0 g n A c l long gf lb PB v now s w'
def OnSaid (d : Nat) : Prop :=
  ∀ (PB : List (Nat × Obj)) (now : List Int) (at_ met fe : Nat) (v : Value) (s : σ) (W : World), RSt Inv S0 w0 g n A c l long gf lb PB v now s W → now.length + d = long → now ≠ [] → at_ < 60 → met < 2 ^ 60 → fe + d ≤ 1000 →
    Calls Try.prog 82 #[.int .i64 fr, .int .i64 at_, .int .i64 met, .int .i64 fe, .pointer (some ⟨g + 3, 0, none⟩), .pointer (some ⟨g + 1, 0, none⟩), .pointer (some ⟨g + 2, 0, none⟩), .pointer (some ⟨g, 0, none⟩), .pointer (some ⟨g + 4, 0, none⟩)] W (OnPost Inv S0 w0 g n A c l long gf lb PB now (foldV step s (onF l fr d now at_ met fe)))
end
variable {σ : Type} {Inv : σ → (Nat → Prop) → World → Prop} {step : σ → List Int → Nat → σ} {S0 : Nat → Prop} {w0 : World} {g n : Nat} {A : Option Addr} {c : Nat} {l : List S39} {long gf : Nat} {lb : Array Value} {fr : Nat}

set_option maxRecDepth 100000 in
set_option maxHeartbeats 1600000 in
theorem on_zero (hv : Visitor gf lb step Inv) (hlong : long ≤ 1000) : OnSaid Inv step S0 w0 g n A c l long gf lb fr 0 := by
  intro PB now at_ met fe v s W hR hn hne hat hmet hfe
  have HR := Aside0.mk hR
  have HV := Aside0.mk hv
  have hz : (((now.length : Nat) : Int) == (long : Int)) = true := by rw [beq_iff_eq]; omega
  have eg := hv.enters
  obtain ⟨A2, c2, hvv, hc2, _⟩ := Kd.R_reads hR.row
  obtain ⟨l0, _⟩ := cells1 hR.cr
  obtain ⟨l1, _⟩ := cells1 hR.cl
  obtain ⟨l2, _⟩ := cells1 hR.cv
  have hvis := Aside0.mk (hR.visit hv A2 c2 hvv fe (by omega) (by omega) hne)
  subst hvv
  clear hR hv hn hne hc2 hmet hfe
  by_cases hf : at_ = fr
  · have hfz : ((at_ : Int) == (fr : Int)) = true := by rw [beq_iff_eq, hf]
    have HF : Aside0 (foldV step s (onF l fr 0 now at_ met fe) = step s now fe) := ⟨by unfold onF; rw [if_pos hf]; rfl⟩
    rw [HF.out]
    clear hf
    go_enter Try.func82, Try.ntmps82
    go_wp2
    go_step3
    go_wp2_with (go_at_fn gf; refine hvis.out.mono ?_; rintro e w2 ⟨rfl, hR2⟩; have HR2 := Aside0.mk hR2; clear hR2)
    rw [Exit.noGoto_ret]
    go_ret
    exact ⟨rfl, _, HR2.out⟩
  · have hfz : ((at_ : Int) == (fr : Int)) = false := by rw [beq_eq_false_iff_ne]; omega
    have HF : Aside0 (foldV step s (onF l fr 0 now at_ met fe) = s) := ⟨by unfold onF; rw [if_neg hf]; rfl⟩
    rw [HF.out]
    clear hf
    go_enter Try.func82, Try.ntmps82
    go_wp2
    go_step3
    go_wp2
    rw [Exit.noGoto_ret]
    go_ret
    exact ⟨rfl, _, HR.out⟩
end Go.Proofs.Ytaegldcifhgnmaa.A

/- The rings: the closure that goes on from a list, one tie after another. -/
namespace Go.Proofs.Ytaegldcifhgnmaa.A
open Go.RowKit Go.Proofs.YtaegldcifhgnmaaW.PrintWords Go.Proofs.YtaegldcifhgnmaaW.PrintMore

variable {σ : Type} {Inv : σ → (Nat → Prop) → World → Prop} {step : σ → List Int → Nat → σ} {S0 : Nat → Prop} {w0 : World} {g n : Nat} {A : Option Addr} {c : Nat} {l : List S39} {long gf : Nat} {lb : Array Value} {fr : Nat}

theorem foldV_append (s : σ) (V V' : List (List Int × Nat)) : foldV step s (V ++ V') = foldV step (foldV step s V) V' := List.foldl_append
theorem foldV_nil (s : σ) : foldV step s [] = s := rfl
theorem toT_eq {t : S39} {at_ : Nat} (hs : 0 ≤ t.f0 ∧ t.f0 < 60 ∧ 0 ≤ t.f1 ∧ t.f1 < 60) (h : hasB t at_ = true) : t.f0 + t.f1 - (at_ : Int) = (toT t at_ : Int) ∧ toT t at_ < 60 := by
  unfold hasB at h
  unfold toT
  rw [Bool.or_eq_true, beq_iff_eq, beq_iff_eq] at h
  omega
theorem bit_ask {y k : Nat} (hk : k ≤ 60) (hy : y < 2 ^ 62) : (bits .and .i64 ((y : Int) / 2 ^ k) 1 == 1) = y.testBit k := by
  have := bit_and y k hk hy
  rw [shr_nat y k hk] at this
  have e : ((y : Int) / 2 ^ k) = ((y / 2 ^ k : Nat) : Int) := by simp
  rw [e, this]
  cases y.testBit k <;> rfl

theorem onK_no {t : S39} {d : Nat} {now : List Int} {at_ met fe k : Nat} {s : σ} (ht : l.getD k z39 = t) (h : goesB t fr d at_ met = false) : foldV step s (onK l fr d now at_ met fe (k + 1)) = foldV step s (onK l fr d now at_ met fe k) := by
  rw [onK_succ, ht, h]
  simp
theorem onK_yes {t : S39} {d : Nat} {now : List Int} {at_ met fe k : Nat} {s : σ} (ht : l.getD k z39 = t) (h : goesB t fr d at_ met = true) : foldV step s (onK l fr d now at_ met fe (k + 1)) = foldV step (foldV step s (onK l fr d now at_ met fe k)) (onF l fr d (now ++ [(k : Int)]) (toT t at_) (met ||| 2 ^ toT t at_) (fe + feT t)) := by
  rw [onK_succ, ht, if_pos h, foldV_append]

/-- The tests of a tie that goes on, as the walk meets them. -/
theorem goes_yes {t : S39} {d at_ met z N L : Nat} (hz : toT t at_ = z) (h : goesB t fr d at_ met = true) (hn : N + (d + 1) = L) (h60 : z < 60) (hm : met < 2 ^ 60) :
    (((N : Int) == (L : Int) - 1) = true ∧ decide ((N : Int) < (L : Int) - 1) = false ∧ ((z : Int) != (fr : Int)) = false) ∨ (((N : Int) == (L : Int) - 1) = false ∧ decide ((N : Int) < (L : Int) - 1) = true ∧ (bits .and .i64 ((met : Int) / 2 ^ z) 1 == 1) = false) := by
  unfold goesB at h
  rw [Bool.and_eq_true, hz] at h
  by_cases hd : d = 0
  · rw [if_pos hd] at h
    have := of_decide_eq_true h.2
    exact .inl ⟨by rw [beq_iff_eq]; omega, decide_eq_false (by omega), by rw [bne_eq_false_iff_eq]; omega⟩
  · rw [if_neg hd] at h
    exact .inr ⟨by rw [beq_eq_false_iff_ne]; omega, decide_eq_true (by omega), by rw [bit_ask (by omega) (lt62 hm (by omega))]; simpa using h.2⟩
theorem goes_no {t : S39} {d at_ met z N L : Nat} (hz : toT t at_ = z) (hb : hasB t at_ = true) (h : goesB t fr d at_ met = false) (hn : N + (d + 1) = L) (h60 : z < 60) (hm : met < 2 ^ 60) :
    (((N : Int) == (L : Int) - 1) = true ∧ decide ((N : Int) < (L : Int) - 1) = false ∧ ((z : Int) != (fr : Int)) = true) ∨ (((N : Int) == (L : Int) - 1) = false ∧ decide ((N : Int) < (L : Int) - 1) = true ∧ (bits .and .i64 ((met : Int) / 2 ^ z) 1 == 1) = true) := by
  unfold goesB at h
  rw [hb, Bool.true_and, hz] at h
  by_cases hd : d = 0
  · rw [if_pos hd] at h
    have := of_decide_eq_false h
    exact .inl ⟨by rw [beq_iff_eq]; omega, decide_eq_false (by omega), by rw [bne_iff_ne]; omega⟩
  · rw [if_neg hd] at h
    exact .inr ⟨by rw [beq_eq_false_iff_ne]; omega, decide_eq_true (by omega), by rw [bit_ask (by omega) (lt62 hm (by omega))]; simpa using h⟩

set_option maxRecDepth 100000 in
set_option maxHeartbeats 3200000 in
theorem on_step (hv : Visitor gf lb step Inv) (hlong : long ≤ 1000) (hsm : smallT l) (hl : l.length ≤ 1000) (d : Nat) (ih : OnSaid Inv step S0 w0 g n A c l long gf lb fr d) : OnSaid Inv step S0 w0 g n A c l long gf lb fr (d + 1) := by
  intro PB now at_ met fe v s W hR hn hne hat hmet hfe
  have HR := Aside0.mk hR
  have HV := Aside0.mk hv
  have HI := Aside0.mk ih
  have HS := Aside0.mk hsm
  have HM := Aside0.mk hmet
  have HN := Aside0.mk hn
  have hz : (((now.length : Nat) : Int) == (long : Int)) = false := by rw [beq_eq_false_iff_ne]; omega
  obtain ⟨A2, c2, hvv, hc2, _⟩ := Kd.R_reads hR.row
  subst hvv
  obtain ⟨l0, _⟩ := cells1 hR.cr
  obtain ⟨l1, _⟩ := cells1 hR.cl
  obtain ⟨n0, n1, _, _⟩ := cells2 hR.cn
  obtain ⟨Z, hZ⟩ : ∃ Z, foldV step s (onF l fr (d + 1) now at_ met fe) = Z := ⟨_, rfl⟩
  have HZ := Aside0.mk hZ
  rw [hZ]
  clear hR hv ih hsm hmet hc2 hZ
  go_enter Try.func82, Try.ntmps82
  go_wp2
  go_step3
  go_wp2
  go_step3
  go_wp2
  have hlong' : long ≤ 1000 := hlong
  go_loopg [14, 15, 16, 17, 18, 35, 51] l.length (fun gg _ _ _ _ _ v35 _ wr => ∃ (k : Nat) (v1 : Value), k ≤ l.length ∧ l.length - k ≤ gg ∧ v35 = .int .i64 k ∧ Aside0 (RSt Inv S0 w0 g n A c l long gf lb PB v1 now (foldV step s (onK l fr d now at_ met fe k)) wr))
  case atStart => exact ⟨0, _, Nat.zero_le _, by omega, rfl, HR⟩
  case round =>
    clear HR l0 l1 n0 n1
    obtain ⟨k, v1, hk, hgg, rfl, HP⟩ := hrel
    by_cases hlt : k < l.length
    · have hltz : (k : Int) < (l.length : Int) := by omega
      obtain ⟨ad, had, hx0, hx1, hx2⟩ := at_T39 HP.out.ct (k : Int) (by omega) (by omega)
      subst had
      rw [Int.toNat_natCast] at hx0 hx1 hx2
      have hrd : rd_T39 l (k : Int) = l.getD k z39 := by simp [rd_T39]
      rw [hrd] at hx0 hx1 hx2
      have hts := HS.out _ (getD_mem z39 hlt)
      generalize hy : l.getD k z39 = y at hx0 hx1 hx2 hts
      obtain ⟨ya, yb, yf⟩ := y
      dsimp only at hx0 hx1 hx2 hts
      have HY := Aside0.mk hy
      clear hy hrd
      obtain ⟨A1, c1, hv1, hc1, _⟩ := Kd.R_reads HP.out.row
      subst hv1
      clear hc1
      cases hb : hasB ⟨ya, yb, yf⟩ at_ with
      | false =>
        have HBB := Aside0.mk hb
        have HNO : Aside0 (goesB ⟨ya, yb, yf⟩ fr d at_ met = false) := ⟨by unfold goesB; rw [hb]; rfl⟩
        clear hb hts
        go_wp2_with (go_at_call 80; refine (has_calls ⟨ya, yb, _⟩ at_ _).mono ?_; rw [HBB.out]; rintro e w3 ⟨rfl, hb3⟩; obtain ⟨t0, t1, t2, _, _, _⟩ := cells3 ((hb3.block _ (by simp)).trans (heap_alloc_new wr (.cells #[.int .i64 ya, .int .i64 yb, .bool _] 39))); have HP3 := Aside0.mk (HP.out.next HV.out (below_then (below_alloc (Below.refl wr.heap.size wr) _) (below_alloc (Below.refl _ _) _).size hb3)); clear hb3)
        go_roundg (l.length - (k + 1))
        case measure => omega
        case rel => exact ⟨k + 1, _, by omega, by omega, by go_num, ⟨by rw [onK_no HY.out HNO.out]; exact HP3.out⟩⟩
      | true =>
        have HBB := Aside0.mk hb
        obtain ⟨hz1, hz2⟩ := toT_eq hts hb
        obtain ⟨z, hzz⟩ : ∃ z, toT ⟨ya, yb, yf⟩ at_ = z := ⟨_, rfl⟩
        rw [hzz] at hz1 hz2
        have HZZ := Aside0.mk hzz
        obtain ⟨hts0, hts1, hts2, hts3⟩ := hts
        clear hzz hb
        cases hgo : goesB ⟨ya, yb, yf⟩ fr d at_ met with
        | false =>
          have HGO := Aside0.mk hgo
          rcases goes_no HZZ.out HBB.out hgo HN.out hz2 HM.out with ⟨e1, e2, e3⟩ | ⟨e1, e2, e3⟩
          all_goals
            clear hgo
            go_wp2_with (go_at_call 80; refine (has_calls ⟨ya, yb, _⟩ at_ _).mono ?_; rw [HBB.out]; rintro e w3 ⟨rfl, hb3⟩; obtain ⟨t0, t1, t2, _, _, _⟩ := cells3 ((hb3.block _ (by simp)).trans (heap_alloc_new wr (.cells #[.int .i64 ya, .int .i64 yb, .bool _] 39))); have HP3 := Aside0.mk (HP.out.next HV.out (below_then (below_alloc (Below.refl wr.heap.size wr) _) (below_alloc (Below.refl _ _) _).size hb3)); clear hb3; obtain ⟨l3, lf3⟩ := cells1 HP3.out.cr; obtain ⟨m3, _⟩ := cells1 HP3.out.cl)
            go_roundg (l.length - (k + 1))
            case measure => omega
            case rel => exact ⟨k + 1, _, by omega, by omega, by go_num, ⟨by rw [onK_no HY.out HGO.out]; exact HP3.out⟩⟩
        | true =>
          have HGO := Aside0.mk hgo
          obtain ⟨M, hM⟩ : ∃ M, met ||| 2 ^ z = M := ⟨_, rfl⟩
          obtain ⟨G, hG⟩ : ∃ G, fe + feT ⟨ya, yb, yf⟩ = G := ⟨_, rfl⟩
          have HREC : Aside0 (∀ V4 W6, RSt Inv S0 w0 g n (some ad) c l long gf lb PB V4 (now ++ [(k : Int)]) (foldV step s (onK l fr d now at_ met fe k)) W6 → Calls Try.prog 82 #[.int .i64 fr, .int .i64 z, .int .i64 M, .int .i64 G, .pointer (some ⟨g + 3, 0, none⟩), .pointer (some ⟨g + 1, 0, none⟩), .pointer (some ⟨g + 2, 0, none⟩), .pointer (some ⟨g, 0, none⟩), .pointer (some ⟨g + 4, 0, none⟩)] W6 (OnPost Inv S0 w0 g n (some ad) c l long gf lb PB (now ++ [(k : Int)]) (foldV step s (onK l fr d now at_ met fe (k + 1))))) := ⟨fun V4 W6 h6 => by
            have := HI.out PB (now ++ [(k : Int)]) z M G V4 _ W6 h6 (by have := HN.out; rw [List.length_append, List.length_singleton]; omega) (by simp) hz2 (by rw [← hM]; exact or_lt HM.out (Nat.pow_lt_pow_right (by decide) hz2)) (by rw [← hG]; unfold feT; split <;> omega)
            rw [onK_yes HY.out HGO.out, HZZ.out, hM, hG]
            exact this⟩
          have hor : bits .or .i64 (met : Int) (2 ^ z) = (M : Int) := by rw [pow_cast, or64 met (2 ^ z) (lt62 HM.out (by omega)) (two_lt (by omega)), hM]
          have hp2 : IntKind.i64.wrap ((2 : Int) ^ z) = 2 ^ z := by rw [pow_cast]; exact wrap64_nat _ (Int.natCast_nonneg _) (by exact_mod_cast two_lt (show z < 62 by omega))
          have HOR := Aside0.mk hor
          have HP2 := Aside0.mk hp2
          have HG := Aside0.mk hG
          clear hor hp2 hM hG
          rcases goes_yes HZZ.out hgo HN.out hz2 HM.out with ⟨e1, e2, e3⟩ | ⟨e1, e2, e3⟩
          all_goals
            clear hgo
            cases yf
            all_goals
              first
                | (have hg1 : fe = G := HG.out; subst hg1)
                | (have hg1 : (fe : Int) + 1 = (G : Int) := by have h : fe + 1 = G := HG.out; omega)
              go_wp2_with (first
                | (go_at_call 80; refine (has_calls ⟨ya, yb, _⟩ at_ _).mono ?_; rw [HBB.out]; rintro e w3 ⟨rfl, hb3⟩; obtain ⟨t0, t1, t2, _, _, _⟩ := cells3 ((hb3.block _ (by simp)).trans (heap_alloc_new wr (.cells #[.int .i64 ya, .int .i64 yb, .bool _] 39))); have HP3 := Aside0.mk (HP.out.next HV.out (below_then (below_alloc (Below.refl wr.heap.size wr) _) (below_alloc (Below.refl _ _) _).size hb3)); clear hb3; obtain ⟨l3, lf3⟩ := cells1 HP3.out.cr; obtain ⟨m3, _⟩ := cells1 HP3.out.cl)
                | (at_builtin; refine Kd.R_append (Kd.int .i64) (w0 := w3) (g + 5) rfl (.tmp 79) (.tmp 81) 28 3 (.int .i64 0) 8 rfl Try.underlying28 info3 rfl (by decide) (by omega) (.slice A1 now.length c1) now (k : Int) [.int .i64 (k : Int)] (fun _ => True) (fun _ => False) rfl rfl rfl (fun _ hk => hk.elim) (fun _ _ => trivial) HP3.out.row (Below.refl _ _) (by have := HP3.out.big; omega) (by omega) ?_; intro v4 w4 ho hbb hg4 hat; obtain ⟨A4, c4, hv4, hc4, _⟩ := Kd.R_reads ho; rw [show (now ++ [(k : Int)]).length = now.length + 1 from by simp] at hv4; subst hv4; have HP4 := Aside0.mk (HP3.out.store HV.out hg4 ho hat); have hk4 := (hg4.block _ (blk_lt HP3.out.cr) (fun e => by have := Kd.R_base HP3.out.row _ e.symm; omega)).trans HP3.out.cr; obtain ⟨l4, lf4⟩ := cells1 hk4; clear ho hbb hg4 hat hk4 hc4 l3 lf3 m3 t0 t1 t2))
              obtain ⟨W5, hW5⟩ : ∃ W5, W5 = w4.setCell ⟨g + 3, 0, none⟩ (.slice A4 (now.length + 1) c4) := ⟨_, rfl⟩
              rw [← hW5] at HP4 ⊢
              obtain ⟨V4, hV4⟩ : ∃ V4, V4 = Value.slice A4 (now.length + 1) c4 := ⟨_, rfl⟩
              rw [← hV4] at HP4
              clear hW5 hV4 l4 lf4 HP3
              have HS0 : Aside0 (W5.drew.cell? ⟨g + 4, 0, none⟩ = some (.func (.func 82) #[] #[.pointer (some ⟨g + 3, 0, none⟩), .pointer (some ⟨g + 1, 0, none⟩), .pointer (some ⟨g + 2, 0, none⟩), .pointer (some ⟨g, 0, none⟩), .pointer (some ⟨g + 4, 0, none⟩)])) := ⟨(cells1 HP4.out.co).1⟩
              have hp2 := HP2.out
              have hor := HOR.out
              have eg := enters82
              go_region_held3 (fun w' : World => w'.cell? ⟨g + 4, 0, none⟩ = some (.func (.func 82) #[] #[.pointer (some ⟨g + 3, 0, none⟩), .pointer (some ⟨g + 1, 0, none⟩), .pointer (some ⟨g + 2, 0, none⟩), .pointer (some ⟨g, 0, none⟩), .pointer (some ⟨g + 4, 0, none⟩)])) (first | exact HS0.out | exact HS7.out) ((go_at_call 82; have hP6 := HP4.out.next HV.out (below_drew (Below.refl W5.heap.size W5)); go_loud (refine (HREC.out V4 _ hP6).mono ?_); rintro e w7 ⟨rfl, v7, hP7⟩; have HS7 : Aside0 (w7.cell? ⟨g + 4, 0, none⟩ = some (.func (.func 82) #[] #[.pointer (some ⟨g + 3, 0, none⟩), .pointer (some ⟨g + 1, 0, none⟩), .pointer (some ⟨g + 2, 0, none⟩), .pointer (some ⟨g, 0, none⟩), .pointer (some ⟨g + 4, 0, none⟩)])) := ⟨(cells1 hP7.co).1⟩; have HP7 := Aside0.mk hP7; clear hP7 hP6))
              clear eg hor hp2 HS0 HREC HP4 HOR HP2
              obtain ⟨A7, c7, hv7, hc7, _⟩ := Kd.R_reads HP7.out.row
              rw [show (now ++ [(k : Int)]).length = now.length + 1 from by simp] at hv7 hc7
              subst hv7
              obtain ⟨l7, lf7⟩ := cells1 HP7.out.cr
              have hn9 : now.length ≤ 1000 := by omega
              go_wp2
              go_roundg (l.length - (k + 1))
              case measure => omega
              case rel => exact ⟨k + 1, _, by omega, by omega, by go_num, ⟨HP7.out.cut HV.out (m := now.length) (by simp) (by simp)⟩⟩
    · have hltz : ¬ (k : Int) < (l.length : Int) := by omega
      have hke : k = l.length := by omega
      subst hke
      have hZ : foldV step s (onK l fr d now at_ met fe l.length) = Z := HZ.out
      go_wp2
      try rw [Exit.noGoto_ret]
      go_ret
      exact ⟨rfl, _, by rw [← hZ]; exact HP.out⟩
end Go.Proofs.Ytaegldcifhgnmaa.A

/- The rings: all of them are gone through. -/
namespace Go.Proofs.Ytaegldcifhgnmaa.A
open Go.RowKit Go.Proofs.YtaegldcifhgnmaaW.PrintWords Go.Proofs.YtaegldcifhgnmaaW.PrintMore

variable {σ : Type} {Inv : σ → (Nat → Prop) → World → Prop} {step : σ → List Int → Nat → σ} {S0 : Nat → Prop} {w0 W : World} {g n : Nat} {A : Option Addr} {c : Nat} {l : List S39} {long gf : Nat} {lb : Array Value} {fr : Nat}

theorem on_all (hv : Visitor gf lb step Inv) (hlong : long ≤ 1000) (hsm : smallT l) (hl : l.length ≤ 1000) : ∀ d, OnSaid Inv step S0 w0 g n A c l long gf lb fr d
  | 0 => on_zero hv hlong
  | d + 1 => on_step hv hlong hsm hl d (on_all hv hlong hsm hl d)

def RingsPost (Inv : σ → (Nat → Prop) → World → Prop) (s : σ) (S0 : Nat → Prop) (w : World) (e : Ending) (w' : World) : Prop :=
  e = .returned (.bool false) ∧ ∃ S', Inv s S' w' ∧ (∀ k, S' k → S0 k ∨ w.heap.size ≤ k) ∧ Fw S0 w w'

theorem RSt.weaken {PB : List (Nat × Obj)} {v : Value} {now : List Int} {s : σ} (h : RSt Inv S0 w0 g n A c l long gf lb PB v now s W) : RSt Inv S0 w0 g n A c l long gf lb [] v now s W := by
  obtain ⟨S, h1, h2, h3, _⟩ := h.inv
  exact ⟨h.fw, h.cn, h.cl, h.cv, h.cr, h.co, h.row, ⟨S, h1, h2, h3, fun q hq => absurd hq (List.not_mem_nil)⟩, fun q hq => absurd hq (List.not_mem_nil), fun q hq => absurd hq (List.not_mem_nil), fun q hq => absurd hq (List.not_mem_nil), h.ct, h.ca, h.s0, h.wg⟩
theorem RSt.protect {v : Value} {now : List Int} {s : σ} (hv : Visitor gf lb step Inv) (h : RSt Inv S0 w0 g n A c l long gf lb [] v now s W) (o1 o2 : Obj) : RSt Inv S0 w0 g n A c l long gf lb [(W.heap.size, o1), (W.heap.size + 1, o2)] v now s ((W.alloc o1).alloc o2) := by
  have hb : Below W.heap.size W ((W.alloc o1).alloc o2) := below_alloc (below_alloc (Below.refl _ _) _) _
  have h' := h.next hv hb
  have hbig := h.big
  obtain ⟨S, h1, h2, h3, _⟩ := h'.inv
  obtain ⟨S1, k1, k2, k3, _⟩ := h.inv
  have hs1 : (W.alloc o1).heap.size = W.heap.size + 1 := by simp
  have e1 : ((W.alloc o1).alloc o2).heap[W.heap.size]? = some o1 := ((below_alloc (Below.refl _ _) o2 : Below (W.alloc o1).heap.size (W.alloc o1) _).block _ (by omega)).trans (heap_alloc_new W o1)
  have e2 : ((W.alloc o1).alloc o2).heap[W.heap.size + 1]? = some o2 := by have := heap_alloc_new (W.alloc o1) o2; rwa [hs1] at this
  have hvo : ∀ k, W.heap.size ≤ k → some k ≠ v.ownBlock := fun k hk e => by have := Kd.R_lt h.row k e.symm; omega
  have hmem : ∀ q ∈ [(W.heap.size, o1), (W.heap.size + 1, o2)], q = (W.heap.size, o1) ∨ q = (W.heap.size + 1, o2) := fun q hq => by simpa using hq
  refine ⟨h'.fw, h'.cn, h'.cl, h'.cv, h'.cr, h'.co, h'.row, ⟨S1, hv.keep k1 (fun k hk => hb.block k (hv.lt k1 k hk)), k2, k3, fun q hq hs => ?_⟩, fun q hq => ?_, fun q hq => ?_, fun q hq => ?_, h'.ct, h'.ca, h'.s0, h'.wg⟩
  · have := hv.lt k1 _ hs
    rcases hmem q hq with rfl | rfl
    · exact absurd this (Nat.lt_irrefl _)
    · dsimp only at this; omega
  · rcases hmem q hq with rfl | rfl
    · exact e1
    · exact e2
  · rcases hmem q hq with rfl | rfl
    · exact hvo _ (Nat.le_refl _)
    · exact hvo _ (Nat.le_succ _)
  · rcases hmem q hq with rfl | rfl
    · dsimp only; omega
    · dsimp only; omega
theorem RSt.start (hv : Visitor gf lb step Inv) {s : σ} (hI : Inv s S0 W) (hr : Kd.C k39 W A l.length l) (hca : ∀ ad, A = some ad → 0 < l.length → ¬ S0 ad.block) :
    RSt Inv S0 W W.heap.size n A c l long gf lb [] (.slice none 0 0) [] s (((((W.alloc (.cells #[.int .i64 n, .slice A l.length c] 59)).alloc (.cells #[.int .i64 long] 3)).alloc (.cells #[.func (.func gf) #[] lb] 81)).alloc (.cells #[.slice none 0 0] 28)).alloc (.cells #[.func (.func 82) #[] #[.pointer (some ⟨W.heap.size + 1 + 1 + 1, 0, none⟩), .pointer (some ⟨W.heap.size + 1, 0, none⟩), .pointer (some ⟨W.heap.size + 1 + 1, 0, none⟩), .pointer (some ⟨W.heap.size, 0, none⟩), .pointer (some ⟨W.heap.size + 1 + 1 + 1 + 1, 0, none⟩)]] 95)) := by
  have hb : Below W.heap.size W (((((W.alloc (.cells #[.int .i64 n, .slice A l.length c] 59)).alloc (.cells #[.int .i64 long] 3)).alloc (.cells #[.func (.func gf) #[] lb] 81)).alloc (.cells #[.slice none 0 0] 28)).alloc (.cells #[.func (.func 82) #[] #[.pointer (some ⟨W.heap.size + 1 + 1 + 1, 0, none⟩), .pointer (some ⟨W.heap.size + 1, 0, none⟩), .pointer (some ⟨W.heap.size + 1 + 1, 0, none⟩), .pointer (some ⟨W.heap.size, 0, none⟩), .pointer (some ⟨W.heap.size + 1 + 1 + 1 + 1, 0, none⟩)]] 95)) := below_alloc (below_alloc (below_alloc (below_alloc (below_alloc (Below.refl _ _) _) _) _) _) _
  have hlt : ∀ k, S0 k → k < W.heap.size := hv.lt hI
  refine ⟨Fw.of_below hb, ?_, ?_, ?_, ?_, ?_, Kd.R_nil _ _ _ _ _, ⟨S0, hv.keep hI (fun k hk => hb.block k (hlt k hk)), fun k hk => .inl hk, fun k _ e => by simp [Value.ownBlock] at e, fun q hq => absurd hq (List.not_mem_nil)⟩, fun q hq => absurd hq (List.not_mem_nil), fun q hq => absurd hq (List.not_mem_nil), fun q hq => absurd hq (List.not_mem_nil), Kd.C_below hr hb, fun ad e hp => ⟨?_, hca ad e hp⟩, hlt, Nat.le_refl _⟩
  · exact blk_alloc (blk_alloc (blk_alloc (blk_alloc (heap_alloc_new W _) _) _) _) _
  · refine blk_alloc (blk_alloc (blk_alloc ?_ _) _) _
    have := heap_alloc_new (W.alloc (.cells #[.int .i64 n, .slice A l.length c] 59)) (.cells #[.int .i64 long] 3)
    simpa using this
  · refine blk_alloc (blk_alloc ?_ _) _
    have := heap_alloc_new ((W.alloc (.cells #[.int .i64 n, .slice A l.length c] 59)).alloc (.cells #[.int .i64 long] 3)) (.cells #[.func (.func gf) #[] lb] 81)
    simpa using this
  · refine blk_alloc ?_ _
    have := heap_alloc_new (((W.alloc (.cells #[.int .i64 n, .slice A l.length c] 59)).alloc (.cells #[.int .i64 long] 3)).alloc (.cells #[.func (.func gf) #[] lb] 81)) (.cells #[.slice none 0 0] 28)
    simpa using this
  · have := heap_alloc_new ((((W.alloc (.cells #[.int .i64 n, .slice A l.length c] 59)).alloc (.cells #[.int .i64 long] 3)).alloc (.cells #[.func (.func gf) #[] lb] 81)).alloc (.cells #[.slice none 0 0] 28)) (.cells #[.func (.func 82) #[] #[.pointer (some ⟨W.heap.size + 1 + 1 + 1, 0, none⟩), .pointer (some ⟨W.heap.size + 1, 0, none⟩), .pointer (some ⟨W.heap.size + 1 + 1, 0, none⟩), .pointer (some ⟨W.heap.size, 0, none⟩), .pointer (some ⟨W.heap.size + 1 + 1 + 1 + 1, 0, none⟩)]] 95)
    rw [show ((((W.alloc (.cells #[.int .i64 n, .slice A l.length c] 59)).alloc (.cells #[.int .i64 long] 3)).alloc (.cells #[.func (.func gf) #[] lb] 81)).alloc (.cells #[.slice none 0 0] 28)).heap.size = W.heap.size + 4 by simp] at this
    exact this
  · obtain ⟨ad', e', hx, _⟩ := at_T39 hr 0 (by omega) (by omega)
    rw [e] at e'
    cases e'
    have := World.block_lt_of_cell? W _ hx
    rwa [add_block] at this
theorem RSt.post {PB : List (Nat × Obj)} {v : Value} {now : List Int} {s : σ} (h : RSt Inv S0 W W.heap.size n A c l long gf lb PB v now s w0) : RingsPost Inv s S0 W (.returned (.bool false)) w0 := by
  obtain ⟨S, h1, h2, h3, _⟩ := h.inv
  exact ⟨rfl, S, h1, fun k hk => (h2 k hk).elim .inl (fun h => .inr (by omega)), h.fw⟩

theorem fromA {k a b d : Nat} {f : Bool} (h : l.getD k z39 = ⟨a, b, f⟩) : fromF l d k a = onF l a d [(k : Int)] b (2 ^ a ||| 2 ^ b) (feT ⟨a, b, f⟩) := by
  unfold fromF
  rw [h]
  have : toT ⟨(a : Int), (b : Int), f⟩ a = b := by unfold toT; dsimp only; omega
  rw [this]; rfl
theorem fromB {k a b d : Nat} {f : Bool} (h : l.getD k z39 = ⟨a, b, f⟩) : fromF l d k b = onF l b d [(k : Int)] a (2 ^ a ||| 2 ^ b) (feT ⟨a, b, f⟩) := by
  unfold fromF
  rw [h]
  have : toT ⟨(a : Int), (b : Int), f⟩ b = a := by unfold toT; dsimp only; omega
  rw [this]; rfl
theorem rings_two {k a b d : Nat} {f : Bool} {s : σ} (h : l.getD k z39 = ⟨a, b, f⟩) : foldV step s (ringsK l d (k + 1)) = foldV step (foldV step (foldV step s (ringsK l d k)) (fromF l d k a)) (fromF l d k b) := by
  rw [ringsK_succ, h]
  dsimp only
  rw [Int.toNat_natCast, Int.toNat_natCast, foldV_append, foldV_append]

set_option maxRecDepth 100000 in
set_option maxHeartbeats 3200000 in
theorem rings_calls (hv : Visitor gf lb step Inv) (d : Nat) (hd : d ≤ 900) (hld : long = d + 1) (hsm : smallT l) (hl : l.length ≤ 1000) (s : σ) (w : World) (hI : Inv s S0 w) (hr : Kd.C k39 w A l.length l) (hca : ∀ ad, A = some ad → 0 < l.length → ¬ S0 ad.block) :
    Calls Try.prog 65 #[.agg #[.int .i64 n, .slice A l.length c], .int .i64 long, .func (.func gf) #[] lb] w (RingsPost Inv (foldV step s (ringsF l d)) S0 w) := by
  have HV := Aside0.mk hv
  have HS := Aside0.mk hsm
  have HLD := Aside0.mk hld
  have HST := Aside0.mk (RSt.start (n := n) (c := c) (long := long) hv hI hr hca)
  clear hv hI hr hca hsm hld
  go_enter Try.func65, Try.ntmps65
  go_wp2
  generalize hg : w.heap.size = g at HST ⊢
  have HG := Aside0.mk hg
  clear hg
  go_loopg [9, 10, 11, 13, 18] l.length (fun gg _ _ _ _ v18 wr => ∃ (k : Nat) (v : Value) (now : List Int), k ≤ l.length ∧ l.length - k ≤ gg ∧ v18 = .int .i64 k ∧ Aside0 (RSt Inv S0 w g n A c l long gf lb [] v now (foldV step s (ringsK l d k)) wr))
  case atStart => exact ⟨0, _, _, Nat.zero_le _, by omega, rfl, HST⟩
  case round =>
    clear HST
    obtain ⟨k, v, now, hk, hgg, rfl, HP⟩ := hrel
    by_cases hlt : k < l.length
    · have hltz : (k : Int) < (l.length : Int) := by omega
      obtain ⟨ad, had, hx0, hx1, hx2⟩ := at_T39 HP.out.ct (k : Int) (by omega) (by omega)
      subst had
      rw [Int.toNat_natCast] at hx0 hx1 hx2
      have hrd : rd_T39 l (k : Int) = l.getD k z39 := by simp [rd_T39]
      rw [hrd] at hx0 hx1 hx2
      have hts := HS.out _ (getD_mem z39 hlt)
      generalize hy : l.getD k z39 = y at hx0 hx1 hx2 hts
      obtain ⟨ya, yb, yf⟩ := y
      dsimp only at hx0 hx1 hx2 hts
      obtain ⟨h1, h2, h3, h4⟩ := hts
      obtain ⟨a, rfl⟩ := Int.eq_ofNat_of_zero_le h1
      obtain ⟨b, rfl⟩ := Int.eq_ofNat_of_zero_le h3
      have HY := Aside0.mk hy
      clear hy hrd h1 h3
      obtain ⟨n0, n1, _, _⟩ := cells2 HP.out.cn
      cases yf
      · go_wp2
        have HPP := Aside0.mk (HP.out.protect HV.out (.cells #[.int .i64 a, .int .i64 b, .bool false] 39) (.cells #[.int .i64 a, .int .i64 b] 3))
        obtain ⟨h, hh⟩ : ∃ h, h = wr.heap.size := ⟨_, rfl⟩
        obtain ⟨PB, hPB⟩ : ∃ PB, [(h, Obj.cells #[.int .i64 a, .int .i64 b, .bool false] 39), (h + 1, Obj.cells #[.int .i64 a, .int .i64 b] 3)] = PB := ⟨_, rfl⟩
        have HPB := Aside0.mk hPB
        rw [← hh] at HPP ⊢
        rw [hPB] at HPP
        have HSB : Aside0 (∃ sa sb, foldV step (foldV step s (ringsK l d k)) (fromF l d k a) = sa ∧ foldV step sa (fromF l d k b) = sb) := ⟨_, _, rfl, rfl⟩
        obtain ⟨sa, sb, hsa, hsb⟩ := HSB.out
        have HSA := Aside0.mk hsa
        have HSB := Aside0.mk hsb
        clear hPB hh hsa hsb n0 n1 hx0 hx1 hx2
        obtain ⟨wo, rfl⟩ : ∃ wo : World, wo = wr := ⟨_, rfl⟩
        go_loopg [13, 31] 2 (fun g2 _ v31 wr => ∃ (j : Nat) (v2 : Value) (now2 : List Int), j ≤ 2 ∧ 2 - j ≤ g2 ∧ v31 = .int .i64 j ∧ Aside0 (RSt Inv S0 w g n (some ad) c l long gf lb PB v2 now2 (if j = 0 then foldV step s (ringsK l d k) else if j = 1 then sa else sb) wr))
        case atStart => exact ⟨0, _, _, Nat.zero_le _, by omega, rfl, HPP⟩
        case round =>
          clear HPP HP
          obtain ⟨j, v2, now2, hj, hg2, rfl, HQ⟩ := hrel
          have hj3 : j = 0 ∨ j = 1 ∨ j = 2 := by omega
          rcases hj3 with rfl | rfl | rfl
          · have hjz : ((0 : Nat) : Int) < 2 := by decide
            obtain ⟨A1, c1, hv1, hc1, _⟩ := Kd.R_reads HQ.out.row
            subst hv1
            obtain ⟨l3', lf3'⟩ := cells1 HQ.out.cr
            have l3 : wr.cell? ⟨g + 1 + 1 + 1, 0, none⟩ = some (.slice A1 now2.length c1) := l3'
            have lf3 : wr.frozen? ⟨g + 1 + 1 + 1, 0, none⟩ = false := lf3'
            have hlt3 : g + 1 + 1 + 1 < wr.heap.size := by have := HQ.out.big; omega
            have hpc := HQ.out.pc
            rw [← HPB.out] at hpc
            have hq1 := hpc _ (List.mem_cons_self)
            have hq2 := hpc _ (List.mem_cons_of_mem _ (List.mem_cons_self))
            dsimp only at hq1 hq2
            obtain ⟨q0, q1, _, _⟩ := cells2 hq2
            obtain ⟨t0, t1, _, _, _, _⟩ := cells3 hq1
            have HQ1 := Aside0.mk hq1
            have HQ0 : Aside0 (Kd.R (Kd.int .i64) 3 wr (g + 5) (fun _ => True) (.slice A1 0 c1) []) := ⟨HQ.out.cut' (m := 0) (Nat.zero_le _)⟩
            clear l3' lf3' hc1 hpc hq1 hq2
            go_wp2_with (at_builtin; go_must (refine Kd.R_append (Kd.int .i64) (w0 := wr) (g + 5) rfl (.tmp 36) (.tmp 38) 28 3 (.int .i64 0) 8 rfl Try.underlying28 info3 rfl (by decide) (by omega) (.slice A1 0 c1) [] (k : Int) [.int .i64 (k : Int)] (fun _ => True) (fun _ => False) rfl rfl rfl (fun _ hk => hk.elim) (fun _ _ => trivial) HQ0.out (Below.refl _ _) (by have := HQ.out.big; omega) (by decide) ?_; intro v4 w4 ho hbb hg4 hat; rw [own_slice_same (n' := now2.length) (c' := c1)] at hg4 hat; obtain ⟨A4, c4, hv4, hc4, _⟩ := Kd.R_reads ho; rw [show (([] : List Int) ++ [(k : Int)]).length = 1 from rfl] at hv4; subst hv4; have HP4 := Aside0.mk (HQ.out.store HV.out hg4 ho hat); have hk4 := (hg4.block _ (blk_lt HQ.out.cr) (fun e => by have := Kd.R_base HQ.out.row _ e.symm; omega)).trans HQ.out.cr; obtain ⟨l4', lf4'⟩ := cells1 hk4; have l4 : w4.cell? ⟨g + 1 + 1 + 1, 0, none⟩ = some (.slice A1 now2.length c1) := l4'; have lf4 : w4.frozen? ⟨g + 1 + 1 + 1, 0, none⟩ = false := lf4'; have hlt4 : g + 1 + 1 + 1 < w4.heap.size := Nat.lt_of_lt_of_le hlt3 hg4.size; clear ho hbb hg4 hat hk4 hc4 l3 lf3 t0 t1 l4' lf4'))
            obtain ⟨W5, hW5⟩ : ∃ W5, W5 = w4.setCell ⟨g + 1 + 1 + 1, 0, none⟩ (.slice A4 1 c4) := ⟨_, rfl⟩
            have HP5 : Aside0 (RSt Inv S0 w g n (some ad) c l long gf lb PB (.slice A4 1 c4) [(k : Int)] (foldV step s (ringsK l d k)) W5) := ⟨by rw [hW5]; exact HP4.out⟩
            rw [← hW5]
            clear hW5 l4 lf4 HP4 q0 q1 HQ1 HQ0
            have HSS : Aside0 (∀ v5 s5 W6, RSt Inv S0 w g n (some ad) c l long gf lb PB v5 [(k : Int)] s5 W6 → ((fun w' : World => w'.cell? ⟨g + 1 + 1 + 1 + 1, 0, none⟩ = some (.func (.func 82) #[] #[.pointer (some ⟨g + 3, 0, none⟩), .pointer (some ⟨g + 1, 0, none⟩), .pointer (some ⟨g + 2, 0, none⟩), .pointer (some ⟨g, 0, none⟩), .pointer (some ⟨g + 4, 0, none⟩)]) ∧ w'.cell? ⟨h, 0, none⟩ = some (.int .i64 (a : Int)) ∧ w'.cell? ⟨h, 1, none⟩ = some (.int .i64 (b : Int)))) W6) := ⟨fun v5 s5 W6 h6 => by
              have hpc := h6.pc
              rw [← HPB.out] at hpc
              have hq1 := hpc _ (List.mem_cons_self)
              obtain ⟨t0, t1, _, _, _, _⟩ := cells3 hq1
              exact ⟨(cells1 h6.co).1, t0, t1⟩⟩
            have HS0 : Aside0 (((fun w' : World => w'.cell? ⟨g + 1 + 1 + 1 + 1, 0, none⟩ = some (.func (.func 82) #[] #[.pointer (some ⟨g + 3, 0, none⟩), .pointer (some ⟨g + 1, 0, none⟩), .pointer (some ⟨g + 2, 0, none⟩), .pointer (some ⟨g, 0, none⟩), .pointer (some ⟨g + 4, 0, none⟩)]) ∧ w'.cell? ⟨h, 0, none⟩ = some (.int .i64 (a : Int)) ∧ w'.cell? ⟨h, 1, none⟩ = some (.int .i64 (b : Int)))) W5.drew) := ⟨HSS.out _ _ _ (HP5.out.next HV.out (below_drew (Below.refl W5.heap.size W5)))⟩
            have HREC : Aside0 (∀ W6, RSt Inv S0 w g n (some ad) c l long gf lb PB (.slice A4 1 c4) [(k : Int)] (foldV step s (ringsK l d k)) W6 → Calls Try.prog 82 #[.int .i64 a, .int .i64 b, .int .i64 (2 ^ a ||| 2 ^ b : Nat), .int .i64 0, .pointer (some ⟨g + 3, 0, none⟩), .pointer (some ⟨g + 1, 0, none⟩), .pointer (some ⟨g + 2, 0, none⟩), .pointer (some ⟨g, 0, none⟩), .pointer (some ⟨g + 4, 0, none⟩)] W6 (OnPost Inv S0 w g n (some ad) c l long gf lb PB [(k : Int)] sa)) := ⟨fun W6 h6 => by
              have := on_all (fr := a) HV.out (by have := HLD.out; omega) HS.out hl d PB [(k : Int)] b (2 ^ a ||| 2 ^ b) (feT ⟨a, b, false⟩) (.slice A4 1 c4) _ W6 h6 (by rw [HLD.out]; simp; omega) (by simp) (by omega) (or_lt (Nat.pow_lt_pow_right (by decide) (by omega)) (Nat.pow_lt_pow_right (by decide) (by omega))) (by show 0 + d ≤ 1000; omega)
              rw [← fromA HY.out] at this
              rw [HSA.out] at this
              exact this⟩
            obtain ⟨M, hM⟩ : ∃ M, 2 ^ a ||| 2 ^ b = M := ⟨_, rfl⟩
            rw [hM] at HREC
            have hor : bits .or .i64 (2 ^ a) (2 ^ b) = (M : Int) := by rw [pow_cast, pow_cast, or64 (2 ^ a) (2 ^ b) (two_lt (by omega)) (two_lt (by omega)), hM]
            have hpa : IntKind.i64.wrap ((2 : Int) ^ a) = 2 ^ a := by rw [pow_cast]; exact wrap64_nat _ (Int.natCast_nonneg _) (by exact_mod_cast two_lt (show a < 62 by omega))
            have hpb : IntKind.i64.wrap ((2 : Int) ^ b) = 2 ^ b := by rw [pow_cast]; exact wrap64_nat _ (Int.natCast_nonneg _) (by exact_mod_cast two_lt (show b < 62 by omega))
            have hw1 : IntKind.i64.wrap ((a : Int) + (b : Int)) = (a : Int) + (b : Int) := wrap64_nat _ (by omega) (by omega)
            have hw2 : IntKind.i64.wrap (b : Int) = (b : Int) := wrap64_nat _ (by omega) (by omega)
            have hw3 : (a : Int) + (b : Int) - (a : Int) = (b : Int) := by omega
            have eg := enters82
            clear hM
            go_region_held3 (fun w' : World => w'.cell? ⟨g + 1 + 1 + 1 + 1, 0, none⟩ = some (.func (.func 82) #[] #[.pointer (some ⟨g + 3, 0, none⟩), .pointer (some ⟨g + 1, 0, none⟩), .pointer (some ⟨g + 2, 0, none⟩), .pointer (some ⟨g, 0, none⟩), .pointer (some ⟨g + 4, 0, none⟩)]) ∧ w'.cell? ⟨h, 0, none⟩ = some (.int .i64 (a : Int)) ∧ w'.cell? ⟨h, 1, none⟩ = some (.int .i64 (b : Int))) (first | exact HS0.out | exact HS7.out) ((go_at_call 82; go_must (have hP6 := HP5.out.next HV.out (below_drew (Below.refl W5.heap.size W5)); refine (HREC.out _ hP6).mono ?_; rintro e w7 ⟨rfl, v7, hP7⟩; have HS7 := Aside0.mk (HSS.out _ _ _ hP7); have HP7 := Aside0.mk hP7; clear hP7 hP6)))
            clear eg hor hpa hpb hw1 hw2 hw3 HS0 HREC HP5 HSS
            go_wp2
            go_roundg (2 - 1)
            case measure => omega
            case rel => exact ⟨1, _, _, by decide, by omega, by go_num, HP7⟩
          · have hjz : ((1 : Nat) : Int) < 2 := by decide
            obtain ⟨A1, c1, hv1, hc1, _⟩ := Kd.R_reads HQ.out.row
            subst hv1
            obtain ⟨l3', lf3'⟩ := cells1 HQ.out.cr
            have l3 : wr.cell? ⟨g + 1 + 1 + 1, 0, none⟩ = some (.slice A1 now2.length c1) := l3'
            have lf3 : wr.frozen? ⟨g + 1 + 1 + 1, 0, none⟩ = false := lf3'
            have hlt3 : g + 1 + 1 + 1 < wr.heap.size := by have := HQ.out.big; omega
            have hpc := HQ.out.pc
            rw [← HPB.out] at hpc
            have hq1 := hpc _ (List.mem_cons_self)
            have hq2 := hpc _ (List.mem_cons_of_mem _ (List.mem_cons_self))
            dsimp only at hq1 hq2
            obtain ⟨q0, q1, _, _⟩ := cells2 hq2
            obtain ⟨t0, t1, _, _, _, _⟩ := cells3 hq1
            have HQ1 := Aside0.mk hq1
            have HQ0 : Aside0 (Kd.R (Kd.int .i64) 3 wr (g + 5) (fun _ => True) (.slice A1 0 c1) []) := ⟨HQ.out.cut' (m := 0) (Nat.zero_le _)⟩
            clear l3' lf3' hc1 hpc hq1 hq2
            go_wp2_with (at_builtin; go_must (refine Kd.R_append (Kd.int .i64) (w0 := wr) (g + 5) rfl (.tmp 36) (.tmp 38) 28 3 (.int .i64 0) 8 rfl Try.underlying28 info3 rfl (by decide) (by omega) (.slice A1 0 c1) [] (k : Int) [.int .i64 (k : Int)] (fun _ => True) (fun _ => False) rfl rfl rfl (fun _ hk => hk.elim) (fun _ _ => trivial) HQ0.out (Below.refl _ _) (by have := HQ.out.big; omega) (by decide) ?_; intro v4 w4 ho hbb hg4 hat; rw [own_slice_same (n' := now2.length) (c' := c1)] at hg4 hat; obtain ⟨A4, c4, hv4, hc4, _⟩ := Kd.R_reads ho; rw [show (([] : List Int) ++ [(k : Int)]).length = 1 from rfl] at hv4; subst hv4; have HP4 := Aside0.mk (HQ.out.store HV.out hg4 ho hat); have hk4 := (hg4.block _ (blk_lt HQ.out.cr) (fun e => by have := Kd.R_base HQ.out.row _ e.symm; omega)).trans HQ.out.cr; obtain ⟨l4', lf4'⟩ := cells1 hk4; have l4 : w4.cell? ⟨g + 1 + 1 + 1, 0, none⟩ = some (.slice A1 now2.length c1) := l4'; have lf4 : w4.frozen? ⟨g + 1 + 1 + 1, 0, none⟩ = false := lf4'; have hlt4 : g + 1 + 1 + 1 < w4.heap.size := Nat.lt_of_lt_of_le hlt3 hg4.size; clear ho hbb hg4 hat hk4 hc4 l3 lf3 t0 t1 l4' lf4'))
            obtain ⟨W5, hW5⟩ : ∃ W5, W5 = w4.setCell ⟨g + 1 + 1 + 1, 0, none⟩ (.slice A4 1 c4) := ⟨_, rfl⟩
            have HP5 : Aside0 (RSt Inv S0 w g n (some ad) c l long gf lb PB (.slice A4 1 c4) [(k : Int)] sa W5) := ⟨by rw [hW5]; exact HP4.out⟩
            rw [← hW5]
            clear hW5 l4 lf4 HP4 q0 q1 HQ1 HQ0
            have HSS : Aside0 (∀ v5 s5 W6, RSt Inv S0 w g n (some ad) c l long gf lb PB v5 [(k : Int)] s5 W6 → ((fun w' : World => w'.cell? ⟨g + 1 + 1 + 1 + 1, 0, none⟩ = some (.func (.func 82) #[] #[.pointer (some ⟨g + 3, 0, none⟩), .pointer (some ⟨g + 1, 0, none⟩), .pointer (some ⟨g + 2, 0, none⟩), .pointer (some ⟨g, 0, none⟩), .pointer (some ⟨g + 4, 0, none⟩)]) ∧ w'.cell? ⟨h, 0, none⟩ = some (.int .i64 (a : Int)) ∧ w'.cell? ⟨h, 1, none⟩ = some (.int .i64 (b : Int)))) W6) := ⟨fun v5 s5 W6 h6 => by
              have hpc := h6.pc
              rw [← HPB.out] at hpc
              have hq1 := hpc _ (List.mem_cons_self)
              obtain ⟨t0, t1, _, _, _, _⟩ := cells3 hq1
              exact ⟨(cells1 h6.co).1, t0, t1⟩⟩
            have HS0 : Aside0 (((fun w' : World => w'.cell? ⟨g + 1 + 1 + 1 + 1, 0, none⟩ = some (.func (.func 82) #[] #[.pointer (some ⟨g + 3, 0, none⟩), .pointer (some ⟨g + 1, 0, none⟩), .pointer (some ⟨g + 2, 0, none⟩), .pointer (some ⟨g, 0, none⟩), .pointer (some ⟨g + 4, 0, none⟩)]) ∧ w'.cell? ⟨h, 0, none⟩ = some (.int .i64 (a : Int)) ∧ w'.cell? ⟨h, 1, none⟩ = some (.int .i64 (b : Int)))) W5.drew) := ⟨HSS.out _ _ _ (HP5.out.next HV.out (below_drew (Below.refl W5.heap.size W5)))⟩
            have HREC : Aside0 (∀ W6, RSt Inv S0 w g n (some ad) c l long gf lb PB (.slice A4 1 c4) [(k : Int)] sa W6 → Calls Try.prog 82 #[.int .i64 b, .int .i64 a, .int .i64 (2 ^ a ||| 2 ^ b : Nat), .int .i64 0, .pointer (some ⟨g + 3, 0, none⟩), .pointer (some ⟨g + 1, 0, none⟩), .pointer (some ⟨g + 2, 0, none⟩), .pointer (some ⟨g, 0, none⟩), .pointer (some ⟨g + 4, 0, none⟩)] W6 (OnPost Inv S0 w g n (some ad) c l long gf lb PB [(k : Int)] sb)) := ⟨fun W6 h6 => by
              have := on_all (fr := b) HV.out (by have := HLD.out; omega) HS.out hl d PB [(k : Int)] a (2 ^ a ||| 2 ^ b) (feT ⟨a, b, false⟩) (.slice A4 1 c4) _ W6 h6 (by rw [HLD.out]; simp; omega) (by simp) (by omega) (or_lt (Nat.pow_lt_pow_right (by decide) (by omega)) (Nat.pow_lt_pow_right (by decide) (by omega))) (by show 0 + d ≤ 1000; omega)
              rw [← fromB HY.out] at this
              rw [HSB.out] at this
              exact this⟩
            obtain ⟨M, hM⟩ : ∃ M, 2 ^ a ||| 2 ^ b = M := ⟨_, rfl⟩
            rw [hM] at HREC
            have hor : bits .or .i64 (2 ^ a) (2 ^ b) = (M : Int) := by rw [pow_cast, pow_cast, or64 (2 ^ a) (2 ^ b) (two_lt (by omega)) (two_lt (by omega)), hM]
            have hpa : IntKind.i64.wrap ((2 : Int) ^ a) = 2 ^ a := by rw [pow_cast]; exact wrap64_nat _ (Int.natCast_nonneg _) (by exact_mod_cast two_lt (show a < 62 by omega))
            have hpb : IntKind.i64.wrap ((2 : Int) ^ b) = 2 ^ b := by rw [pow_cast]; exact wrap64_nat _ (Int.natCast_nonneg _) (by exact_mod_cast two_lt (show b < 62 by omega))
            have hw1 : IntKind.i64.wrap ((a : Int) + (b : Int)) = (a : Int) + (b : Int) := wrap64_nat _ (by omega) (by omega)
            have hw2 : IntKind.i64.wrap (a : Int) = (a : Int) := wrap64_nat _ (by omega) (by omega)
            have hw3 : (a : Int) + (b : Int) - (b : Int) = (a : Int) := by omega
            have eg := enters82
            clear hM
            go_region_held3 (fun w' : World => w'.cell? ⟨g + 1 + 1 + 1 + 1, 0, none⟩ = some (.func (.func 82) #[] #[.pointer (some ⟨g + 3, 0, none⟩), .pointer (some ⟨g + 1, 0, none⟩), .pointer (some ⟨g + 2, 0, none⟩), .pointer (some ⟨g, 0, none⟩), .pointer (some ⟨g + 4, 0, none⟩)]) ∧ w'.cell? ⟨h, 0, none⟩ = some (.int .i64 (a : Int)) ∧ w'.cell? ⟨h, 1, none⟩ = some (.int .i64 (b : Int))) (first | exact HS0.out | exact HS7.out) ((go_at_call 82; go_must (have hP6 := HP5.out.next HV.out (below_drew (Below.refl W5.heap.size W5)); refine (HREC.out _ hP6).mono ?_; rintro e w7 ⟨rfl, v7, hP7⟩; have HS7 := Aside0.mk (HSS.out _ _ _ hP7); have HP7 := Aside0.mk hP7; clear hP7 hP6)))
            clear eg hor hpa hpb hw1 hw2 hw3 HS0 HREC HP5 HSS
            go_wp2
            go_roundg (2 - 2)
            case measure => omega
            case rel => exact ⟨2, _, _, by decide, by omega, by go_num, HP7⟩
          · have hjz : ¬ ((2 : Nat) : Int) < 2 := by decide
            go_wp2
            go_roundg (l.length - (k + 1))
            case measure => omega
            case rel =>
              refine ⟨k + 1, v2, now2, by omega, by omega, by go_num, ⟨?_⟩⟩
              rw [rings_two HY.out, HSA.out, HSB.out]
              exact HQ.out.weaken
      · go_wp2
        have HPP := Aside0.mk (HP.out.protect HV.out (.cells #[.int .i64 a, .int .i64 b, .bool true] 39) (.cells #[.int .i64 a, .int .i64 b] 3))
        obtain ⟨h, hh⟩ : ∃ h, h = wr.heap.size := ⟨_, rfl⟩
        obtain ⟨PB, hPB⟩ : ∃ PB, [(h, Obj.cells #[.int .i64 a, .int .i64 b, .bool true] 39), (h + 1, Obj.cells #[.int .i64 a, .int .i64 b] 3)] = PB := ⟨_, rfl⟩
        have HPB := Aside0.mk hPB
        rw [← hh] at HPP ⊢
        rw [hPB] at HPP
        have HSB : Aside0 (∃ sa sb, foldV step (foldV step s (ringsK l d k)) (fromF l d k a) = sa ∧ foldV step sa (fromF l d k b) = sb) := ⟨_, _, rfl, rfl⟩
        obtain ⟨sa, sb, hsa, hsb⟩ := HSB.out
        have HSA := Aside0.mk hsa
        have HSB := Aside0.mk hsb
        clear hPB hh hsa hsb n0 n1 hx0 hx1 hx2
        obtain ⟨wo, rfl⟩ : ∃ wo : World, wo = wr := ⟨_, rfl⟩
        go_loopg [13, 31] 2 (fun g2 _ v31 wr => ∃ (j : Nat) (v2 : Value) (now2 : List Int), j ≤ 2 ∧ 2 - j ≤ g2 ∧ v31 = .int .i64 j ∧ Aside0 (RSt Inv S0 w g n (some ad) c l long gf lb PB v2 now2 (if j = 0 then foldV step s (ringsK l d k) else if j = 1 then sa else sb) wr))
        case atStart => exact ⟨0, _, _, Nat.zero_le _, by omega, rfl, HPP⟩
        case round =>
          clear HPP HP
          obtain ⟨j, v2, now2, hj, hg2, rfl, HQ⟩ := hrel
          have hj3 : j = 0 ∨ j = 1 ∨ j = 2 := by omega
          rcases hj3 with rfl | rfl | rfl
          · have hjz : ((0 : Nat) : Int) < 2 := by decide
            obtain ⟨A1, c1, hv1, hc1, _⟩ := Kd.R_reads HQ.out.row
            subst hv1
            obtain ⟨l3', lf3'⟩ := cells1 HQ.out.cr
            have l3 : wr.cell? ⟨g + 1 + 1 + 1, 0, none⟩ = some (.slice A1 now2.length c1) := l3'
            have lf3 : wr.frozen? ⟨g + 1 + 1 + 1, 0, none⟩ = false := lf3'
            have hlt3 : g + 1 + 1 + 1 < wr.heap.size := by have := HQ.out.big; omega
            have hpc := HQ.out.pc
            rw [← HPB.out] at hpc
            have hq1 := hpc _ (List.mem_cons_self)
            have hq2 := hpc _ (List.mem_cons_of_mem _ (List.mem_cons_self))
            dsimp only at hq1 hq2
            obtain ⟨q0, q1, _, _⟩ := cells2 hq2
            obtain ⟨t0, t1, _, _, _, _⟩ := cells3 hq1
            have HQ1 := Aside0.mk hq1
            have HQ0 : Aside0 (Kd.R (Kd.int .i64) 3 wr (g + 5) (fun _ => True) (.slice A1 0 c1) []) := ⟨HQ.out.cut' (m := 0) (Nat.zero_le _)⟩
            clear l3' lf3' hc1 hpc hq1 hq2
            go_wp2_with (at_builtin; go_must (refine Kd.R_append (Kd.int .i64) (w0 := wr) (g + 5) rfl (.tmp 36) (.tmp 38) 28 3 (.int .i64 0) 8 rfl Try.underlying28 info3 rfl (by decide) (by omega) (.slice A1 0 c1) [] (k : Int) [.int .i64 (k : Int)] (fun _ => True) (fun _ => False) rfl rfl rfl (fun _ hk => hk.elim) (fun _ _ => trivial) HQ0.out (Below.refl _ _) (by have := HQ.out.big; omega) (by decide) ?_; intro v4 w4 ho hbb hg4 hat; rw [own_slice_same (n' := now2.length) (c' := c1)] at hg4 hat; obtain ⟨A4, c4, hv4, hc4, _⟩ := Kd.R_reads ho; rw [show (([] : List Int) ++ [(k : Int)]).length = 1 from rfl] at hv4; subst hv4; have HP4 := Aside0.mk (HQ.out.store HV.out hg4 ho hat); have hk4 := (hg4.block _ (blk_lt HQ.out.cr) (fun e => by have := Kd.R_base HQ.out.row _ e.symm; omega)).trans HQ.out.cr; obtain ⟨l4', lf4'⟩ := cells1 hk4; have l4 : w4.cell? ⟨g + 1 + 1 + 1, 0, none⟩ = some (.slice A1 now2.length c1) := l4'; have lf4 : w4.frozen? ⟨g + 1 + 1 + 1, 0, none⟩ = false := lf4'; have hlt4 : g + 1 + 1 + 1 < w4.heap.size := Nat.lt_of_lt_of_le hlt3 hg4.size; clear ho hbb hg4 hat hk4 hc4 l3 lf3 t0 t1 l4' lf4'))
            obtain ⟨W5, hW5⟩ : ∃ W5, W5 = w4.setCell ⟨g + 1 + 1 + 1, 0, none⟩ (.slice A4 1 c4) := ⟨_, rfl⟩
            have HP5 : Aside0 (RSt Inv S0 w g n (some ad) c l long gf lb PB (.slice A4 1 c4) [(k : Int)] (foldV step s (ringsK l d k)) W5) := ⟨by rw [hW5]; exact HP4.out⟩
            rw [← hW5]
            clear hW5 l4 lf4 HP4 q0 q1 HQ1 HQ0
            have HSS : Aside0 (∀ v5 s5 W6, RSt Inv S0 w g n (some ad) c l long gf lb PB v5 [(k : Int)] s5 W6 → ((fun w' : World => w'.cell? ⟨g + 1 + 1 + 1 + 1, 0, none⟩ = some (.func (.func 82) #[] #[.pointer (some ⟨g + 3, 0, none⟩), .pointer (some ⟨g + 1, 0, none⟩), .pointer (some ⟨g + 2, 0, none⟩), .pointer (some ⟨g, 0, none⟩), .pointer (some ⟨g + 4, 0, none⟩)]) ∧ w'.cell? ⟨h, 0, none⟩ = some (.int .i64 (a : Int)) ∧ w'.cell? ⟨h, 1, none⟩ = some (.int .i64 (b : Int)))) W6) := ⟨fun v5 s5 W6 h6 => by
              have hpc := h6.pc
              rw [← HPB.out] at hpc
              have hq1 := hpc _ (List.mem_cons_self)
              obtain ⟨t0, t1, _, _, _, _⟩ := cells3 hq1
              exact ⟨(cells1 h6.co).1, t0, t1⟩⟩
            have HS0 : Aside0 (((fun w' : World => w'.cell? ⟨g + 1 + 1 + 1 + 1, 0, none⟩ = some (.func (.func 82) #[] #[.pointer (some ⟨g + 3, 0, none⟩), .pointer (some ⟨g + 1, 0, none⟩), .pointer (some ⟨g + 2, 0, none⟩), .pointer (some ⟨g, 0, none⟩), .pointer (some ⟨g + 4, 0, none⟩)]) ∧ w'.cell? ⟨h, 0, none⟩ = some (.int .i64 (a : Int)) ∧ w'.cell? ⟨h, 1, none⟩ = some (.int .i64 (b : Int)))) W5.drew) := ⟨HSS.out _ _ _ (HP5.out.next HV.out (below_drew (Below.refl W5.heap.size W5)))⟩
            have HREC : Aside0 (∀ W6, RSt Inv S0 w g n (some ad) c l long gf lb PB (.slice A4 1 c4) [(k : Int)] (foldV step s (ringsK l d k)) W6 → Calls Try.prog 82 #[.int .i64 a, .int .i64 b, .int .i64 (2 ^ a ||| 2 ^ b : Nat), .int .i64 1, .pointer (some ⟨g + 3, 0, none⟩), .pointer (some ⟨g + 1, 0, none⟩), .pointer (some ⟨g + 2, 0, none⟩), .pointer (some ⟨g, 0, none⟩), .pointer (some ⟨g + 4, 0, none⟩)] W6 (OnPost Inv S0 w g n (some ad) c l long gf lb PB [(k : Int)] sa)) := ⟨fun W6 h6 => by
              have := on_all (fr := a) HV.out (by have := HLD.out; omega) HS.out hl d PB [(k : Int)] b (2 ^ a ||| 2 ^ b) (feT ⟨a, b, true⟩) (.slice A4 1 c4) _ W6 h6 (by rw [HLD.out]; simp; omega) (by simp) (by omega) (or_lt (Nat.pow_lt_pow_right (by decide) (by omega)) (Nat.pow_lt_pow_right (by decide) (by omega))) (by show 1 + d ≤ 1000; omega)
              rw [← fromA HY.out] at this
              rw [HSA.out] at this
              exact this⟩
            obtain ⟨M, hM⟩ : ∃ M, 2 ^ a ||| 2 ^ b = M := ⟨_, rfl⟩
            rw [hM] at HREC
            have hor : bits .or .i64 (2 ^ a) (2 ^ b) = (M : Int) := by rw [pow_cast, pow_cast, or64 (2 ^ a) (2 ^ b) (two_lt (by omega)) (two_lt (by omega)), hM]
            have hpa : IntKind.i64.wrap ((2 : Int) ^ a) = 2 ^ a := by rw [pow_cast]; exact wrap64_nat _ (Int.natCast_nonneg _) (by exact_mod_cast two_lt (show a < 62 by omega))
            have hpb : IntKind.i64.wrap ((2 : Int) ^ b) = 2 ^ b := by rw [pow_cast]; exact wrap64_nat _ (Int.natCast_nonneg _) (by exact_mod_cast two_lt (show b < 62 by omega))
            have hw1 : IntKind.i64.wrap ((a : Int) + (b : Int)) = (a : Int) + (b : Int) := wrap64_nat _ (by omega) (by omega)
            have hw2 : IntKind.i64.wrap (b : Int) = (b : Int) := wrap64_nat _ (by omega) (by omega)
            have hw3 : (a : Int) + (b : Int) - (a : Int) = (b : Int) := by omega
            have eg := enters82
            clear hM
            go_region_held3 (fun w' : World => w'.cell? ⟨g + 1 + 1 + 1 + 1, 0, none⟩ = some (.func (.func 82) #[] #[.pointer (some ⟨g + 3, 0, none⟩), .pointer (some ⟨g + 1, 0, none⟩), .pointer (some ⟨g + 2, 0, none⟩), .pointer (some ⟨g, 0, none⟩), .pointer (some ⟨g + 4, 0, none⟩)]) ∧ w'.cell? ⟨h, 0, none⟩ = some (.int .i64 (a : Int)) ∧ w'.cell? ⟨h, 1, none⟩ = some (.int .i64 (b : Int))) (first | exact HS0.out | exact HS7.out) ((go_at_call 82; go_must (have hP6 := HP5.out.next HV.out (below_drew (Below.refl W5.heap.size W5)); refine (HREC.out _ hP6).mono ?_; rintro e w7 ⟨rfl, v7, hP7⟩; have HS7 := Aside0.mk (HSS.out _ _ _ hP7); have HP7 := Aside0.mk hP7; clear hP7 hP6)))
            clear eg hor hpa hpb hw1 hw2 hw3 HS0 HREC HP5 HSS
            go_wp2
            go_roundg (2 - 1)
            case measure => omega
            case rel => exact ⟨1, _, _, by decide, by omega, by go_num, HP7⟩
          · have hjz : ((1 : Nat) : Int) < 2 := by decide
            obtain ⟨A1, c1, hv1, hc1, _⟩ := Kd.R_reads HQ.out.row
            subst hv1
            obtain ⟨l3', lf3'⟩ := cells1 HQ.out.cr
            have l3 : wr.cell? ⟨g + 1 + 1 + 1, 0, none⟩ = some (.slice A1 now2.length c1) := l3'
            have lf3 : wr.frozen? ⟨g + 1 + 1 + 1, 0, none⟩ = false := lf3'
            have hlt3 : g + 1 + 1 + 1 < wr.heap.size := by have := HQ.out.big; omega
            have hpc := HQ.out.pc
            rw [← HPB.out] at hpc
            have hq1 := hpc _ (List.mem_cons_self)
            have hq2 := hpc _ (List.mem_cons_of_mem _ (List.mem_cons_self))
            dsimp only at hq1 hq2
            obtain ⟨q0, q1, _, _⟩ := cells2 hq2
            obtain ⟨t0, t1, _, _, _, _⟩ := cells3 hq1
            have HQ1 := Aside0.mk hq1
            have HQ0 : Aside0 (Kd.R (Kd.int .i64) 3 wr (g + 5) (fun _ => True) (.slice A1 0 c1) []) := ⟨HQ.out.cut' (m := 0) (Nat.zero_le _)⟩
            clear l3' lf3' hc1 hpc hq1 hq2
            go_wp2_with (at_builtin; go_must (refine Kd.R_append (Kd.int .i64) (w0 := wr) (g + 5) rfl (.tmp 36) (.tmp 38) 28 3 (.int .i64 0) 8 rfl Try.underlying28 info3 rfl (by decide) (by omega) (.slice A1 0 c1) [] (k : Int) [.int .i64 (k : Int)] (fun _ => True) (fun _ => False) rfl rfl rfl (fun _ hk => hk.elim) (fun _ _ => trivial) HQ0.out (Below.refl _ _) (by have := HQ.out.big; omega) (by decide) ?_; intro v4 w4 ho hbb hg4 hat; rw [own_slice_same (n' := now2.length) (c' := c1)] at hg4 hat; obtain ⟨A4, c4, hv4, hc4, _⟩ := Kd.R_reads ho; rw [show (([] : List Int) ++ [(k : Int)]).length = 1 from rfl] at hv4; subst hv4; have HP4 := Aside0.mk (HQ.out.store HV.out hg4 ho hat); have hk4 := (hg4.block _ (blk_lt HQ.out.cr) (fun e => by have := Kd.R_base HQ.out.row _ e.symm; omega)).trans HQ.out.cr; obtain ⟨l4', lf4'⟩ := cells1 hk4; have l4 : w4.cell? ⟨g + 1 + 1 + 1, 0, none⟩ = some (.slice A1 now2.length c1) := l4'; have lf4 : w4.frozen? ⟨g + 1 + 1 + 1, 0, none⟩ = false := lf4'; have hlt4 : g + 1 + 1 + 1 < w4.heap.size := Nat.lt_of_lt_of_le hlt3 hg4.size; clear ho hbb hg4 hat hk4 hc4 l3 lf3 t0 t1 l4' lf4'))
            obtain ⟨W5, hW5⟩ : ∃ W5, W5 = w4.setCell ⟨g + 1 + 1 + 1, 0, none⟩ (.slice A4 1 c4) := ⟨_, rfl⟩
            have HP5 : Aside0 (RSt Inv S0 w g n (some ad) c l long gf lb PB (.slice A4 1 c4) [(k : Int)] sa W5) := ⟨by rw [hW5]; exact HP4.out⟩
            rw [← hW5]
            clear hW5 l4 lf4 HP4 q0 q1 HQ1 HQ0
            have HSS : Aside0 (∀ v5 s5 W6, RSt Inv S0 w g n (some ad) c l long gf lb PB v5 [(k : Int)] s5 W6 → ((fun w' : World => w'.cell? ⟨g + 1 + 1 + 1 + 1, 0, none⟩ = some (.func (.func 82) #[] #[.pointer (some ⟨g + 3, 0, none⟩), .pointer (some ⟨g + 1, 0, none⟩), .pointer (some ⟨g + 2, 0, none⟩), .pointer (some ⟨g, 0, none⟩), .pointer (some ⟨g + 4, 0, none⟩)]) ∧ w'.cell? ⟨h, 0, none⟩ = some (.int .i64 (a : Int)) ∧ w'.cell? ⟨h, 1, none⟩ = some (.int .i64 (b : Int)))) W6) := ⟨fun v5 s5 W6 h6 => by
              have hpc := h6.pc
              rw [← HPB.out] at hpc
              have hq1 := hpc _ (List.mem_cons_self)
              obtain ⟨t0, t1, _, _, _, _⟩ := cells3 hq1
              exact ⟨(cells1 h6.co).1, t0, t1⟩⟩
            have HS0 : Aside0 (((fun w' : World => w'.cell? ⟨g + 1 + 1 + 1 + 1, 0, none⟩ = some (.func (.func 82) #[] #[.pointer (some ⟨g + 3, 0, none⟩), .pointer (some ⟨g + 1, 0, none⟩), .pointer (some ⟨g + 2, 0, none⟩), .pointer (some ⟨g, 0, none⟩), .pointer (some ⟨g + 4, 0, none⟩)]) ∧ w'.cell? ⟨h, 0, none⟩ = some (.int .i64 (a : Int)) ∧ w'.cell? ⟨h, 1, none⟩ = some (.int .i64 (b : Int)))) W5.drew) := ⟨HSS.out _ _ _ (HP5.out.next HV.out (below_drew (Below.refl W5.heap.size W5)))⟩
            have HREC : Aside0 (∀ W6, RSt Inv S0 w g n (some ad) c l long gf lb PB (.slice A4 1 c4) [(k : Int)] sa W6 → Calls Try.prog 82 #[.int .i64 b, .int .i64 a, .int .i64 (2 ^ a ||| 2 ^ b : Nat), .int .i64 1, .pointer (some ⟨g + 3, 0, none⟩), .pointer (some ⟨g + 1, 0, none⟩), .pointer (some ⟨g + 2, 0, none⟩), .pointer (some ⟨g, 0, none⟩), .pointer (some ⟨g + 4, 0, none⟩)] W6 (OnPost Inv S0 w g n (some ad) c l long gf lb PB [(k : Int)] sb)) := ⟨fun W6 h6 => by
              have := on_all (fr := b) HV.out (by have := HLD.out; omega) HS.out hl d PB [(k : Int)] a (2 ^ a ||| 2 ^ b) (feT ⟨a, b, true⟩) (.slice A4 1 c4) _ W6 h6 (by rw [HLD.out]; simp; omega) (by simp) (by omega) (or_lt (Nat.pow_lt_pow_right (by decide) (by omega)) (Nat.pow_lt_pow_right (by decide) (by omega))) (by show 1 + d ≤ 1000; omega)
              rw [← fromB HY.out] at this
              rw [HSB.out] at this
              exact this⟩
            obtain ⟨M, hM⟩ : ∃ M, 2 ^ a ||| 2 ^ b = M := ⟨_, rfl⟩
            rw [hM] at HREC
            have hor : bits .or .i64 (2 ^ a) (2 ^ b) = (M : Int) := by rw [pow_cast, pow_cast, or64 (2 ^ a) (2 ^ b) (two_lt (by omega)) (two_lt (by omega)), hM]
            have hpa : IntKind.i64.wrap ((2 : Int) ^ a) = 2 ^ a := by rw [pow_cast]; exact wrap64_nat _ (Int.natCast_nonneg _) (by exact_mod_cast two_lt (show a < 62 by omega))
            have hpb : IntKind.i64.wrap ((2 : Int) ^ b) = 2 ^ b := by rw [pow_cast]; exact wrap64_nat _ (Int.natCast_nonneg _) (by exact_mod_cast two_lt (show b < 62 by omega))
            have hw1 : IntKind.i64.wrap ((a : Int) + (b : Int)) = (a : Int) + (b : Int) := wrap64_nat _ (by omega) (by omega)
            have hw2 : IntKind.i64.wrap (a : Int) = (a : Int) := wrap64_nat _ (by omega) (by omega)
            have hw3 : (a : Int) + (b : Int) - (b : Int) = (a : Int) := by omega
            have eg := enters82
            clear hM
            go_region_held3 (fun w' : World => w'.cell? ⟨g + 1 + 1 + 1 + 1, 0, none⟩ = some (.func (.func 82) #[] #[.pointer (some ⟨g + 3, 0, none⟩), .pointer (some ⟨g + 1, 0, none⟩), .pointer (some ⟨g + 2, 0, none⟩), .pointer (some ⟨g, 0, none⟩), .pointer (some ⟨g + 4, 0, none⟩)]) ∧ w'.cell? ⟨h, 0, none⟩ = some (.int .i64 (a : Int)) ∧ w'.cell? ⟨h, 1, none⟩ = some (.int .i64 (b : Int))) (first | exact HS0.out | exact HS7.out) ((go_at_call 82; go_must (have hP6 := HP5.out.next HV.out (below_drew (Below.refl W5.heap.size W5)); refine (HREC.out _ hP6).mono ?_; rintro e w7 ⟨rfl, v7, hP7⟩; have HS7 := Aside0.mk (HSS.out _ _ _ hP7); have HP7 := Aside0.mk hP7; clear hP7 hP6)))
            clear eg hor hpa hpb hw1 hw2 hw3 HS0 HREC HP5 HSS
            go_wp2
            go_roundg (2 - 2)
            case measure => omega
            case rel => exact ⟨2, _, _, by decide, by omega, by go_num, HP7⟩
          · have hjz : ¬ ((2 : Nat) : Int) < 2 := by decide
            go_wp2
            go_roundg (l.length - (k + 1))
            case measure => omega
            case rel =>
              refine ⟨k + 1, v2, now2, by omega, by omega, by go_num, ⟨?_⟩⟩
              rw [rings_two HY.out, HSA.out, HSB.out]
              exact HQ.out.weaken
    · have hltz : ¬ (k : Int) < (l.length : Int) := by omega
      have hke : k = l.length := by omega
      subst hke
      have HZ : Aside0 (foldV step s (ringsK l d l.length) = foldV step s (ringsF l d)) := ⟨rfl⟩
      have HPP : Aside0 (RingsPost Inv (foldV step s (ringsK l d l.length)) S0 w (.returned (.bool false)) wr) := ⟨by have := HP.out; rw [← HG.out] at this; exact this.post⟩
      go_wp2
      go_ret
      rw [← HZ.out]
      exact HPP.out
end Go.Proofs.Ytaegldcifhgnmaa.A

/- slices.Compare at whole numbers. -/
namespace Go.Proofs.Ytaegldcifhgnmaa.A
open Go.RowKit Go.Proofs.YtaegldcifhgnmaaW.PrintWords Go.Proofs.YtaegldcifhgnmaaW.PrintMore

def cmpI (x y : Int) : Int := if x < y then -1 else if y < x then 1 else 0
/-- The order of lists. -/
def cmpL : List Int → List Int → Int
  | [], [] => 0
  | [], _ :: _ => -1
  | _ :: _, [] => 1
  | x :: xs, y :: ys => if cmpI x y = 0 then cmpL xs ys else cmpI x y

set_option maxRecDepth 100000 in
set_option maxHeartbeats 400000 in
theorem cmpI_calls (x y : Int) (w : World) : Calls Try.prog 83 #[.int .i64 x, .int .i64 y] w fun e w' => e = .returned (.int .i64 (cmpI x y)) ∧ w = w' := by
  obtain ⟨z, hz⟩ : ∃ z, cmpI x y = z := ⟨_, rfl⟩
  have HZ := Aside0.mk hz
  rw [hz]
  clear hz
  by_cases h1 : x < y
  · have : z = -1 := by rw [← HZ.out]; unfold cmpI; rw [if_pos h1]
    subst this
    go_enter Try.func83, Try.ntmps83
    go_wp2
    go_ret
    exact ⟨rfl, rfl⟩
  · by_cases h2 : y < x
    · have : z = 1 := by rw [← HZ.out]; unfold cmpI; rw [if_neg h1, if_pos h2]
      subst this
      go_enter Try.func83, Try.ntmps83
      go_wp2
      go_ret
      exact ⟨rfl, rfl⟩
    · have : z = 0 := by rw [← HZ.out]; unfold cmpI; rw [if_neg h1, if_neg h2]
      subst this
      go_enter Try.func83, Try.ntmps83
      go_wp2
      go_ret
      exact ⟨rfl, rfl⟩

theorem cmpL_drop {a b : List Int} {i : Nat} (ha : i < a.length) (hb : i < b.length) : cmpL (a.drop i) (b.drop i) = if cmpI (a.getD i 0) (b.getD i 0) = 0 then cmpL (a.drop (i + 1)) (b.drop (i + 1)) else cmpI (a.getD i 0) (b.getD i 0) := by
  rw [List.drop_eq_getElem_cons ha, List.drop_eq_getElem_cons hb, List.getD_eq_getElem?_getD, List.getD_eq_getElem?_getD, List.getElem?_eq_getElem ha, List.getElem?_eq_getElem hb]
  rfl
theorem cmpL_gt {a b : List Int} {i : Nat} (ha : i < a.length) (hb : b.length ≤ i) : cmpL (a.drop i) (b.drop i) = 1 := by
  rw [List.drop_eq_getElem_cons ha, List.drop_eq_nil_of_le hb]; rfl
theorem cmpL_end {a b : List Int} {i : Nat} (ha : a.length = i) (hb : i ≤ b.length) : cmpL (a.drop i) (b.drop i) = if (a.length : Int) < (b.length : Int) then -1 else 0 := by
  rw [List.drop_eq_nil_of_le (by omega)]
  by_cases h : i < b.length
  · rw [List.drop_eq_getElem_cons h, if_pos (by omega)]; rfl
  · rw [List.drop_eq_nil_of_le (by omega), if_neg (by omega)]; rfl

set_option maxRecDepth 100000 in
set_option maxHeartbeats 1600000 in
theorem Compare_calls (A : Option Addr) (c : Nat) (a : List Int) (A2 : Option Addr) (c2 : Nat) (b : List Int) (w : World) (hr : Kd.C (Kd.int .i64) w A a.length a) (hr2 : Kd.C (Kd.int .i64) w A2 b.length b) :
    Calls Try.prog 67 #[.slice A a.length c, .slice A2 b.length c2] w fun e w' => e = .returned (.int .i64 (cmpL a b)) ∧ w = w' := by
  have hma : a.length ≤ 9223372036854775807 := hr.2.1
  have hmb : b.length ≤ 9223372036854775807 := hr2.2.1
  have HR := Aside0.mk hr
  have HR2 := Aside0.mk hr2
  obtain ⟨Z, hZ⟩ : ∃ Z, cmpL a b = Z := ⟨_, rfl⟩
  have HZ := Aside0.mk hZ
  rw [hZ]
  clear hr hr2 hZ
  go_enter Try.func67, Try.ntmps67
  go_wp2
  go_loopg [5, 6, 7, 8, 11] a.length (fun gg _ _ _ _ v11 wr => ∃ i : Nat, i ≤ a.length ∧ a.length - i ≤ gg ∧ v11 = .int .i64 i ∧ wr = w ∧ Aside0 (i ≤ b.length ∧ cmpL (a.drop i) (b.drop i) = Z))
  case atStart => exact ⟨0, Nat.zero_le _, by omega, rfl, rfl, ⟨Nat.zero_le _, HZ.out⟩⟩
  case round =>
    obtain ⟨i, hi, hgg, rfl, rfl, HI⟩ := hrel
    by_cases hlt : i < a.length
    · have hltz : (i : Int) < (a.length : Int) := by omega
      obtain ⟨ad, rfl, hx⟩ := Kd.at_int HR.out (i : Int) (by omega) (by omega)
      rw [Int.toNat_natCast] at hx
      have hrd : rd a (i : Int) = a.getD i 0 := by simp [rd]
      rw [hrd] at hx
      clear hrd
      by_cases hbl : i < b.length
      · have hblz : ¬ (b.length : Int) ≤ (i : Int) := by omega
        have hblz2 : (i : Int) < (b.length : Int) := by omega
        obtain ⟨ad2, rfl, hy⟩ := Kd.at_int HR2.out (i : Int) (by omega) (by omega)
        rw [Int.toNat_natCast] at hy
        have hrd : rd b (i : Int) = b.getD i 0 := by simp [rd]
        rw [hrd] at hy
        have hd := HI.out.2
        rw [cmpL_drop hlt hbl] at hd
        clear hrd
        generalize a.getD i 0 = x at hx hd
        generalize b.getD i 0 = y at hy hd
        by_cases hc : cmpI x y = 0
        · rw [if_pos hc] at hd
          have HC := Aside0.mk hc
          have HD := Aside0.mk hd
          clear hc hd
          go_wp2_with (go_at_call 83; refine (cmpI_calls x y _).mono ?_; rw [HC.out]; rintro e w' ⟨rfl, rfl⟩)
          go_roundg (a.length - (i + 1))
          case measure => omega
          case rel => exact ⟨i + 1, by omega, by omega, by go_num, rfl, ⟨by omega, HD.out⟩⟩
        · rw [if_neg hc] at hd
          have hne : (Z != 0) = true := by rw [bne_iff_ne, ← hd]; exact hc
          have HD := Aside0.mk hd
          clear hc hd
          go_wp2_with (go_at_call 83; refine (cmpI_calls x y _).mono ?_; rw [HD.out]; rintro e w' ⟨rfl, rfl⟩)
          go_ret
          exact ⟨rfl, rfl⟩
      · have hblz : (b.length : Int) ≤ (i : Int) := by omega
        have HD : Aside0 (Z = 1) := ⟨by rw [← HI.out.2, cmpL_gt hlt (by omega)]⟩
        go_wp2
        go_ret
        exact ⟨by rw [HD.out]; rfl, rfl⟩
    · have hltz : ¬ (i : Int) < (a.length : Int) := by omega
      have HD : Aside0 (Z = if (a.length : Int) < (b.length : Int) then -1 else 0) := ⟨by rw [← HI.out.2, cmpL_end (by omega) HI.out.1]⟩
      by_cases hbl : (a.length : Int) < (b.length : Int)
      · go_wp2
        go_ret
        exact ⟨by rw [HD.out, if_pos hbl]; rfl, rfl⟩
      · have HZ0 : Aside0 (Z = 0) := ⟨by rw [HD.out, if_neg hbl]⟩
        go_wp2
        go_ret
        exact ⟨by rw [HZ0.out]; rfl, rfl⟩
end Go.Proofs.Ytaegldcifhgnmaa.A

/- slices.Clone at whole numbers. -/
namespace Go.Proofs.Ytaegldcifhgnmaa.A
open Go.RowKit Go.Proofs.YtaegldcifhgnmaaW.PrintWords Go.Proofs.YtaegldcifhgnmaaW.PrintMore

theorem clone_calls {A : Option Addr} {c : Nat} {l : List Int} {w : World} (hr : Kd.C (Kd.int .i64) w A l.length l) (hl : l.length ≤ 1000) (h0 : l ≠ []) :
    Calls Try.prog 68 #[.slice A l.length c] w fun e w' => ∃ v, e = .returned v ∧ Kd.R (Kd.int .i64) 3 w' w.heap.size (fun _ => True) v l ∧ Below w.heap.size w w' := by
  have hpos : 0 < l.length := List.length_pos_iff.2 h0
  obtain ⟨ad, hA, hcell⟩ : ∃ ad, A = some ad ∧ ∀ i : Nat, i < l.length → w.cell? (ad.add i) = some (.int .i64 (l.getD i 0)) := by
    obtain ⟨ad, e, _⟩ := Kd.at_int hr 0 (by omega) (by omega)
    refine ⟨ad, e, fun i hi => ?_⟩
    obtain ⟨ad', e', hc⟩ := Kd.at_int hr (i : Int) (by omega) (by omega)
    rw [e] at e'
    cases e'
    simpa [rd] using hc
  subst hA
  have hsp : ad.spot = none := by
    have := hcell 0 (by omega)
    unfold World.cell? at this
    split at this
    · split at this
      · cases this
      · rename_i hs
        cases hsp : ad.spot with
        | none => rfl
        | some s => exact absurd (by show (ad.add 0).spot.isSome = true; simp [Addr.add, hsp]) hs
    · cases this
  obtain ⟨b, o, s⟩ := ad
  simp only at hsp
  subst hsp
  have := Try.slices_Clone_int b o l.length c l w (Nat.le_refl _) (by omega) (fun j hj => by
    have := hcell j hj
    rwa [add_at] at this)
  rw [List.take_length] at this
  exact this.mono fun e w' ⟨v, h1, h2, _, h3⟩ => ⟨v, h1, Kd.R_of_own h2 (fun _ _ => trivial), h3⟩
end Go.Proofs.Ytaegldcifhgnmaa.A

/- Rows of whole numbers of the call's own, sorted. -/
namespace Go.Proofs.Ytaegldcifhgnmaa.A
open Go.RowKit Go.Proofs.YtaegldcifhgnmaaW.PrintWords Go.Sort Go.Lib

/-- A row's world behind a store of a whole row. -/
theorem own_put {W : World} {base g n cap q : Nat} {os : Array Obj} {xs ys : List Int} (h : Kd.R (Kd.int .i64) 3 W base (fun _ => True) (.slice (some ⟨g, 0, none⟩) n cap) xs) (hl : ys.length = xs.length) :
    Kd.R (Kd.int .i64) 3 (grow (putRow (Value.int .i64) (Sort.ahead W q) g 0 ys.toArray) os) base (fun _ => True) (.slice (some ⟨g, 0, none⟩) n cap) ys ∧ W.grownBy (grow (putRow (Value.int .i64) (Sort.ahead W q) g 0 ys.toArray) os) (some g) := by
  have ho := Kd.own_of_R h
  rcases ho.2 with ⟨h0, _⟩ | ⟨g', cap', cur, hv, hg, hb, h1, h2, h3, h4⟩
  · cases h0
  · cases hv
    have := ownsRow_sortedI (os := os) (n := q) (ts := ys) (ss := xs) hl hg hb h1 h2 h3
    refine ⟨Kd.R_of_own (by rw [hl]; exact this) (fun _ _ => trivial), grownBy_sortedI _⟩
theorem own_holds {W : World} {base g n cap : Nat} {xs : List Int} (h : Kd.R (Kd.int .i64) 3 W base (fun _ => True) (.slice (some ⟨g, 0, none⟩) n cap) xs) : Holds (Value.int .i64) W g 0 xs.toArray := by
  rcases (Kd.own_of_R h).2 with ⟨h0, _⟩ | ⟨g', cap', cur, hv, hg, hb, h1, h2, h3, h4⟩
  · cases h0
  · cases hv
    exact holds_of_blockI hb (by simpa [encs] using h4)
theorem own_form {W : World} {base : Nat} {v : Value} {xs : List Int} (h : Kd.R (Kd.int .i64) 3 W base (fun _ => True) v xs) (h0 : 0 < xs.length) : ∃ g cap, v = .slice (some ⟨g, 0, none⟩) xs.length cap ∧ base ≤ g ∧ g < W.heap.size ∧ xs.length ≤ cap := by
  have ho := Kd.own_of_R h
  rcases ho.2 with ⟨_, h1⟩ | ⟨g', cap', cur, hv, hg, hb, h1, h2, h3, h4⟩
  · omega
  · exact ⟨g', cap', hv, hg, blk_lt hb, h1⟩

/-- Sorted. -/
def sortI (l : List Int) : List Int := l.mergeSort fun x y => decide (x ≤ y)
theorem sortI_len (l : List Int) : (sortI l).length = l.length := List.length_mergeSort _
theorem sort_any {v : Value} {base : Nat} {xs : List Int} {w : World} (h : Kd.R (Kd.int .i64) 3 w base (fun _ => True) v xs) (hl : xs.length ≤ 1000) :
    Calls Try.prog 78 #[v] w fun e w' => e = .returned (.tuple #[]) ∧ Kd.R (Kd.int .i64) 3 w' base (fun _ => True) v (sortI xs) ∧ w.grownBy w' v.ownBlock := by
  by_cases h0 : 0 < xs.length
  · obtain ⟨g, cap, rfl, hg, hlt, hc⟩ := own_form h h0
    refine (Try.slices_Sort_int g 0 cap xs w (own_holds h) hlt (by omega)).mono ?_
    rintro e w' ⟨rfl, n, os, rfl⟩
    exact ⟨rfl, own_put h (sortI_len xs)⟩
  · have hnil : xs = [] := List.length_eq_zero_iff.1 (by omega)
    subst hnil
    obtain ⟨A, c, rfl, _, _⟩ := Kd.R_reads h
    refine (Try.slices_Sort_int_none A c w).mono ?_
    rintro e w' ⟨rfl, rfl⟩
    exact ⟨rfl, by rw [show sortI [] = [] by simp [sortI]]; exact h, World.grownBy.refl _ _⟩

end Go.Proofs.Ytaegldcifhgnmaa.A

/- The first ring for which something is true of its feuds: what is kept while rings are gone through. -/
namespace Go.Proofs.Ytaegldcifhgnmaa.A
open Go.RowKit Go.Proofs.YtaegldcifhgnmaaW.PrintWords Go.Proofs.YtaegldcifhgnmaaW.PrintMore

/-- A function value that says of a number of feuds whether something is true of it. -/
structure Says (gi : Nat) (p : Nat → Bool) : Prop where
  enters : ∀ args w, (callFunc gi args).run Try.prog w = .ok (.enter gi args) w
  call : ∀ (fe : Nat) (W : World), fe ≤ 1000 → Calls Try.prog gi #[.int .i64 fe] W fun e w' => e = .returned (.bool (p fe)) ∧ Below W.heap.size W w'

/-- The best list so far. -/
def stepB (p : Nat → Bool) (s : Option (List Int)) (now : List Int) (fe : Nat) : Option (List Int) :=
  if p fe && (match s with | none => true | some b => decide (cmpL now b < 0)) then some now else s

/-- What the memory holds. -/
def BestIs (gi bi bb : Nat) (s : Option (List Int)) (S : Nat → Prop) (W : World) : Prop :=
  ∃ vb : Value, W.heap[bi]? = some (.cells #[.func (.func gi) #[] #[]] 65 (0, 0)) ∧ W.heap[bb]? = some (.cells #[vb] 28 (0, 0)) ∧ (∀ k, S k ↔ k = bi ∨ k = bb ∨ some k = vb.ownBlock) ∧ bi < bb ∧
    (match s with | none => vb = .slice none 0 0 | some b => b ≠ [] ∧ b.length ≤ 1000 ∧ Kd.R (Kd.int .i64) 3 W (bb + 1) (fun _ => True) vb b)

theorem enters87 : ∀ args w, (callFunc 87 args).run Try.prog w = .ok (.enter 87 args) w := enters_of Try.func87 (by kernel_rfl) rfl

variable {gi bi bb : Nat} {p : Nat → Bool}
theorem best_lt {s : Option (List Int)} {S : Nat → Prop} {W : World} (h : BestIs gi bi bb s S W) (k : Nat) (hk : S k) : k < W.heap.size := by
  obtain ⟨vb, h1, h2, h3, h4, h5⟩ := h
  rcases (h3 k).1 hk with rfl | rfl | e
  · exact blk_lt h1
  · exact blk_lt h2
  · cases s with
    | none => subst h5; simp [Value.ownBlock] at e
    | some b => exact Kd.R_lt h5.2.2 k e.symm
theorem best_keep {s : Option (List Int)} {S : Nat → Prop} {W W' : World} (h : BestIs gi bi bb s S W) (hk : ∀ k, S k → W'.heap[k]? = W.heap[k]?) : BestIs gi bi bb s S W' := by
  obtain ⟨vb, h1, h2, h3, h4, h5⟩ := h
  refine ⟨vb, (hk bi ((h3 bi).2 (.inl rfl))).trans h1, (hk bb ((h3 bb).2 (.inr (.inl rfl)))).trans h2, h3, h4, ?_⟩
  cases s with
  | none => exact h5
  | some b =>
    refine ⟨h5.1, h5.2.1, ?_⟩
    obtain ⟨hok, inner, ho, hr⟩ := h5.2.2
    exact ⟨hok, inner, own_move ho (fun k e => hk k ((h3 k).2 (.inr (.inr e.symm)))), hr⟩
theorem best_new {S : Nat → Prop} {s : Option (List Int)} {W W2 : World} {v : Value} {now : List Int} (h : BestIs gi bi bb s S W) (hb : Below W.heap.size W W2) (hr : Kd.R (Kd.int .i64) 3 W2 W.heap.size (fun _ => True) v now) (hne : now ≠ []) (hl : now.length ≤ 1000) :
    ∃ S', BestIs gi bi bb (some now) S' (W2.setCell ⟨bb, 0, none⟩ v) ∧ (∀ k, S' k → S k ∨ W.heap.size ≤ k) ∧ Fw S W (W2.setCell ⟨bb, 0, none⟩ v) := by
  obtain ⟨vb, h1, h2, h3, h4, h5⟩ := h
  have hbl := blk_lt h2
  have e1 : (W2.setCell ⟨bb, 0, none⟩ v).heap[bi]? = some (.cells #[.func (.func gi) #[] #[]] 65 (0, 0)) := blk_far ((hb.block bi (by omega)).trans h1) (by show bi ≠ bb; omega) _
  have e2 : (W2.setCell ⟨bb, 0, none⟩ v).heap[bb]? = some (.cells #[v] 28 (0, 0)) := blk_set ((hb.block bb hbl).trans h2) 0 _
  have hrow : Kd.R (Kd.int .i64) 3 (W2.setCell ⟨bb, 0, none⟩ v) W.heap.size (fun _ => True) v now := by
    have h1 := Kd.R_bound hr
    exact Kd.R_mono (Kd.R_far h1 (fun k hk => by show k ≠ bb; have := hk.2.1; omega) v) (fun _ _ => trivial)
  refine ⟨fun k => k = bi ∨ k = bb ∨ some k = v.ownBlock, ⟨v, e1, e2, fun k => Iff.rfl, h4, hne, hl, Kd.R_lower hrow (by omega)⟩, fun k hk => ?_, ?_⟩
  · rcases hk with rfl | rfl | e
    · exact .inl ((h3 k).2 (.inl rfl))
    · exact .inl ((h3 k).2 (.inr (.inl rfl)))
    · exact .inr (Kd.R_base hr k e.symm)
  · have hot : (W2.setCell ⟨bb, 0, none⟩ v).os = W2.os ∧ (W2.setCell ⟨bb, 0, none⟩ v).tape = W2.tape ∧ (W2.setCell ⟨bb, 0, none⟩ v).output = W2.output ∧ (W2.setCell ⟨bb, 0, none⟩ v).heap.size = W2.heap.size := by
      unfold World.setCell; split <;> simp
    exact ⟨hot.1.trans hb.os, hot.2.1.trans hb.tape, hot.2.2.1.trans hb.output, by rw [hot.2.2.2]; exact hb.size, fun k hk hS => (Below.heap_setCell _ _ _ _ (fun e => hS ((h3 k).2 (.inr (.inl e))))).trans (hb.block k hk)⟩

def BestPost (gi bi bb : Nat) (p : Nat → Bool) (s : Option (List Int)) (S : Nat → Prop) (W : World) (now : List Int) (fe : Nat) (e : Ending) (w' : World) : Prop :=
  e = .returned (.bool false) ∧ ∃ S', BestIs gi bi bb (stepB p s now fe) S' w' ∧ (∀ k, S' k → S k ∨ W.heap.size ≤ k) ∧ Fw S W w'
theorem BestPost.stay {s : Option (List Int)} {S : Nat → Prop} {W w' : World} {now : List Int} {fe : Nat} (h : BestIs gi bi bb s S W) (hb : Below W.heap.size W w') (hs : stepB p s now fe = s) : BestPost gi bi bb p s S W now fe (.returned (.bool false)) w' :=
  ⟨rfl, S, by rw [hs]; exact best_keep h (fun k hk => hb.block k (best_lt h k hk)), fun _ h => .inl h, Fw.of_below hb⟩
theorem BestPost.turn {s : Option (List Int)} {S : Nat → Prop} {W W2 : World} {v : Value} {now : List Int} {fe : Nat} (h : BestIs gi bi bb s S W) (hb : Below W.heap.size W W2) (hr : Kd.R (Kd.int .i64) 3 W2 W.heap.size (fun _ => True) v now) (hne : now ≠ []) (hl : now.length ≤ 1000) (hs : stepB p s now fe = some now) : BestPost gi bi bb p s S W now fe (.returned (.bool false)) (W2.setCell ⟨bb, 0, none⟩ v) := by
  obtain ⟨S', h1, h2, h3⟩ := best_new h hb hr hne hl
  exact ⟨rfl, S', by rw [hs]; exact h1, h2, h3⟩

set_option maxRecDepth 100000 in
set_option maxHeartbeats 1600000 in
theorem visit_calls (hsay : Says gi p) (s : Option (List Int)) (S : Nat → Prop) (W : World) (A : Option Addr) (c : Nat) (now : List Int) (fe : Nat) (h : BestIs gi bi bb s S W) (hr : Kd.C (Kd.int .i64) W A now.length now) (hn : now.length ≤ 1000) (hne : now ≠ []) (hf : fe ≤ 1000) :
    Calls Try.prog 87 #[.slice A now.length c, .int .i64 fe, .pointer (some ⟨bi, 0, none⟩), .pointer (some ⟨bb, 0, none⟩)] W (BestPost gi bi bb p s S W now fe) := by
  have HH := Aside0.mk h
  have HR := Aside0.mk hr
  have HN := Aside0.mk hne
  have HS := Aside0.mk hsay
  have eg := hsay.enters
  obtain ⟨vb, h1, h2, h3, h4, h5⟩ := h
  obtain ⟨a0, _⟩ := cells1 h1
  obtain ⟨b0, bf0⟩ := cells1 h2
  have H2 := Aside0.mk h2
  clear h1 h2 h3 hr hne hsay
  cases hp : p fe with
  | false =>
    have HP := Aside0.mk hp
    have HST : Aside0 (stepB p s now fe = s) := ⟨by unfold stepB; rw [hp]; rfl⟩
    clear hp h5
    go_enter Try.func87, Try.ntmps87
    go_wp2_with (go_at_fn gi; go_must (refine (HS.out.call fe _ hf).mono ?_; rw [HP.out]; rintro e w2 ⟨rfl, hb2⟩; have HB2 := Aside0.mk hb2; clear hb2))
    go_ret
    exact BestPost.stay HH.out HB2.out HST.out
  | true =>
    have HP := Aside0.mk hp
    cases s with
    | none =>
      have HST : Aside0 (stepB p none now fe = some now) := ⟨by unfold stepB; rw [hp]; rfl⟩
      subst h5
      clear hp
      have hnil := fun (w : World) => run_eql_slice_nil w 28 3 none 0 0 Try.underlying28
      go_enter Try.func87, Try.ntmps87
      go_wp2_with (first
        | (go_at_fn gi; go_must (refine (HS.out.call fe _ hf).mono ?_; rw [HP.out]; rintro e w2 ⟨rfl, hb2⟩; have hbc := cells1 ((hb2.block bb (blk_lt H2.out)).trans H2.out); obtain ⟨b2, bf2⟩ := hbc; have HB2 := Aside0.mk hb2; clear hb2))
        | (go_at_call 68; go_must (refine (clone_calls (Kd.C_below HR.out HB2.out) hn HN.out).mono ?_; rintro e w3 ⟨v3, rfl, hr3, hb3⟩; have HR3 := Aside0.mk (Kd.R_lower hr3 HB2.out.size); obtain ⟨A3, c3, hv3, _, _⟩ := Kd.R_reads hr3; subst hv3; have HB3 := Aside0.mk (below_then HB2.out HB2.out.size hb3); obtain ⟨b3, bf3⟩ := cells1 ((HB3.out.block bb (blk_lt H2.out)).trans H2.out); clear hr3 hb3 b2 bf2)))
      go_ret
      exact BestPost.turn HH.out HB3.out HR3.out HN.out hn HST.out
    | some b =>
      obtain ⟨hbne, hbl, hrow⟩ := h5
      obtain ⟨g2, cap, hvb, _, _, _⟩ := Kd.R_form hrow (List.length_pos_iff.2 hbne)
      subst hvb
      have HRB := Aside0.mk (Kd.R_reads' hrow).2.2
      have hnil := fun (w : World) => run_eql_slice_nil w 28 3 (some ⟨g2, 0, none⟩) b.length cap Try.underlying28
      obtain ⟨z, hz⟩ : ∃ z, cmpL now b = z := ⟨_, rfl⟩
      have HC := Aside0.mk hz
      by_cases hlt : z < 0
      · have HST : Aside0 (stepB p (some b) now fe = some now) := ⟨by unfold stepB; rw [hp]; dsimp only; rw [if_pos (by rw [Bool.true_and]; exact decide_eq_true (by rw [hz]; exact hlt))]⟩
        clear hp hz hrow hbne
        go_enter Try.func87, Try.ntmps87
        go_wp2_with (first
          | (go_at_fn gi; go_must (refine (HS.out.call fe _ hf).mono ?_; rw [HP.out]; rintro e w2 ⟨rfl, hb2⟩; have hbc := cells1 ((hb2.block bb (blk_lt H2.out)).trans H2.out); obtain ⟨b2, bf2⟩ := hbc; have HB2 := Aside0.mk hb2; clear hb2))
          | (go_at_call 67; go_must (refine (Compare_calls A c now (some ⟨g2, 0, none⟩) cap b _ (Kd.C_below HR.out HB2.out) (Kd.C_below HRB.out HB2.out)).mono ?_; rw [HC.out]; rintro e w' ⟨rfl, rfl⟩))
          | (go_at_call 68; go_must (refine (clone_calls (Kd.C_below HR.out HB2.out) hn HN.out).mono ?_; rintro e w3 ⟨v3, rfl, hr3, hb3⟩; have HR3 := Aside0.mk (Kd.R_lower hr3 HB2.out.size); obtain ⟨A3, c3, hv3, _, _⟩ := Kd.R_reads hr3; subst hv3; have HB3 := Aside0.mk (below_then HB2.out HB2.out.size hb3); obtain ⟨b3, bf3⟩ := cells1 ((HB3.out.block bb (blk_lt H2.out)).trans H2.out); clear hr3 hb3 b2 bf2)))
        go_ret
        exact BestPost.turn HH.out HB3.out HR3.out HN.out hn HST.out
      · have HST : Aside0 (stepB p (some b) now fe = some b) := ⟨by unfold stepB; rw [hp]; dsimp only; rw [if_neg (by rw [Bool.true_and]; intro h; have := of_decide_eq_true h; rw [hz] at this; exact hlt this)]⟩
        clear hp hz hrow hbne
        go_enter Try.func87, Try.ntmps87
        go_wp2_with (first
          | (go_at_fn gi; go_must (refine (HS.out.call fe _ hf).mono ?_; rw [HP.out]; rintro e w2 ⟨rfl, hb2⟩; have hbc := cells1 ((hb2.block bb (blk_lt H2.out)).trans H2.out); obtain ⟨b2, bf2⟩ := hbc; have HB2 := Aside0.mk hb2; clear hb2))
          | (go_at_call 67; go_must (refine (Compare_calls A c now (some ⟨g2, 0, none⟩) cap b _ (Kd.C_below HR.out HB2.out) (Kd.C_below HRB.out HB2.out)).mono ?_; rw [HC.out]; rintro e w' ⟨rfl, rfl⟩)))
        go_ret
        exact BestPost.stay HH.out HB2.out HST.out

theorem best_visitor (hsay : Says gi p) : Visitor 87 #[.pointer (some ⟨bi, 0, none⟩), .pointer (some ⟨bb, 0, none⟩)] (stepB p) (BestIs gi bi bb) where
  enters := enters87
  lt := best_lt
  keep := best_keep
  call A c now fe hI hr hn _ hne hf _ := visit_calls hsay _ _ _ A c now fe hI hr hn hne hf
end Go.Proofs.Ytaegldcifhgnmaa.A

/- find: the first list of a ring with the fewest ties for which something is true of its feuds. -/
namespace Go.Proofs.Ytaegldcifhgnmaa.A
open Go.RowKit Go.Proofs.YtaegldcifhgnmaaW.PrintWords Go.Proofs.YtaegldcifhgnmaaW.PrintMore

/-- The first of n numbers that gives something. -/
def firstN {α : Type} (f : Nat → Option α) : Nat → Option α
  | 0 => none
  | k + 1 => match firstN f k with
    | some r => some r
    | none => f k
theorem firstN_succ_none {α : Type} {f : Nat → Option α} {k : Nat} (h : firstN f k = none) : firstN f (k + 1) = f k := by rw [firstN, h]
theorem firstN_hit {α : Type} {f : Nat → Option α} {k : Nat} {r : α} (h : firstN f k = some r) : ∀ j, firstN f (k + j) = some r
  | 0 => h
  | j + 1 => by
    show firstN f ((k + j) + 1) = some r
    rw [firstN, firstN_hit h j]
theorem firstN_some {α : Type} {f : Nat → Option α} {k m : Nat} {r : α} (hk : k < m) (h0 : firstN f k = none) (h1 : f k = some r) : firstN f m = some r := by
  have h2 : firstN f (k + 1) = some r := by rw [firstN_succ_none h0, h1]
  have := firstN_hit h2 (m - (k + 1))
  rwa [show k + 1 + (m - (k + 1)) = m by omega] at this
theorem firstN_none {α : Type} {f : Nat → Option α} : ∀ k, (∀ i, i < k → f i = none) → firstN f k = none
  | 0, _ => rfl
  | k + 1, h => by rw [firstN_succ_none (firstN_none k fun i hi => h i (by omega))]; exact h k (by omega)

/-- The best list with a number of ties. -/
def bestN (p : Nat → Bool) (l : List S39) (long : Nat) : Option (List Int) := foldV (stepB p) none (ringsF l (long - 1))
def bestA (p : Nat → Bool) (l : List S39) (long : Nat) : Option (List Int) := if 3 ≤ long then bestN p l long else none
def findF (p : Nat → Bool) (l : List S39) (n : Nat) : Option (List Int) := firstN (bestA p l) (n + 1)

def FindPost (S : Option (List Int)) (w : World) (e : Ending) (w' : World) : Prop :=
  ∃ v : Value, e = .returned v ∧ Kd.R (Kd.int .i64) 3 w' w.heap.size (fun _ => True) v (S.getD []) ∧ (S = none → v = .slice none 0 0) ∧ (S ≠ none → ∃ b n c, v = .slice (some b) n c) ∧ Below w.heap.size w w'

theorem find_start (w : World) (n : Int) (v : Value) (gi : Nat) :
    ((w.alloc (.cells #[.int .i64 n, v] 59)).alloc (.cells #[.func (.func gi) #[] #[]] 65)).heap[w.heap.size]? = some (.cells #[.int .i64 n, v] 59 (0, 0)) ∧ ((w.alloc (.cells #[.int .i64 n, v] 59)).alloc (.cells #[.func (.func gi) #[] #[]] 65)).heap[w.heap.size + 1]? = some (.cells #[.func (.func gi) #[] #[]] 65 (0, 0)) ∧ Below w.heap.size w ((w.alloc (.cells #[.int .i64 n, v] 59)).alloc (.cells #[.func (.func gi) #[] #[]] 65)) := by
  refine ⟨blk_alloc (heap_alloc_new w _) _, ?_, below_alloc (below_alloc (Below.refl _ _) _) _⟩
  have := heap_alloc_new (w.alloc (.cells #[.int .i64 n, v] 59)) (.cells #[.func (.func gi) #[] #[]] 65)
  simpa using this

set_option maxRecDepth 100000 in
set_option maxHeartbeats 1600000 in
theorem find_calls (gi : Nat) (p : Nat → Bool) (hsay : Says gi p) (n : Nat) (hn : n ≤ 800) (A : Option Addr) (c : Nat) (l : List S39) (hsm : smallT l) (hl : l.length ≤ 1000) (w : World) (hr : Kd.C k39 w A l.length l) :
    Calls Try.prog 76 #[.agg #[.int .i64 n, .slice A l.length c], .func (.func gi) #[] #[]] w (FindPost (findF p l n) w) := by
  have HS := Aside0.mk hsay
  have HSM := Aside0.mk hsm
  have HR := Aside0.mk hr
  have HST := Aside0.mk (find_start w n (.slice A l.length c) gi)
  obtain ⟨Z, hZ⟩ : ∃ Z, findF p l n = Z := ⟨_, rfl⟩
  have HZ := Aside0.mk hZ
  rw [hZ]
  have hca : Aside0 (∀ ad, A = some ad → 0 < l.length → ad.block < w.heap.size) := ⟨fun ad e hp => by
    obtain ⟨ad', e', hx, _⟩ := at_T39 hr 0 (by omega) (by omega)
    rw [e] at e'
    cases e'
    have := World.block_lt_of_cell? w _ hx
    rwa [add_block] at this⟩
  clear hsay hsm hr hZ
  go_enter Try.func76, Try.ntmps76
  go_wp2
  generalize hg : w.heap.size = g at HST hca ⊢
  have HG := Aside0.mk hg
  clear hg
  go_loopg [5, 6] (n + 1) (fun gg v5 _ wr => ∃ k : Nat, 3 ≤ k ∧ n + 1 - k ≤ gg ∧ v5 = .int .i64 k ∧ k ≤ n + 3 ∧ Aside0 (wr.heap[g]? = some (.cells #[.int .i64 n, .slice A l.length c] 59 (0, 0)) ∧ wr.heap[g + 1]? = some (.cells #[.func (.func gi) #[] #[]] 65 (0, 0)) ∧ Below g w wr) ∧ Aside0 (firstN (bestA p l) (min k (n + 1)) = none))
  case atStart => exact ⟨3, Nat.le_refl _, by omega, rfl, by omega, HST, ⟨firstN_none _ fun i hi => by unfold bestA; rw [if_neg (by omega)]⟩⟩
  case round =>
    clear HST
    obtain ⟨k, hk, hgg, rfl, hkn, HI, AF⟩ := hrel
    obtain ⟨n0, n1, _, _⟩ := cells2 HI.out.1
    by_cases hlt : k ≤ n
    · have hltz : (k : Int) ≤ (n : Int) := by omega
      obtain ⟨S, hS⟩ : ∃ S, bestN p l k = S := ⟨_, rfl⟩
      have HSS := Aside0.mk hS
      have hg1 := blk_lt HI.out.2.1
      have hz : g ≤ wr.heap.size := by omega
      have hb1 : Below wr.heap.size wr (wr.alloc (.cells #[.slice none 0 0] 28)) := below_alloc (Below.refl _ _) _
      have hI1 : BestIs gi (g + 1) wr.heap.size none (fun k => k = g + 1 ∨ k = wr.heap.size) (wr.alloc (.cells #[.slice none 0 0] 28)) := ⟨.slice none 0 0, (hb1.block _ hg1).trans HI.out.2.1, heap_alloc_new _ _, fun k => by simp [Value.ownBlock], by omega, rfl⟩
      have hcall := Aside0.mk (rings_calls (n := n) (c := c) (A := A) (best_visitor HS.out) (k - 1) (by omega) (show k = k - 1 + 1 by omega) HSM.out hl none (wr.alloc (.cells #[.slice none 0 0] 28)) hI1 (Kd.C_below (Kd.C_below HR.out (by rw [HG.out]; exact HI.out.2.2)) hb1) (fun ad e hp hs => by have := hca.out ad e hp; rcases hs with hs | hs <;> omega))
      have hS2 : foldV (stepB p) none (ringsF l (k - 1)) = S := hS
      rw [hS2] at hcall
      have HI1 : Aside0 (Below g w (wr.alloc (.cells #[.slice none 0 0] 28)) ∧ (wr.alloc (.cells #[.slice none 0 0] 28)).heap[g]? = some (.cells #[.int .i64 n, .slice A l.length c] 59 (0, 0)) ∧ (wr.alloc (.cells #[.slice none 0 0] 28)).heap.size = wr.heap.size + 1 ∧ g + 1 < wr.heap.size) := ⟨(HI.out.2.2.trans (hb1.mono hz)), (hb1.block _ (by omega)).trans HI.out.1, by simp, hg1⟩
      have hg0 : g < wr.heap.size := by omega
      clear hS hI1 hb1 hS2
      go_wp2_with (go_at_call 65; go_must (refine hcall.out.mono ?_; rintro e w2 ⟨rfl, S', k1, k2, k3⟩; have K1 := Aside0.mk k1; have K3 := Aside0.mk k3; obtain ⟨vb, _, hvb, _, _, _⟩ := k1; obtain ⟨v0, _⟩ := cells1 hvb; have HVB := Aside0.mk hvb; clear k2 k3 hvb))
      have hB2 : Aside0 (Below g w w2) := ⟨(HI1.out.1.trans (K3.out.below (B := g) (by have := HI1.out.2.2.1; have := HI1.out.2.2.2; omega) (fun k hk => by have := HI1.out.2.2.2; rcases hk with hk | hk <;> omega)))⟩
      have hN2 : Aside0 (w2.heap[g]? = some (.cells #[.int .i64 n, .slice A l.length c] 59 (0, 0))) := ⟨(K3.out.block g (by have := HI1.out.2.2.1; omega) (fun hk => by have := HI1.out.2.2.2; rcases hk with hk | hk <;> omega)).trans HI1.out.2.1⟩
      cases S with
      | none =>
        obtain ⟨vb', k1, k2, k3, k4, k5⟩ := K1.out
        have hv0 := Aside0.mk ((blk_cell k2 0).symm.trans (blk_cell HVB.out 0))
        have hvn : vb = .slice none 0 0 := by have := hv0.out; simp at this; rw [← this]; exact k5
        subst hvn
        have K11 := Aside0.mk k1
        have hnil := fun (w : World) => run_neq_slice_nil_any w 28 3 none 0 0 0 0 Try.underlying28
        clear k1 k2 k3 k4 k5 hv0 K1
        go_wp2
        go_roundg (n + 1 - (k + 1))
        case measure => omega
        case rel =>
          refine ⟨k + 1, by omega, by omega, by go_num, by omega, ⟨hN2.out, K11.out, hB2.out⟩, ⟨?_⟩⟩
          have := AF.out
          rw [show min k (n + 1) = k by omega] at this
          rw [show min (k + 1) (n + 1) = k + 1 by omega, firstN_succ_none this, bestA, if_pos hk]
          exact HSS.out
      | some b =>
        obtain ⟨vb', k1, k2, k3, k4, k5, k6, k7⟩ := K1.out
        have hv0 := (blk_cell k2 0).symm.trans (blk_cell HVB.out 0)
        have hvn : vb' = vb := by simpa using hv0
        subst hvn
        obtain ⟨g2, cap, hv2, _, _, _⟩ := Kd.R_form k7 (List.length_pos_iff.2 k5)
        subst hv2
        have K7 := Aside0.mk k7
        have hnil := fun (w : World) => run_neq_slice_nil_any w 28 3 (some ⟨g2, 0, none⟩) b.length cap 0 0 Try.underlying28
        have HZ1 : Aside0 (Z = some b) := ⟨by rw [← HZ.out, findF]; have := AF.out; rw [show min k (n + 1) = k by omega] at this; exact firstN_some (by omega) this (by rw [bestA, if_pos hk]; exact HSS.out)⟩
        clear k1 k2 k3 k4 k5 k6 k7 hv0 K1
        go_wp2
        go_ret
        rw [HZ1.out, ← HG.out]
        exact ⟨_, rfl, Kd.R_lower K7.out (by rw [HG.out]; have := HI1.out.2.2.2; omega), fun h => (by cases h), fun _ => ⟨_, _, _, rfl⟩, by rw [HG.out]; exact hB2.out⟩
    · have hltz : ¬ (k : Int) ≤ (n : Int) := by omega
      have HZ0 : Aside0 (Z = none) := ⟨by rw [← HZ.out, findF, ← AF.out, show min k (n + 1) = n + 1 by omega]⟩
      go_wp2
      go_ret
      rw [HZ0.out, ← HG.out]
      exact ⟨_, rfl, Kd.R_nil _ _ _ _ _, fun _ => rfl, fun h => absurd rfl h, by rw [HG.out]; exact HI.out.2.2⟩
end Go.Proofs.Ytaegldcifhgnmaa.A

/- Ring and Spoilt: what they return. -/
/- Ring and Spoilt: what they return. -/
namespace Go.Proofs.Ytaegldcifhgnmaa.A
open Go.RowKit Go.Proofs.YtaegldcifhgnmaaW.PrintWords Go.Proofs.YtaegldcifhgnmaaW.PrintMore

def oddB (fe : Nat) : Bool := fe % 2 == 1
def oneB (fe : Nat) : Bool := fe == 1
theorem enters50 : ∀ args w, (callFunc 50 args).run Try.prog w = .ok (.enter 50 args) w := enters_of Try.func50 (by kernel_rfl) rfl
theorem enters57 : ∀ args w, (callFunc 57 args).run Try.prog w = .ok (.enter 57 args) w := enters_of Try.func57 (by kernel_rfl) rfl

theorem says_odd : Says 50 oddB where
  enters := enters50
  call fe W hf := by
    have e : feuds_odd.f fe = some (oddB fe) := by
      unfold feuds_odd.f oddB
      rw [Int.tmod_eq_emod_of_nonneg (Int.natCast_nonneg _)]
      congr 1
      rw [Bool.eq_iff_iff, beq_iff_eq, beq_iff_eq]
      omega
    exact (feuds_odd.calls fe _ W e).mono fun _ _ ⟨a, b⟩ => ⟨a, b.below⟩
set_option maxRecDepth 100000 in
set_option maxHeartbeats 400000 in
theorem one_calls (fe : Nat) (W : World) : Calls Try.prog 57 #[.int .i64 fe] W fun e w' => e = .returned (.bool (oneB fe)) ∧ Below W.heap.size W w' := by
  have HB := Aside0.mk (Below.refl W.heap.size W)
  obtain ⟨b, hb⟩ : ∃ b, oneB fe = b := ⟨_, rfl⟩
  have hz : ((fe : Int) == 1) = b := by rw [← hb]; unfold oneB; rw [Bool.eq_iff_iff, beq_iff_eq, beq_iff_eq]; omega
  rw [hb]
  clear hb
  go_enter Try.func57, Try.ntmps57
  go_wp2
  go_ret
  exact ⟨rfl, HB.out⟩
theorem says_one : Says 57 oneB where
  enters := enters57
  call fe W _ := one_calls fe W

def ringZ (S : Option (List Int)) : List Int × Int := match S with
  | some b => (b, 0)
  | none => ([], 10)
def ringF (p : Nat → Bool) (n : Int) (l : List S39) : List Int × Int := if tiesE n l = 0 then ringZ (findF p l n.toNat) else ([], tiesE n l)
def FoundPost (Z : List Int × Int) (w : World) (e : Ending) (w' : World) : Prop :=
  ∃ v : Value, e = .returned (.tuple #[v, .int .i64 Z.2]) ∧ Kd.R (Kd.int .i64) 3 w' w.heap.size (fun _ => True) v Z.1 ∧ Below w.heap.size w w'

set_option maxRecDepth 100000 in
set_option maxHeartbeats 800000 in
theorem found_err (n : Int) (A : Option Addr) (c : Nat) (l : List S39) (u : Value) (w : World) (hr : Kd.C k39 w A l.length l) (E : Int) (h : tiesE n l = E) (h0 : E ≠ 0) :
    Calls Try.prog 49 #[.int .i64 n, .slice A l.length c, u] w (FoundPost ([], E) w) := by
  have HR := Aside0.mk hr
  have HE := Aside0.mk h
  have hg := errne h0
  have H0 := Aside0.mk h0
  clear hr h h0
  go_enter Try.func49, Try.ntmps49
  go_wp2_with (go_at_call 46; refine (read_err HR.out HE.out H0.out).mono ?_; rintro e w' ⟨rfl, hb'⟩; have HB := Aside0.mk hb'; clear hb')
  go_ret2
  exact ⟨_, rfl, Kd.R_nil _ _ _ _ _, below_alloc HB.out _⟩

set_option maxRecDepth 100000 in
set_option maxHeartbeats 800000 in
theorem found_good (gi : Nat) (p : Nat → Bool) (hsay : Says gi p) (m : Nat) (A : Option Addr) (c : Nat) (l : List S39) (w : World) (hr : Kd.C k39 w A l.length l) (h : tiesE m l = 0) :
    Calls Try.prog 49 #[.int .i64 m, .slice A l.length c, .func (.func gi) #[] #[]] w (FoundPost (ringZ (findF p l m)) w) := by
  have hm : m ≤ 8 := by have := (tiesE_parts h).1; omega
  have HR := Aside0.mk hr
  have HS := Aside0.mk (tiesE_small h)
  have HSA := Aside0.mk hsay
  have HL : Aside0 (l.length ≤ 1000) := ⟨by have := (tiesE_parts h).2.1; omega⟩
  have HE := Aside0.mk h
  obtain ⟨S, hS⟩ : ∃ S, findF p l m = S := ⟨_, rfl⟩
  have HSS := Aside0.mk hS
  rw [hS]
  clear hr h hsay hS
  cases S with
  | none =>
    have hnil := fun (w : World) => run_neq_slice_nil_any w 28 3 none 0 0 0 0 Try.underlying28
    go_enter Try.func49, Try.ntmps49
    go_wp2_with (first
      | (go_at_call 46; refine (read_good HR.out HE.out).mono ?_; rintro e w1 ⟨rfl, hb1⟩; have HB1 := Aside0.mk (below_alloc hb1 (.cells #[.int .i64 (m : Int), .slice A l.length c] 59)); clear hb1)
      | (go_at_call 76; go_must (refine (find_calls gi p HSA.out m (by omega) A c l HS.out HL.out _ (Kd.C_below HR.out HB1.out)).mono ?_; rw [HSS.out]; rintro e w2 ⟨v2, rfl, hr2, hv0, hv1, hb2⟩; have HR2 := Aside0.mk (Kd.R_lower hr2 HB1.out.size); have HB2 := Aside0.mk (below_then HB1.out HB1.out.size hb2); clear hr2 hb2; obtain rfl := hv0 rfl; clear hv0 hv1)))
    go_ret2
    exact ⟨_, rfl, Kd.R_nil _ _ _ _ _, HB2.out⟩
  | some b =>
    go_enter Try.func49, Try.ntmps49
    go_wp2_with (first
      | (go_at_call 46; refine (read_good HR.out HE.out).mono ?_; rintro e w1 ⟨rfl, hb1⟩; have HB1 := Aside0.mk (below_alloc hb1 (.cells #[.int .i64 (m : Int), .slice A l.length c] 59)); clear hb1)
      | (go_at_call 76; go_must (refine (find_calls gi p HSA.out m (by omega) A c l HS.out HL.out _ (Kd.C_below HR.out HB1.out)).mono ?_; rw [HSS.out]; rintro e w2 ⟨v2, rfl, hr2, hv0, hv1, hb2⟩; have HR2 := Aside0.mk (Kd.R_lower hr2 HB1.out.size); have HB2 := Aside0.mk (below_then HB1.out HB1.out.size hb2); clear hr2 hb2; obtain ⟨ad, n2, c2, rfl⟩ := hv1 (by simp); have hnil := fun (w : World) => run_neq_slice_nil_any w 28 3 (some ad) n2 c2 0 0 Try.underlying28; clear hv0)))
    go_ret2
    exact ⟨_, rfl, HR2.out, HB2.out⟩

theorem found_calls (gi : Nat) (p : Nat → Bool) (hsay : Says gi p) (n : Int) (A : Option Addr) (c : Nat) (l : List S39) (w : World) (hr : Kd.C k39 w A l.length l) :
    Calls Try.prog 49 #[.int .i64 n, .slice A l.length c, .func (.func gi) #[] #[]] w (FoundPost (ringF p n l) w) := by
  unfold ringF
  by_cases h0 : tiesE n l = 0
  · have h1 := tiesE_parts h0
    obtain ⟨m, rfl⟩ : ∃ m : Nat, n = m := ⟨n.toNat, by omega⟩
    rw [if_pos h0, Int.toNat_natCast]
    exact found_good gi p hsay m A c l w hr h0
  · rw [if_neg h0]
    exact found_err n A c l _ w hr _ rfl h0

set_option maxRecDepth 100000 in
set_option maxHeartbeats 400000 in
theorem Ring_calls (n : Int) (A : Option Addr) (c : Nat) (l : List S39) (w : World) (hr : Kd.C k39 w A l.length l) :
    Calls Try.prog 20 #[.int .i64 n, .slice A l.length c] w (FoundPost (ringF oddB n l) w) := by
  have H := Aside0.mk (found_calls 50 oddB says_odd n A c l w hr)
  clear hr
  go_enter Try.func20, Try.ntmps20
  go_wp2_with (go_at_call 49; go_must (refine H.out.mono ?_; rintro e w' ⟨v, rfl, hr, hb⟩; have HR := Aside0.mk hr; have HB := Aside0.mk hb; clear hr hb))
  go_ret2
  exact ⟨_, rfl, HR.out, HB.out⟩
set_option maxRecDepth 100000 in
set_option maxHeartbeats 400000 in
theorem Spoilt_calls (n : Int) (A : Option Addr) (c : Nat) (l : List S39) (w : World) (hr : Kd.C k39 w A l.length l) :
    Calls Try.prog 28 #[.int .i64 n, .slice A l.length c] w (FoundPost (ringF oneB n l) w) := by
  have H := Aside0.mk (found_calls 57 oneB says_one n A c l w hr)
  clear hr
  go_enter Try.func28, Try.ntmps28
  go_wp2_with (go_at_call 49; go_must (refine H.out.mono ?_; rintro e w' ⟨v, rfl, hr, hb⟩; have HR := Aside0.mk hr; have HB := Aside0.mk hb; clear hr hb))
  go_ret2
  exact ⟨_, rfl, HR.out, HB.out⟩

def feuds_Ring.f (a0 : Int) (l1 : List S39) : Option (List Int × Int) := some (ringF oddB a0 l1)
theorem feuds_Ring.calls (a0 : Int) (A1 : Option Addr) (c1 : Nat) (l1 : List S39) (r1 : List Int) (r2 : Int) (w : World) (hr1 : Kd.C k39 w A1 l1.length l1) (_hc1 : l1.length ≤ c1) (h : feuds_Ring.f a0 l1 = some (r1, r2)) :
    Calls Try.prog 20 #[.int .i64 a0, .slice A1 l1.length c1] w fun e w' => ∃ v0_ : Value, e = .returned (.tuple #[v0_, .int .i64 r2]) ∧ Kd.R (Kd.int .i64) 3 w' w.heap.size (fun _ => True) v0_ r1 ∧ Below w.heap.size w w' := by
  have h := Option.some.inj h
  have := Ring_calls a0 A1 c1 l1 w hr1
  rw [h] at this
  exact this
def feuds_Spoilt.f (a0 : Int) (l1 : List S39) : Option (List Int × Int) := some (ringF oneB a0 l1)
theorem feuds_Spoilt.calls (a0 : Int) (A1 : Option Addr) (c1 : Nat) (l1 : List S39) (r1 : List Int) (r2 : Int) (w : World) (hr1 : Kd.C k39 w A1 l1.length l1) (_hc1 : l1.length ≤ c1) (h : feuds_Spoilt.f a0 l1 = some (r1, r2)) :
    Calls Try.prog 28 #[.int .i64 a0, .slice A1 l1.length c1] w fun e w' => ∃ v0_ : Value, e = .returned (.tuple #[v0_, .int .i64 r2]) ∧ Kd.R (Kd.int .i64) 3 w' w.heap.size (fun _ => True) v0_ r1 ∧ Below w.heap.size w w' := by
  have h := Option.some.inj h
  have := Spoilt_calls a0 A1 c1 l1 w hr1
  rw [h] at this
  exact this
end Go.Proofs.Ytaegldcifhgnmaa.A

/- The groups of drovers, plain. -/
namespace Go.Proofs.Ytaegldcifhgnmaa.A
open Go.RowKit Go.Proofs.YtaegldcifhgnmaaW.PrintWords Go.Proofs.YtaegldcifhgnmaaW.PrintMore

/-- a without b. -/
def less (a b : Nat) : Nat := a ^^^ (a &&& b)
theorem tb_less (a b i : Nat) : (less a b).testBit i = (a.testBit i && !b.testBit i) := by
  unfold less
  rw [Nat.testBit_xor, Nat.testBit_and]
  cases a.testBit i <;> cases b.testBit i <;> rfl
theorem less_lt {a b k : Nat} (h : a < 2 ^ k) : less a b < 2 ^ k := Nat.xor_lt_two_pow h (Nat.lt_of_le_of_lt Nat.and_le_left h)
theorem andNot64 (a b : Nat) (ha : a < 2 ^ 62) (_hb : b < 2 ^ 62) : bits .andNot .i64 (a : Int) (b : Int) = ((less a b : Nat) : Int) := by
  have e : (BitVec.ofInt IntKind.i64.bits (a : Int) &&& ~~~ BitVec.ofInt IntKind.i64.bits (b : Int)).toNat = less a b := by
    rw [BitVec.ofInt_natCast, BitVec.ofInt_natCast]
    apply Nat.eq_of_testBit_eq
    intro i
    rw [tb_less, BitVec.testBit_toNat, BitVec.getLsbD_and, BitVec.getLsbD_not, BitVec.getLsbD_ofNat, BitVec.getLsbD_ofNat]
    by_cases hi : i < IntKind.i64.bits
    · simp [hi]
    · rw [tb_big ha (j := i) (by have : IntKind.i64.bits = 64 := rfl; omega)]
      simp
  show IntKind.i64.wrap _ = _
  simp only [e]
  exact wrap64_nat _ (by omega) (by exact_mod_cast less_lt ha)

/-- The least drover of a set, as a set. -/
def lowB (x : Nat) : Nat := less x (x - 1)
theorem low_table : (List.range 256).all (fun x => decide (bits .and .i64 (x : Int) (-(x : Int)) = (lowB x : Int))) = true := by decide +kernel
theorem low_ask {x : Nat} (h : x < 256) : bits .and .i64 (x : Int) (-(x : Int)) = (lowB x : Int) := by
  have := List.all_eq_true.1 low_table x (List.mem_range.2 h)
  exact of_decide_eq_true this

def pairB (t : S39) : Nat := 2 ^ t.f0.toNat ||| 2 ^ t.f1.toNat
/-- A set, with the drovers that a tie adds. -/
def addT (q : S39 → Bool) (t : S39) (x : Nat) : Nat := if q t = true ∧ x &&& pairB t ≠ 0 then x ||| pairB t else x
/-- With those that the first k ties add, one after another. -/
def addK (q : S39 → Bool) (l : List S39) (x : Nat) : Nat → Nat
  | 0 => x
  | k + 1 => addT q (l.getD k z39) (addK q l x k)
def spread (q : S39 → Bool) (l : List S39) (x : Nat) : Nat → Nat
  | 0 => x
  | k + 1 => addK q l (spread q l x k) l.length
/-- The groups of those that are left. -/
def groupsL (q : S39 → Bool) (n : Nat) (l : List S39) : Nat → Nat → List Int
  | 0, _ => []
  | f + 1, left => if left = 0 then [] else ((spread q l (lowB left) n : Nat) : Int) :: groupsL q n l f (less left (spread q l (lowB left) n))
def groupsF (q : S39 → Bool) (n : Nat) (l : List S39) : List Int := groupsL q n l (2 ^ n) (2 ^ n - 1)

theorem addT_sup {q : S39 → Bool} {t : S39} {x i : Nat} (h : x.testBit i = true) : (addT q t x).testBit i = true := by
  unfold addT
  split
  · rw [Nat.testBit_or, h]; rfl
  · exact h
theorem addK_sup {q : S39 → Bool} {l : List S39} {x i : Nat} (h : x.testBit i = true) : ∀ k, (addK q l x k).testBit i = true
  | 0 => h
  | k + 1 => addT_sup (addK_sup h k)
theorem spread_sup {q : S39 → Bool} {l : List S39} {x i : Nat} (h : x.testBit i = true) : ∀ k, (spread q l x k).testBit i = true
  | 0 => h
  | k + 1 => addK_sup (spread_sup h k) _
/-- Ties of m drovers. -/
def okN (m : Nat) (l : List S39) : Prop := ∀ t ∈ l, 0 ≤ t.f0 ∧ t.f0 < m ∧ 0 ≤ t.f1 ∧ t.f1 < m
theorem pairB_lt {m : Nat} {t : S39} (h : 0 ≤ t.f0 ∧ t.f0 < m ∧ 0 ≤ t.f1 ∧ t.f1 < m) : pairB t < 2 ^ m :=
  or_lt (Nat.pow_lt_pow_right (by decide) (by omega)) (Nat.pow_lt_pow_right (by decide) (by omega))
theorem addK_lt {q : S39 → Bool} {l : List S39} {x m : Nat} (hl : okN m l) (hx : x < 2 ^ m) : ∀ k, k ≤ l.length → addK q l x k < 2 ^ m
  | 0, _ => hx
  | k + 1, hk => by
    unfold addK addT
    split
    · exact or_lt (addK_lt hl hx k (by omega)) (pairB_lt (hl _ (getD_mem z39 (by omega))))
    · exact addK_lt hl hx k (by omega)
theorem spread_lt {q : S39 → Bool} {l : List S39} {x m : Nat} (hl : okN m l) (hx : x < 2 ^ m) : ∀ k, spread q l x k < 2 ^ m
  | 0 => hx
  | k + 1 => addK_lt hl (spread_lt hl hx k) _ (Nat.le_refl _)
theorem lowB_lt {x m : Nat} (h : x < 2 ^ m) : lowB x < 2 ^ m := less_lt h
theorem low_bit_table : (List.range 256).all (fun x => x == 0 || (List.range 8).any fun i => x.testBit i && (lowB x).testBit i) = true := by decide +kernel
theorem low_bit {x : Nat} (h : x < 256) (h0 : x ≠ 0) : ∃ i, x.testBit i = true ∧ (lowB x).testBit i = true := by
  have := List.all_eq_true.1 low_bit_table x (List.mem_range.2 h)
  rw [Bool.or_eq_true, beq_iff_eq] at this
  rcases this with h1 | h1
  · exact absurd h1 h0
  · obtain ⟨i, _, hi⟩ := List.any_eq_true.1 h1
    rw [Bool.and_eq_true] at hi
    exact ⟨i, hi.1, hi.2⟩
theorem less_le (a b : Nat) : less a b ≤ a := by
  have : a &&& less a b = less a b := by
    apply Nat.eq_of_testBit_eq
    intro i
    rw [Nat.testBit_and, tb_less]
    cases a.testBit i <;> simp
  rw [← this]
  exact Nat.and_le_left
theorem less_dec {a b i : Nat} (ha : a.testBit i = true) (hb : b.testBit i = true) : less a b < a := by
  have h1 := less_le a b
  rcases Nat.lt_or_eq_of_le h1 with h | h
  · exact h
  · have := tb_less a b i
    rw [h, ha, hb] at this
    cases this
end Go.Proofs.Ytaegldcifhgnmaa.A

/- The groups of drovers: the walk. -/
namespace Go.Proofs.Ytaegldcifhgnmaa.A
open Go.RowKit Go.Proofs.YtaegldcifhgnmaaW.PrintWords Go.Proofs.YtaegldcifhgnmaaW.PrintMore

/-- A function value that says of a tie whether something is true of it. -/
structure SaysT (gq : Nat) (q : S39 → Bool) : Prop where
  enters : ∀ args w, (callFunc gq args).run Try.prog w = .ok (.enter gq args) w
  call : ∀ (t : S39) (W : World), Calls Try.prog gq #[.agg #[.int .i64 t.f0, .int .i64 t.f1, .bool t.f2]] W fun e w' => e = .returned (.bool (q t)) ∧ Below W.heap.size W w'

/-- What is held. -/
structure Held (w : World) (n : Nat) (A : Option Addr) (c : Nat) (l : List S39) (v : Value) (out : List Int) (W : World) : Prop where
  net : W.heap[w.heap.size]? = some (.cells #[.int .i64 n, .slice A l.length c] 59 (0, 0))
  below : Below w.heap.size w W
  row : Kd.R (Kd.int .i64) 3 W (w.heap.size + 1) (fun _ => True) v out
theorem held_next {w W W' : World} {n : Nat} {A : Option Addr} {c : Nat} {l : List S39} {v : Value} {out : List Int} (h : Held w n A c l v out W) (hb : Below W.heap.size W W') : Held w n A c l v out W' :=
  ⟨(hb.block _ (blk_lt h.net)).trans h.net, below_then h.below h.below.size hb, Kd.R_below h.row hb⟩

set_option maxRecDepth 100000 in
set_option maxHeartbeats 3200000 in
theorem groups_calls (gq : Nat) (q : S39 → Bool) (hsay : SaysT gq q) (n : Nat) (hn : n ≤ 8) (A : Option Addr) (c : Nat) (l : List S39) (hok : okN n l) (hl : l.length ≤ 1000) (w : World) (hr : Kd.C k39 w A l.length l) :
    Calls Try.prog 52 #[.agg #[.int .i64 n, .slice A l.length c], .func (.func gq) #[] #[]] w fun e w' => ∃ v, e = .returned v ∧ Kd.R (Kd.int .i64) 3 w' w.heap.size (fun _ => True) v (sortI (groupsF q n l)) ∧ Below w.heap.size w w' := by
  have HS := Aside0.mk hsay
  have HR := Aside0.mk hr
  have HO := Aside0.mk hok
  have eg := hsay.enters
  have hg0 := heap_alloc_new w (.cells #[.int .i64 n, .slice A l.length c] 59)
  have hb0 : Below w.heap.size w (w.alloc (.cells #[.int .i64 n, .slice A l.length c] 59)) := below_alloc (Below.refl _ _) _
  have H0 := Aside0.mk (And.intro hg0 hb0)
  obtain ⟨F, hF⟩ : ∃ F, groupsF q n l = F := ⟨_, rfl⟩
  have HF := Aside0.mk hF
  have hp8 := pow8 hn
  have hw : wrap64 (2 ^ n) = ((2 ^ n : Nat) : Int) := by rw [wrap64_two (by omega), pow_cast]
  obtain ⟨N, hN⟩ : ∃ N, 2 ^ n = N := ⟨_, rfl⟩
  have hN1 : 1 ≤ N := by rw [← hN]; exact Nat.two_pow_pos n
  rw [hF]
  rw [hN] at hw hp8
  have HN := Aside0.mk hN
  clear hsay hr hok hg0 hb0 hF hN
  go_enter Try.func52, Try.ntmps52
  go_wp2
  rw [hw]
  clear hw
  have hstart : Aside0 (Held w n A c l (.slice none 0 0) [] (w.alloc (.cells #[.int .i64 n, .slice A l.length c] 59))) := ⟨⟨H0.out.1, H0.out.2, Kd.R_nil _ _ _ _ _⟩⟩
  go_loopg [5, 6, 7, 9, 10] N (fun gg v5 v6 _ _ _ wr => ∃ (f left : Nat) (out : List Int), v6 = .int .i64 left ∧ left < N ∧ f ≤ gg ∧ left ≤ f ∧ out.length + f ≤ 256 ∧ Aside0 (Held w n A c l v5 out wr) ∧ Aside0 (out ++ groupsL q n l f left = F))
  case atStart => exact ⟨N, N - 1, [], by go_num, by omega, by omega, by omega, by simpa using hp8, hstart, ⟨by rw [← HF.out, groupsF, HN.out]; rfl⟩⟩
  case round =>
    clear hstart
    obtain ⟨f, left, out, rfl, hlN, hfg, hlf, hof, HW, HE⟩ := hrel
    obtain ⟨n0, n1, _, _⟩ := cells2 HW.out.net
    by_cases h0 : 0 < left
    · have hz : (0 : Int) < (left : Int) := by omega
      obtain ⟨f, rfl⟩ : ∃ f', f = f' + 1 := ⟨f - 1, by omega⟩
      have hlow := low_ask (x := left) (by omega)
      have hlb : Aside0 (lowB left < 2 ^ n) := ⟨lowB_lt (by rw [HN.out]; exact hlN)⟩
      obtain ⟨x0, hx0⟩ : ∃ x0, lowB left = x0 := ⟨_, rfl⟩
      rw [hx0] at hlow hlb
      have HX0 := Aside0.mk hx0
      clear hx0
      go_wp2
      obtain ⟨wo, rfl⟩ : ∃ wo : World, wo = wr := ⟨_, rfl⟩
      clear n0 n1 hlow
      go_loopg [7, 9, 10, 23] n (fun g2 v7 _ _ v23 wr => ∃ r : Nat, r ≤ n ∧ n - r ≤ g2 ∧ v23 = .int .i64 r ∧ v7 = .int .i64 (spread q l x0 r) ∧ Aside0 (Held w n A c l u5 out wr))
      case atStart => exact ⟨0, Nat.zero_le _, by omega, rfl, rfl, HW⟩
      case round =>
        clear HW
        obtain ⟨r, hrn, hg2, rfl, rfl, HW⟩ := hrel
        obtain ⟨n0, n1, _, _⟩ := cells2 HW.out.net
        by_cases hrlt : r < n
        · have hrz : (r : Int) < (n : Int) := by omega
          go_wp2
          obtain ⟨wo2, rfl⟩ : ∃ wo : World, wo = wr := ⟨_, rfl⟩
          clear n0 n1
          obtain ⟨y, hy⟩ : ∃ y, spread q l x0 r = y := ⟨_, rfl⟩
          have HYY := Aside0.mk hy
          have hyl : Aside0 (y < 2 ^ n) := ⟨by rw [← hy]; exact spread_lt HO.out hlb.out r⟩
          rw [hy]
          clear hy
          go_loopg [7, 9, 10, 28] l.length (fun g3 v7 _ _ v28 wr => ∃ k : Nat, k ≤ l.length ∧ l.length - k ≤ g3 ∧ v28 = .int .i64 k ∧ v7 = .int .i64 (addK q l y k) ∧ Aside0 (Held w n A c l u5 out wr))
          case atStart => exact ⟨0, Nat.zero_le _, by omega, rfl, rfl, HW⟩
          case round =>
            clear HW
            obtain ⟨k, hkl, hg3, rfl, rfl, HW⟩ := hrel
            by_cases hklt : k < l.length
            · have hkz : (k : Int) < (l.length : Int) := by omega
              obtain ⟨ad, rfl, hx0, hx1, hx2⟩ := at_T39 (Kd.C_below HR.out HW.out.below) (k : Int) (by omega) (by omega)
              rw [Int.toNat_natCast] at hx0 hx1 hx2
              have hrd : rd_T39 l (k : Int) = l.getD k z39 := by simp [rd_T39]
              rw [hrd] at hx0 hx1 hx2
              have hts := HO.out _ (getD_mem z39 hklt)
              have hsuc : addK q l y (k + 1) = addT q (l.getD k z39) (addK q l y k) := rfl
              have hxl := addK_lt (q := q) HO.out hyl.out k (by omega)
              generalize hy : l.getD k z39 = t at hx0 hx1 hx2 hts hsuc
              obtain ⟨a, b, f⟩ := t
              dsimp only at hx0 hx1 hx2 hts
              obtain ⟨h1, h2, h3, h4⟩ := hts
              obtain ⟨a, rfl⟩ := Int.eq_ofNat_of_zero_le h1
              obtain ⟨b, rfl⟩ := Int.eq_ofNat_of_zero_le h3
              have hPl : pairB ⟨a, b, f⟩ < 2 ^ n := pairB_lt ⟨h1, h2, h3, h4⟩
              obtain ⟨P, hP⟩ : ∃ P, pairB ⟨a, b, f⟩ = P := ⟨_, rfl⟩
              have hP2 : 2 ^ a ||| 2 ^ b = P := hP
              rw [hP] at hPl
              have HSU : Aside0 (addK q l y (k + 1) = if q ⟨a, b, f⟩ = true ∧ addK q l y k &&& P ≠ 0 then addK q l y k ||| P else addK q l y k) := ⟨by rw [hsuc, addT, hP]⟩
              obtain ⟨x, hx⟩ : ∃ x, addK q l y k = x := ⟨_, rfl⟩
              rw [hx] at hxl HSU ⊢
              have hor0 : bits .or .i64 (2 ^ a) (2 ^ b) = (P : Int) := by rw [pow_cast, pow_cast, or64 (2 ^ a) (2 ^ b) (two_lt (by omega)) (two_lt (by omega)), hP2]
              have hpa : IntKind.i64.wrap ((2 : Int) ^ a) = 2 ^ a := by rw [pow_cast]; exact wrap64_nat _ (Int.natCast_nonneg _) (by exact_mod_cast two_lt (show a < 62 by omega))
              have hpb : IntKind.i64.wrap ((2 : Int) ^ b) = 2 ^ b := by rw [pow_cast]; exact wrap64_nat _ (Int.natCast_nonneg _) (by exact_mod_cast two_lt (show b < 62 by omega))
              have hand : bits .and .i64 (x : Int) (P : Int) = ((x &&& P : Nat) : Int) := and64 x P (lt62 hxl (by omega)) (lt62 hPl (by omega))
              have horx : bits .or .i64 (x : Int) (P : Int) = ((x ||| P : Nat) : Int) := or64 x P (lt62 hxl (by omega)) (lt62 hPl (by omega))
              have HORX := Aside0.mk horx
              have HAND := Aside0.mk hand
              clear hrd hsuc hy hP hP2 hx hxl hPl horx hand h1 h3
              cases hqq : q ⟨a, b, f⟩ with
              | false =>
                have HQ := Aside0.mk hqq
                have HX : Aside0 (x = addK q l y (k + 1)) := ⟨by rw [HSU.out, if_neg (fun h => by rw [hqq] at h; cases h.1)]⟩
                clear hqq
                go_wp2
                go_quiet (fail)
                clear hor0 hpa hpb
                have HW2 := Aside0.mk (held_next HW.out (pw_below_drewN (below_alloc (Below.refl wr.heap.size wr) (.cells #[.int .i64 (a : Int), .int .i64 (b : Int), .bool f] 39)) nq))
                go_wp2_with (go_at_fn gq; go_must (refine (HS.out.call ⟨a, b, f⟩ _).mono ?_; rw [HQ.out]; rintro e w3 ⟨rfl, hb3⟩; have HW3 := Aside0.mk (held_next HW2.out hb3); clear hb3))
                go_roundg (l.length - (k + 1))
                case measure => omega
                case rel => exact ⟨k + 1, by omega, by omega, by go_num, by rw [← HX.out], HW3⟩
              | true =>
                have HQ := Aside0.mk hqq
                by_cases hz : x &&& P = 0
                · have hzz : (bits .and .i64 (x : Int) (P : Int) != 0) = false := by rw [HAND.out, hz]; rfl
                  have HX : Aside0 (x = addK q l y (k + 1)) := ⟨by rw [HSU.out, if_neg (fun h => h.2 hz)]⟩
                  clear hqq hz
                  go_wp2
                  go_quiet (fail)
                  clear hor0 hpa hpb
                  have HW2 := Aside0.mk (held_next HW.out (pw_below_drewN (below_alloc (Below.refl wr.heap.size wr) (.cells #[.int .i64 (a : Int), .int .i64 (b : Int), .bool f] 39)) nq))
                  go_wp2_with (go_at_fn gq; go_must (refine (HS.out.call ⟨a, b, f⟩ _).mono ?_; rw [HQ.out]; rintro e w3 ⟨rfl, hb3⟩; have HW3 := Aside0.mk (held_next HW2.out hb3); clear hb3))
                  go_roundg (l.length - (k + 1))
                  case measure => omega
                  case rel => exact ⟨k + 1, by omega, by omega, by go_num, by rw [← HX.out], HW3⟩
                · have hzz : (bits .and .i64 (x : Int) (P : Int) != 0) = true := by rw [HAND.out, bne_iff_ne]; omega
                  have HX : Aside0 (addK q l y (k + 1) = x ||| P) := ⟨by rw [HSU.out, if_pos ⟨hqq, hz⟩]⟩
                  have horx := HORX.out
                  clear hqq hz
                  go_wp2
                  go_quiet (fail)
                  clear hor0 hpa hpb
                  have HW2 := Aside0.mk (held_next HW.out (pw_below_drewN (below_alloc (Below.refl wr.heap.size wr) (.cells #[.int .i64 (a : Int), .int .i64 (b : Int), .bool f] 39)) nq))
                  go_wp2_with (go_at_fn gq; go_must (refine (HS.out.call ⟨a, b, f⟩ _).mono ?_; rw [HQ.out]; rintro e w3 ⟨rfl, hb3⟩; have HW3 := Aside0.mk (held_next HW2.out hb3); clear hb3))
                  go_roundg (l.length - (k + 1))
                  case measure => omega
                  case rel => exact ⟨k + 1, by omega, by omega, by go_num, by rw [HX.out], HW3⟩
            · have hkz : ¬ (k : Int) < (l.length : Int) := by omega
              have hke : k = l.length := by omega
              have HK : Aside0 (addK q l y k = spread q l x0 (r + 1)) := ⟨by rw [hke, ← HYY.out]; rfl⟩
              rw [HK.out]
              clear hke
              go_wp2
              go_roundg (n - (r + 1))
              case measure => omega
              case rel => exact ⟨r + 1, by omega, by omega, by go_num, rfl, HW⟩
        · have hrz : ¬ (r : Int) < (n : Int) := by omega
          have hre : r = n := by omega
          obtain ⟨A1, c1, hv1, hc1, _⟩ := Kd.R_reads HW.out.row
          subst hv1
          clear hc1
          obtain ⟨x, hx⟩ : ∃ x, spread q l x0 r = x := ⟨_, rfl⟩
          have hxl : x < 2 ^ n := by rw [← hx]; exact spread_lt HO.out hlb.out r
          have hsub : less left x < left := by
            obtain ⟨i, hi1, hi2⟩ := low_bit (x := left) (by omega) (by omega)
            rw [HX0.out] at hi2
            exact less_dec hi1 (by rw [← hx]; exact spread_sup hi2 r)
          have hnot : bits .andNot .i64 (left : Int) (x : Int) = ((less left x : Nat) : Int) := andNot64 left x (by omega) (lt62 hxl (by omega))
          have HG : Aside0 (groupsL q n l (f + 1) left = (x : Int) :: groupsL q n l f (less left x)) := ⟨by rw [groupsL, if_neg (by omega), HX0.out]; rw [hre] at hx; rw [hx]⟩
          rw [hx]
          have hre' : (r : Int) = n := by omega
          clear hx hre hxl
          go_wp2_with (at_builtin; go_must (refine Kd.R_append (Kd.int .i64) (w0 := wr) (w.heap.size + 1) rfl (.tmp 53) (.tmp 55) 28 3 (.int .i64 0) 8 rfl Try.underlying28 info3 rfl (by decide) (by omega) (.slice A1 out.length c1) out (x : Int) [.int .i64 (x : Int)] (fun _ => True) (fun _ => False) rfl rfl rfl (fun _ hk => hk.elim) (fun _ _ => trivial) HW.out.row (Below.refl _ _) (by have := blk_lt HW.out.net; omega) (by omega) ?_; intro v4 w4 ho hbb hg4 hat; have HW4 : Aside0 (Held w n A c l v4 (out ++ [(x : Int)]) w4) := ⟨⟨(hg4.block _ (blk_lt HW.out.net) (fun e => by have := Kd.R_base HW.out.row _ e.symm; omega)).trans HW.out.net, HW.out.below.grown hg4 HW.out.below.size (fun k hk => by have := Kd.R_base HW.out.row k hk; omega), ho⟩⟩; clear ho hbb hg4 hat))
          go_roundg f
          case measure => omega
          case rel => exact ⟨f, less left x, out ++ [(x : Int)], rfl, by omega, Nat.le_refl _, by omega, by rw [List.length_append, List.length_singleton]; omega, HW4, ⟨by rw [← HE.out, HG.out, List.append_assoc]; rfl⟩⟩
    · have hz : ¬ (0 : Int) < (left : Int) := by omega
      have hl0 : left = 0 := by omega
      have HFF : Aside0 (out = F) := ⟨by rw [← HE.out, hl0]; cases f <;> simp [groupsL]⟩
      have hlen : out.length ≤ 1000 := by omega
      clear hl0
      go_wp2_with (go_at_call 78; go_must (refine (sort_any HW.out.row hlen).mono ?_; rintro e w2 ⟨rfl, hr2, hg2⟩; have HR2 := Aside0.mk hr2; have HB2 := Aside0.mk (HW.out.below.grown hg2 HW.out.below.size (fun k hk => by have := Kd.R_base HW.out.row k hk; omega)); clear hr2 hg2))
      go_ret
      exact ⟨_, rfl, by rw [← HFF.out]; exact Kd.R_lower HR2.out (by omega), HB2.out⟩
end Go.Proofs.Ytaegldcifhgnmaa.A

/- Classes and Clans: what they return. -/
namespace Go.Proofs.Ytaegldcifhgnmaa.A
open Go.RowKit Go.Proofs.YtaegldcifhgnmaaW.PrintWords Go.Proofs.YtaegldcifhgnmaaW.PrintMore

def friendB (t : S39) : Bool := !t.f2
def anyT (_ : S39) : Bool := true
theorem enters53 : ∀ args w, (callFunc 53 args).run Try.prog w = .ok (.enter 53 args) w := enters_of Try.func53 (by kernel_rfl) rfl
theorem enters60 : ∀ args w, (callFunc 60 args).run Try.prog w = .ok (.enter 60 args) w := enters_of Try.func60 (by kernel_rfl) rfl
theorem enters55 : ∀ args w, (callFunc 55 args).run Try.prog w = .ok (.enter 55 args) w := enters_of Try.func55 (by kernel_rfl) rfl
set_option maxRecDepth 100000 in
set_option maxHeartbeats 400000 in
theorem friend_calls (t : S39) (W : World) : Calls Try.prog 53 #[.agg #[.int .i64 t.f0, .int .i64 t.f1, .bool t.f2]] W fun e w' => e = .returned (.bool (friendB t)) ∧ Below W.heap.size W w' := by
  have HB := Aside0.mk (below_alloc (Below.refl W.heap.size W) (.cells #[.int .i64 t.f0, .int .i64 t.f1, .bool t.f2] 39))
  unfold friendB
  go_enter Try.func53, Try.ntmps53
  go_wp2
  go_ret
  exact ⟨rfl, HB.out⟩
theorem says_friend : SaysT 53 friendB := ⟨enters53, friend_calls⟩
set_option maxRecDepth 100000 in
set_option maxHeartbeats 400000 in
theorem any_calls (t : S39) (W : World) : Calls Try.prog 60 #[.agg #[.int .i64 t.f0, .int .i64 t.f1, .bool t.f2]] W fun e w' => e = .returned (.bool (anyT t)) ∧ Below W.heap.size W w' := by
  have HB := Aside0.mk (below_alloc (Below.refl W.heap.size W) (.cells #[.int .i64 t.f0, .int .i64 t.f1, .bool t.f2] 39))
  unfold anyT
  go_enter Try.func60, Try.ntmps60
  go_wp2
  go_ret
  exact ⟨rfl, HB.out⟩
theorem says_any : SaysT 60 anyT := ⟨enters60, any_calls⟩

theorem tiesE_ok {m : Nat} {l : List S39} (h : tiesE m l = 0) : okN m l := by
  obtain ⟨hn, hl, ho⟩ := tiesE_parts h
  intro t ht
  obtain ⟨i, hi, rfl⟩ := List.mem_iff_getElem.1 ht
  have := okT_parts (okTies_parts ho hi).1
  rw [List.getD_eq_getElem?_getD, List.getElem?_eq_getElem hi] at this
  simp only [Option.getD_some] at this
  omega

/-! ### Classes -/
def classK (n : Nat) (l : List S39) : Int := (l.length : Int) - n + (groupsF anyT n l).length
def feuds_Classes.f (a0 : Int) (l1 : List S39) : Option (Int × Int) :=
  if tiesE a0 l1 = 0 then (if 0 ≤ classK a0.toNat l1 ∧ classK a0.toNat l1 ≤ 60 then some (((2 ^ (classK a0.toNat l1).toNat : Nat) : Int), 0) else none) else some (0, tiesE a0 l1)

set_option maxRecDepth 100000 in
set_option maxHeartbeats 800000 in
theorem Classes_err (n : Int) (A : Option Addr) (c : Nat) (l : List S39) (w : World) (hr : Kd.C k39 w A l.length l) (E : Int) (h : tiesE n l = E) (h0 : E ≠ 0) :
    Calls Try.prog 32 #[.int .i64 n, .slice A l.length c] w fun e w' => e = .returned (.tuple #[.int .i64 0, .int .i64 E]) ∧ Below w.heap.size w w' := by
  have HR := Aside0.mk hr
  have HE := Aside0.mk h
  have hg := errne h0
  have H0 := Aside0.mk h0
  clear hr h h0
  go_enter Try.func32, Try.ntmps32
  go_wp2_with (go_at_call 46; refine (read_err HR.out HE.out H0.out).mono ?_; rintro e w' ⟨rfl, hb'⟩; have HB := Aside0.mk hb'; clear hb')
  go_ret2
  exact ⟨rfl, below_alloc HB.out _⟩

set_option maxRecDepth 100000 in
set_option maxHeartbeats 800000 in
theorem Classes_good (m : Nat) (A : Option Addr) (c : Nat) (l : List S39) (w : World) (hr : Kd.C k39 w A l.length l) (h : tiesE m l = 0) (k : Nat) (hk : classK m l = k) (hk60 : k ≤ 60) :
    Calls Try.prog 32 #[.int .i64 m, .slice A l.length c] w fun e w' => e = .returned (.tuple #[.int .i64 ((2 ^ k : Nat) : Int), .int .i64 0]) ∧ Below w.heap.size w w' := by
  have hm : m ≤ 8 := by have := (tiesE_parts h).1; omega
  have hl20 : l.length ≤ 20 := (tiesE_parts h).2.1
  have HR := Aside0.mk hr
  have HS := Aside0.mk (tiesE_ok h)
  have HE := Aside0.mk h
  obtain ⟨G, hG⟩ : ∃ G, (sortI (groupsF anyT m l)).length = G := ⟨_, rfl⟩
  have hkk : (l.length : Int) - m + G = k := by rw [← hG, sortI_len]; exact hk
  have HG := Aside0.mk hG
  have hp : wrap64 (2 ^ k) = ((2 ^ k : Nat) : Int) := by rw [wrap64_two (by omega), pow_cast]
  obtain ⟨P, hP⟩ : ∃ P, 2 ^ k = P := ⟨_, rfl⟩
  rw [hP] at hp ⊢
  clear hr h hk hG hP
  go_enter Try.func32, Try.ntmps32
  go_wp2_with (first
    | (go_at_call 46; refine (read_good HR.out HE.out).mono ?_; rintro e w1 ⟨rfl, hb1⟩; have HB1 := Aside0.mk (below_alloc hb1 (.cells #[.int .i64 (m : Int), .slice A l.length c] 59)); clear hb1)
    | (go_at_call 52; go_must (refine (groups_calls 60 anyT says_any m hm A c l HS.out (by omega) _ (Kd.C_below HR.out HB1.out)).mono ?_; rintro e w2 ⟨v2, rfl, hr2, hb2⟩; have HB2 := Aside0.mk (below_then HB1.out HB1.out.size hb2); obtain ⟨A2, c2, hv2, hc2, _⟩ := Kd.R_reads hr2; rw [HG.out] at hv2; subst hv2; clear hr2 hb2 hc2)))
  go_ret2
  rw [hp]
  exact ⟨rfl, HB2.out⟩
theorem feuds_Classes.calls (a0 : Int) (A1 : Option Addr) (c1 : Nat) (l1 : List S39) (r1 : Int) (r2 : Int) (w : World) (hr1 : Kd.C k39 w A1 l1.length l1) (_hc1 : l1.length ≤ c1) (h : feuds_Classes.f a0 l1 = some (r1, r2)) :
    Calls Try.prog 32 #[.int .i64 a0, .slice A1 l1.length c1] w fun e w' => e = .returned (.tuple #[.int .i64 r1, .int .i64 r2]) ∧ Below w.heap.size w w' := by
  unfold feuds_Classes.f at h
  by_cases h0 : tiesE a0 l1 = 0
  · rw [if_pos h0] at h
    have h1 := tiesE_parts h0
    obtain ⟨m, rfl⟩ : ∃ m : Nat, a0 = m := ⟨a0.toNat, by omega⟩
    rw [Int.toNat_natCast] at h
    by_cases hk : 0 ≤ classK m l1 ∧ classK m l1 ≤ 60
    · rw [if_pos hk] at h
      cases h
      exact Classes_good m A1 c1 l1 w hr1 h0 (classK m l1).toNat (by omega) (by omega)
    · rw [if_neg hk] at h; cases h
  · rw [if_neg h0] at h
    cases h
    exact Classes_err a0 A1 c1 l1 w hr1 _ rfl h0

/-! ### Clans -/
def bothB (t : S39) (x : Int) : Bool := x.toNat.testBit t.f0.toNat && x.toNat.testBit t.f1.toNat
def clashB (l : List S39) (G : List Int) (k : Nat) : Bool := (List.range k).any fun i => (l.getD i z39).f2 && G.any (bothB (l.getD i z39))
def clansF (n : Int) (l : List S39) : List Int × Int :=
  if tiesE n l = 0 then (if clashB l (sortI (groupsF friendB n.toNat l)) l.length = true then ([], 10) else (sortI (groupsF friendB n.toNat l), 0)) else ([], tiesE n l)
theorem clashB_succ (l : List S39) (G : List Int) (k : Nat) : clashB l G (k + 1) = (clashB l G k || ((l.getD k z39).f2 && G.any (bothB (l.getD k z39)))) := by
  unfold clashB
  rw [List.range_succ, List.any_append, List.any_cons, List.any_nil, Bool.or_false]

set_option maxRecDepth 100000 in
set_option maxHeartbeats 800000 in
theorem both_pred (a b : Nat) (f : Bool) (ha : a < 60) (hb : b < 60) (G : List Int) (hG : ∀ x ∈ G, 0 ≤ x ∧ x < 4611686018427387904) (g : Nat) (w : World) (hc : w.heap[g]? = some (.cells #[.int .i64 a, .int .i64 b, .bool f] 39 (0, 0))) :
    PredB 55 #[.pointer (some ⟨g, 0, none⟩)] (fun x => .int .i64 x) (bothB ⟨a, b, f⟩) G w := by
  intro W x hx hbl
  obtain ⟨h0, h1⟩ := hG x hx
  obtain ⟨y, rfl⟩ := Int.eq_ofNat_of_zero_le h0
  obtain ⟨c0, c1, _, _, _, _⟩ := cells3 ((hbl.block _ (blk_lt hc)).trans hc)
  have HB := Aside0.mk hbl
  have ea := bit_ask (y := y) (k := a) (by omega) (by omega)
  have eb := bit_ask (y := y) (k := b) (by omega) (by omega)
  have hv : bothB ⟨a, b, f⟩ (y : Int) = (y.testBit a && y.testBit b) := by unfold bothB; dsimp only; rw [Int.toNat_natCast, Int.toNat_natCast, Int.toNat_natCast]
  rw [hv]
  show Calls Try.prog 55 #[.int .i64 y, .pointer (some ⟨g, 0, none⟩)] W fun e w' => e = .returned (.bool (y.testBit a && y.testBit b)) ∧ Below w.heap.size w w'
  clear hbl hc hx hG hv
  cases h1 : y.testBit a with
  | false =>
    rw [h1] at ea
    go_enter Try.func55, Try.ntmps55
    go_wp2
    go_ret
    exact ⟨rfl, HB.out⟩
  | true =>
    rw [h1] at ea
    go_enter Try.func55, Try.ntmps55
    go_wp2
    go_ret
    exact ⟨rfl, HB.out⟩
end Go.Proofs.Ytaegldcifhgnmaa.A

/- Clans: its walk. -/
namespace Go.Proofs.Ytaegldcifhgnmaa.A
open Go.RowKit Go.Proofs.YtaegldcifhgnmaaW.PrintWords Go.Proofs.YtaegldcifhgnmaaW.PrintMore

theorem groupsL_mem {q : S39 → Bool} {n : Nat} {l : List S39} (hl : okN n l) : ∀ (f left : Nat), left < 2 ^ n → ∀ x ∈ groupsL q n l f left, ∃ y : Nat, x = y ∧ y < 2 ^ n
  | 0, _, _, x, hx => by cases hx
  | f + 1, left, h, x, hx => by
    rw [groupsL] at hx
    by_cases h0 : left = 0
    · rw [if_pos h0] at hx; cases hx
    · rw [if_neg h0] at hx
      rcases List.mem_cons.1 hx with rfl | hx
      · exact ⟨_, rfl, spread_lt hl (lowB_lt h) n⟩
      · exact groupsL_mem hl f _ (less_lt h) x hx
theorem groupsF_mem {q : S39 → Bool} {n : Nat} {l : List S39} (hl : okN n l) {x : Int} (hx : x ∈ groupsF q n l) : ∃ y : Nat, x = y ∧ y < 2 ^ n :=
  groupsL_mem hl _ _ (by have := Nat.two_pow_pos n; omega) x hx
theorem sortI_mem {l : List Int} {x : Int} : x ∈ sortI l ↔ x ∈ l := List.mem_mergeSort

set_option maxRecDepth 100000 in
set_option maxHeartbeats 800000 in
theorem Clans_err (n : Int) (A : Option Addr) (c : Nat) (l : List S39) (w : World) (hr : Kd.C k39 w A l.length l) (E : Int) (h : tiesE n l = E) (h0 : E ≠ 0) :
    Calls Try.prog 26 #[.int .i64 n, .slice A l.length c] w (FoundPost ([], E) w) := by
  have HR := Aside0.mk hr
  have HE := Aside0.mk h
  have hg := errne h0
  have H0 := Aside0.mk h0
  clear hr h h0
  go_enter Try.func26, Try.ntmps26
  go_wp2_with (go_at_call 46; refine (read_err HR.out HE.out H0.out).mono ?_; rintro e w' ⟨rfl, hb'⟩; have HB := Aside0.mk hb'; clear hb')
  go_ret2
  exact ⟨_, rfl, Kd.R_nil _ _ _ _ _, below_alloc HB.out _⟩

set_option maxRecDepth 100000 in
set_option maxHeartbeats 1600000 in
theorem Clans_good (m : Nat) (A : Option Addr) (c : Nat) (l : List S39) (w : World) (hr : Kd.C k39 w A l.length l) (h : tiesE m l = 0) (G : List Int) (hG : sortI (groupsF friendB m l) = G) (Z : List Int × Int) (hZ : (if clashB l G l.length = true then ([], 10) else (G, 0)) = Z) :
    Calls Try.prog 26 #[.int .i64 m, .slice A l.length c] w (FoundPost Z w) := by
  have HZ := Aside0.mk hZ
  clear hZ
  have hm : m ≤ 8 := by have := (tiesE_parts h).1; omega
  have hl20 : l.length ≤ 20 := (tiesE_parts h).2.1
  have HR := Aside0.mk hr
  have HS := Aside0.mk (tiesE_ok h)
  have HSM := Aside0.mk (tiesE_small h)
  have HE := Aside0.mk h
  have HG := Aside0.mk hG
  have HM : Aside0 (∀ x ∈ G, 0 ≤ x ∧ x < 4611686018427387904) := ⟨fun x hx => by
    rw [← hG, sortI_mem] at hx
    obtain ⟨y, rfl, hy⟩ := groupsF_mem (tiesE_ok h) hx
    have := pow8 hm
    omega⟩
  clear hr h hG
  go_enter Try.func26, Try.ntmps26
  go_wp2_with (first
    | (go_at_call 46; refine (read_good HR.out HE.out).mono ?_; rintro e w1 ⟨rfl, hb1⟩; have HB1 := Aside0.mk (below_alloc hb1 (.cells #[.int .i64 (m : Int), .slice A l.length c] 59)); clear hb1)
    | (go_at_call 52; go_must (refine (groups_calls 53 friendB says_friend m hm A c l HS.out (by omega) _ (Kd.C_below HR.out HB1.out)).mono ?_; rw [HG.out]; rintro e w2 ⟨v2, rfl, hr2, hb2⟩; obtain ⟨A2, c2, rfl, hc2, _⟩ := Kd.R_reads hr2; have HI0 : Aside0 (Below w.heap.size w w2 ∧ Kd.R (Kd.int .i64) 3 w2 w.heap.size (fun _ => True) (.slice A2 G.length c2) G) := ⟨below_then HB1.out HB1.out.size hb2, Kd.R_lower hr2 HB1.out.size⟩; clear hr2 hb2 hc2)))
  go_loopg [10, 24] l.length (fun gg _ v24 wr => ∃ i : Nat, i ≤ l.length ∧ l.length - i ≤ gg ∧ v24 = .int .i64 i ∧ Aside0 (Below w.heap.size w wr ∧ Kd.R (Kd.int .i64) 3 wr w.heap.size (fun _ => True) (.slice A2 G.length c2) G) ∧ Aside0 (clashB l G i = false))
  case atStart => exact ⟨0, Nat.zero_le _, by omega, rfl, HI0, ⟨rfl⟩⟩
  case round =>
    clear HI0
    obtain ⟨i, hi, hgg, rfl, HI, HC⟩ := hrel
    by_cases hlt : i < l.length
    · have hltz : (i : Int) < (l.length : Int) := by omega
      obtain ⟨ad, rfl, hx0, hx1, hx2⟩ := at_T39 (Kd.C_below HR.out HI.out.1) (i : Int) (by omega) (by omega)
      rw [Int.toNat_natCast] at hx0 hx1 hx2
      have hrd : rd_T39 l (i : Int) = l.getD i z39 := by simp [rd_T39]
      rw [hrd] at hx0 hx1 hx2
      have hts := HSM.out _ (getD_mem z39 hlt)
      have hsu := clashB_succ l G i
      generalize hy : l.getD i z39 = t at hx0 hx1 hx2 hts hsu
      obtain ⟨a, b, f⟩ := t
      dsimp only at hx0 hx1 hx2 hts
      obtain ⟨h1, h2, h3, h4⟩ := hts
      obtain ⟨a, rfl⟩ := Int.eq_ofNat_of_zero_le h1
      obtain ⟨b, rfl⟩ := Int.eq_ofNat_of_zero_le h3
      have HSU := Aside0.mk hsu
      have HY := Aside0.mk hy
      have hb8 : Aside0 (Below wr.heap.size wr (wr.alloc (.cells #[.int .i64 a, .int .i64 b, .bool f] 39))) := ⟨below_alloc (Below.refl _ _) _⟩
      have hc8 : Aside0 ((wr.alloc (.cells #[.int .i64 a, .int .i64 b, .bool f] 39)).heap[wr.heap.size]? = some (.cells #[.int .i64 a, .int .i64 b, .bool f] 39 (0, 0))) := ⟨heap_alloc_new _ _⟩
      clear hrd hy hsu h1 h3
      cases f with
      | false =>
        go_wp2
        go_roundg (l.length - (i + 1))
        case measure => omega
        case rel => exact ⟨i + 1, by omega, by omega, by go_num, ⟨below_then HI.out.1 HI.out.1.size hb8.out, Kd.R_below HI.out.2 hb8.out⟩, ⟨by rw [HSU.out, HC.out]; rfl⟩⟩
      | true =>
        have hrr := Aside0.mk (Kd.R_reads' HI.out.2).2.2
        cases hq : G.any (bothB ⟨a, b, true⟩) with
        | false =>
          have HQ := Aside0.mk hq
          clear hq
          go_wp2_with (go_at_call 54; go_must (refine (ContainsFunc_int 55 #[.pointer (some ⟨wr.heap.size, 0, none⟩)] (bothB ⟨a, b, true⟩) enters55 A2 G.length c2 G _ (Kd.C_below hrr.out hb8.out) (both_pred a b true (by omega) (by omega) G HM.out wr.heap.size _ hc8.out)).mono ?_; rw [HQ.out]; rintro e w3 ⟨rfl, hb3⟩; have HB3 := Aside0.mk (below_then hb8.out hb8.out.size hb3); clear hb3))
          go_roundg (l.length - (i + 1))
          case measure => omega
          case rel => exact ⟨i + 1, by omega, by omega, by go_num, ⟨below_then HI.out.1 HI.out.1.size HB3.out, Kd.R_below HI.out.2 HB3.out⟩, ⟨by rw [HSU.out, HC.out, HQ.out]; rfl⟩⟩
        | true =>
          have HQ := Aside0.mk hq
          have HCL : Aside0 (clashB l G l.length = true) := ⟨by
            unfold clashB
            rw [List.any_eq_true]
            refine ⟨i, List.mem_range.2 hlt, ?_⟩
            rw [HY.out, hq]; rfl⟩
          clear hq
          go_wp2_with (go_at_call 54; go_must (refine (ContainsFunc_int 55 #[.pointer (some ⟨wr.heap.size, 0, none⟩)] (bothB ⟨a, b, true⟩) enters55 A2 G.length c2 G _ (Kd.C_below hrr.out hb8.out) (both_pred a b true (by omega) (by omega) G HM.out wr.heap.size _ hc8.out)).mono ?_; rw [HQ.out]; rintro e w3 ⟨rfl, hb3⟩; have HB3 := Aside0.mk (below_then hb8.out hb8.out.size hb3); clear hb3))
          go_ret2
          rw [← HZ.out, if_pos HCL.out]
          exact ⟨_, rfl, Kd.R_nil _ _ _ _ _, below_then HI.out.1 HI.out.1.size HB3.out⟩
    · have hltz : ¬ (i : Int) < (l.length : Int) := by omega
      have hie : i = l.length := by omega
      have HCL : Aside0 (¬ clashB l G l.length = true) := ⟨by rw [← hie, HC.out]; simp⟩
      clear hie
      go_wp2
      go_ret2
      rw [← HZ.out, if_neg HCL.out]
      exact ⟨_, rfl, HI.out.2, HI.out.1⟩

def feuds_Clans.f (a0 : Int) (l1 : List S39) : Option (List Int × Int) := some (clansF a0 l1)
theorem feuds_Clans.calls (a0 : Int) (A1 : Option Addr) (c1 : Nat) (l1 : List S39) (r1 : List Int) (r2 : Int) (w : World) (hr1 : Kd.C k39 w A1 l1.length l1) (_hc1 : l1.length ≤ c1) (h : feuds_Clans.f a0 l1 = some (r1, r2)) :
    Calls Try.prog 26 #[.int .i64 a0, .slice A1 l1.length c1] w fun e w' => ∃ v0_ : Value, e = .returned (.tuple #[v0_, .int .i64 r2]) ∧ Kd.R (Kd.int .i64) 3 w' w.heap.size (fun _ => True) v0_ r1 ∧ Below w.heap.size w w' := by
  have h := Option.some.inj h
  have : Calls Try.prog 26 #[.int .i64 a0, .slice A1 l1.length c1] w (FoundPost (clansF a0 l1) w) := by
    unfold clansF
    by_cases h0 : tiesE a0 l1 = 0
    · have h1 := tiesE_parts h0
      obtain ⟨m, rfl⟩ : ∃ m : Nat, a0 = m := ⟨a0.toNat, by omega⟩
      rw [if_pos h0, Int.toNat_natCast]
      exact Clans_good m A1 c1 l1 w hr1 h0 _ rfl _ rfl
    · rw [if_neg h0]
      exact Clans_err a0 A1 c1 l1 w hr1 _ rfl h0
  rw [h] at this
  exact this
end Go.Proofs.Ytaegldcifhgnmaa.A

/- What the program returns for three drovers, all at feud. -/
namespace Go.Proofs.Ytaegldcifhgnmaa.A
open Go.RowKit Go.Proofs.YtaegldcifhgnmaaW.PrintWords Go.Proofs.YtaegldcifhgnmaaW.PrintMore

def threeL : List S39 := [⟨0, 1, true⟩, ⟨0, 2, true⟩, ⟨1, 2, true⟩]
def twoL : List S39 := [⟨0, 1, false⟩, ⟨0, 2, true⟩]
theorem three_Sides : feuds_Sides.f 3 threeL = some (0, 10) := by decide +kernel
theorem three_Ring : feuds_Ring.f 3 threeL = some ([0, 1, 2], 0) := by decide +kernel
theorem three_Least : feuds_Least.f 3 threeL = some (1, [2], 0) := by decide +kernel
theorem three_groups : groupsF friendB 3 threeL = [1, 2, 4] := by decide +kernel
theorem sort_124 : sortI [1, 2, 4] = [1, 2, 4] := by
  unfold sortI
  refine List.mergeSort_of_pairwise ?_
  simp
theorem three_Clans : feuds_Clans.f 3 threeL = some ([1, 2, 4], 0) := by
  have h0 : tiesE 3 threeL = 0 := by decide +kernel
  have h1 : clashB threeL [1, 2, 4] threeL.length = false := by decide +kernel
  unfold feuds_Clans.f clansF
  rw [if_pos h0, show (3 : Int).toNat = 3 from rfl, three_groups, sort_124, h1]
  rfl
theorem three_Classes : feuds_Classes.f 3 threeL = some (2, 0) := by decide +kernel
theorem two_Sides : feuds_Sides.f 3 twoL = some (3, 0) := by decide +kernel
end Go.Proofs.Ytaegldcifhgnmaa.A

/- alive: what every right program knows of three drovers. -/
namespace Go.Proofs.Ytaegldcifhgnmaa.B
open Go.Proofs.Ytaegldcifhgnmaa.A
open Go.RowKit Go.Proofs.YtaegldcifhgnmaaW.PrintWords Go.Proofs.YtaegldcifhgnmaaW.PrintMore

theorem same_calls {A : Option Addr} {c : Nat} {l : List Int} {A2 : Option Addr} {c2 : Nat} {l2 : List Int} {w : World} (hr : Kd.C (Kd.int .i64) w A l.length l) (hc : l.length ≤ c) (hr2 : Kd.C (Kd.int .i64) w A2 l2.length l2) (hc2 : l2.length ≤ c2) {r : Bool} (h : drovewaylaw09_same.f 10 l l2 = some r) :
    Calls Try.prog 22 #[.slice A l.length c, .slice A2 l2.length c2] w fun e w' => e = .returned (.bool r) ∧ Below w.heap.size w w' :=
  (drovewaylaw09_same.calls 10 A c l A2 c2 l2 r w hr hc hr2 hc2 h).mono fun _ _ ⟨a, b⟩ => ⟨a, b.below⟩

theorem three_calls (w : World) : Calls Try.prog 45 #[] w fun e w' => ∃ A c, e = .returned (.slice A 3 c) ∧ 3 ≤ c ∧ Kd.C k39 w' A 3 threeL ∧ Below w.heap.size w w' :=
  (drovewaylaw09_three.calls threeL w rfl).mono fun _ _ ⟨v, h1, h2, h3⟩ => by
    obtain ⟨A, c, rfl, hc, hC⟩ := Kd.R_reads h2
    exact ⟨A, c, h1, hc, hC, h3⟩

def drovewaylaw09_alive.f : Option Bool := some true
theorem two_reads (W : World) : Kd.C k39 (W.alloc (.cells #[.int .i64 0, .int .i64 1, .bool false, .int .i64 0, .int .i64 2, .bool true] 39)) (some ⟨W.heap.size, 0, none⟩) 2 twoL := by
  refine ⟨rfl, by decide, fun _ => ⟨_, rfl, fun j p hj => ?_⟩⟩
  have hb := heap_alloc_new W (.cells #[.int .i64 0, .int .i64 1, .bool false, .int .i64 0, .int .i64 2, .bool true] 39)
  refine ⟨_, rfl, k39_mk _ p, fun i u hu => ?_⟩
  rw [add_plain, blk_cell hb]
  match j, hj, i, hu with
  | 0, hj, 0, hu => cases hj; exact hu
  | 0, hj, 1, hu => cases hj; exact hu
  | 0, hj, 2, hu => cases hj; exact hu
  | 1, hj, 0, hu => cases hj; exact hu
  | 1, hj, 1, hu => cases hj; exact hu
  | 1, hj, 2, hu => cases hj; exact hu

theorem lit_reads (W : World) (l : List Int) (hl : l.length ≤ 1000) : Kd.C (Kd.int .i64) (W.alloc (.cells (l.map fun x => Value.int .i64 x).toArray 3)) (some ⟨W.heap.size, 0, none⟩) l.length l := by
  have hb := heap_alloc_new W (.cells (l.map fun x => Value.int .i64 x).toArray 3)
  refine ⟨rfl, by omega, fun _ => ⟨_, rfl, fun j p hj => ⟨[.int .i64 p], rfl, rfl, fun i u hu => ?_⟩⟩⟩
  rw [add_plain, blk_cell hb]
  match i, hu with
  | 0, hu =>
    cases hu
    show (l.map fun x => Value.int .i64 x).toArray[j * 1 + 0]? = _
    rw [Nat.mul_one, Nat.add_zero, List.getElem?_toArray, List.getElem?_map, hj]; rfl

set_option maxRecDepth 100000 in
set_option maxHeartbeats 3200000 in
theorem alive_calls (w : World) : Calls Try.prog 17 #[] w fun e w' => e = .returned (.bool true) ∧ Below w.heap.size w w' := by
  have HB := Aside0.mk (Below.refl w.heap.size w)
  go_enter Try.func17, Try.ntmps17
  go_wp2_with fail
  refine (three_calls _).mono ?_
  rintro e w1a ⟨A1, c1, rfl, hc1, hC1, hb⟩
  have HC1 := Aside0.mk hC1; have Hc1 := Aside0.mk hc1; have HB1 := Aside0.mk (below_then HB.out HB.out.size hb); clear hC1 hc1 hb
  go_wp2_with fail
  refine (feuds_Sides.calls 3 A1 c1 threeL 0 10 _ HC1.out Hc1.out three_Sides).mono ?_
  rintro e w1b ⟨rfl, hb⟩; have HB2 := Aside0.mk (below_then HB1.out HB1.out.size hb); clear hb HC1 Hc1
  go_wp2_with fail
  refine (three_calls _).mono ?_
  rintro e w2a ⟨A2, c2, rfl, hc2, hC2, hb⟩
  have HC2 := Aside0.mk hC2; have Hc2 := Aside0.mk hc2; have HB3 := Aside0.mk (below_then HB2.out HB2.out.size hb); clear hC2 hc2 hb
  go_wp2_with fail
  refine (feuds_Ring.calls 3 A2 c2 threeL [0, 1, 2] 0 _ HC2.out Hc2.out three_Ring).mono ?_
  rintro e w2b ⟨v, rfl, hr, hb⟩; obtain ⟨AR, cR, rfl, hcR, hRR⟩ := Kd.R_reads hr; have HcR := Aside0.mk hcR; have HRR := Aside0.mk hRR; have HB4 := Aside0.mk (below_then HB3.out HB3.out.size hb); clear hb HC2 Hc2 hr hcR hRR
  go_wp2_with fail
  refine (three_calls _).mono ?_
  rintro e w3a ⟨A3, c3, rfl, hc3, hC3, hb⟩
  have HC3 := Aside0.mk hC3; have Hc3 := Aside0.mk hc3; have HB5 := Aside0.mk (below_then HB4.out HB4.out.size hb); have HRR' := Aside0.mk (Kd.C_below HRR.out hb); clear HRR; have HRR := HRR'; clear HRR'; clear hC3 hc3 hb
  go_wp2_with fail
  refine (feuds_Least.calls 3 A3 c3 threeL 1 [2] 0 _ HC3.out Hc3.out three_Least).mono ?_
  rintro e w3b ⟨v, rfl, hr, hb⟩; obtain ⟨AL, cL, rfl, hcL, hLL⟩ := Kd.R_reads hr; have HcL := Aside0.mk hcL; have HLL := Aside0.mk hLL; have HB6 := Aside0.mk (below_then HB5.out HB5.out.size hb); have HRR' := Aside0.mk (Kd.C_below HRR.out hb); clear HRR; have HRR := HRR'; clear HRR'; clear hb HC3 Hc3 hr hcL hLL
  go_wp2_with fail
  refine (three_calls _).mono ?_
  rintro e w4a ⟨A4, c4, rfl, hc4, hC4, hb⟩
  have HC4 := Aside0.mk hC4; have Hc4 := Aside0.mk hc4; have HB7 := Aside0.mk (below_then HB6.out HB6.out.size hb); have HRR' := Aside0.mk (Kd.C_below HRR.out hb); clear HRR; have HRR := HRR'; clear HRR'; have HLL' := Aside0.mk (Kd.C_below HLL.out hb); clear HLL; have HLL := HLL'; clear HLL'; clear hC4 hc4 hb
  go_wp2_with fail
  refine (feuds_Clans.calls 3 A4 c4 threeL [1, 2, 4] 0 _ HC4.out Hc4.out three_Clans).mono ?_
  rintro e w4b ⟨v, rfl, hr, hb⟩; obtain ⟨AC, cC, rfl, hcC, hCC⟩ := Kd.R_reads hr; have HcC := Aside0.mk hcC; have HCC := Aside0.mk hCC; have HB8 := Aside0.mk (below_then HB7.out HB7.out.size hb); have HRR' := Aside0.mk (Kd.C_below HRR.out hb); clear HRR; have HRR := HRR'; clear HRR'; have HLL' := Aside0.mk (Kd.C_below HLL.out hb); clear HLL; have HLL := HLL'; clear HLL'; clear hb HC4 Hc4 hr hcC hCC
  go_wp2_with fail
  refine (three_calls _).mono ?_
  rintro e w5a ⟨A5, c5, rfl, hc5, hC5, hb⟩
  have HC5 := Aside0.mk hC5; have Hc5 := Aside0.mk hc5; have HB9 := Aside0.mk (below_then HB8.out HB8.out.size hb); have HRR' := Aside0.mk (Kd.C_below HRR.out hb); clear HRR; have HRR := HRR'; clear HRR'; have HLL' := Aside0.mk (Kd.C_below HLL.out hb); clear HLL; have HLL := HLL'; clear HLL'; have HCC' := Aside0.mk (Kd.C_below HCC.out hb); clear HCC; have HCC := HCC'; clear HCC'; clear hC5 hc5 hb
  go_wp2_with fail
  refine (feuds_Classes.calls 3 A5 c5 threeL 2 0 _ HC5.out Hc5.out three_Classes).mono ?_
  rintro e w5b ⟨rfl, hb⟩; have HB10 := Aside0.mk (below_then HB9.out HB9.out.size hb); have HRR' := Aside0.mk (Kd.C_below HRR.out hb); clear HRR; have HRR := HRR'; clear HRR'; have HLL' := Aside0.mk (Kd.C_below HLL.out hb); clear HLL; have HLL := HLL'; clear HLL'; have HCC' := Aside0.mk (Kd.C_below HCC.out hb); clear HCC; have HCC := HCC'; clear HCC'; clear hb HC5 Hc5
  go_wp2_with fail
  refine (feuds_Sides.calls 3 _ 2 twoL 3 0 _ (two_reads w5b) (Nat.le_refl 2) two_Sides).mono ?_
  rintro e w6b ⟨rfl, hb0⟩; have hb := below_then (below_alloc (Below.refl w5b.heap.size w5b) (.cells #[.int .i64 0, .int .i64 1, .bool false, .int .i64 0, .int .i64 2, .bool true] 39)) (below_alloc (Below.refl w5b.heap.size w5b) (.cells #[.int .i64 0, .int .i64 1, .bool false, .int .i64 0, .int .i64 2, .bool true] 39)).size hb0; have HB11 := Aside0.mk (below_then HB10.out HB10.out.size hb); have HRR' := Aside0.mk (Kd.C_below HRR.out hb); clear HRR; have HRR := HRR'; clear HRR'; have HLL' := Aside0.mk (Kd.C_below HLL.out hb); clear HLL; have HLL := HLL'; clear HLL'; have HCC' := Aside0.mk (Kd.C_below HCC.out hb); clear HCC; have HCC := HCC'; clear HCC'; clear hb hb0
  go_wp2_with fail
  have hlit := lit_reads w6b [0, 1, 2] (by decide)
  refine (same_calls (l := [0, 1, 2]) (l2 := [0, 1, 2]) (Kd.C_below HRR.out (below_alloc (Below.refl _ _) _)) HcR.out hlit (Nat.le_refl _) (r := true) (by kernel_rfl)).mono ?_
  rintro e w7b ⟨rfl, hb0⟩; have hb := below_then (below_alloc (Below.refl w6b.heap.size w6b) (.cells #[.int .i64 0, .int .i64 1, .int .i64 2] 3)) (below_alloc (Below.refl w6b.heap.size w6b) (.cells #[.int .i64 0, .int .i64 1, .int .i64 2] 3)).size hb0; have HB12 := Aside0.mk (below_then HB11.out HB11.out.size hb); have HRR' := Aside0.mk (Kd.C_below HRR.out hb); clear HRR; have HRR := HRR'; clear HRR'; have HLL' := Aside0.mk (Kd.C_below HLL.out hb); clear HLL; have HLL := HLL'; clear HLL'; have HCC' := Aside0.mk (Kd.C_below HCC.out hb); clear HCC; have HCC := HCC'; clear HCC'; clear hb hb0 hlit
  go_wp2_with fail
  have hlit := lit_reads w7b [2] (by decide)
  refine (same_calls (l := [2]) (l2 := [2]) (Kd.C_below HLL.out (below_alloc (Below.refl _ _) _)) HcL.out hlit (Nat.le_refl _) (r := true) (by kernel_rfl)).mono ?_
  rintro e w8b ⟨rfl, hb0⟩; have hb := below_then (below_alloc (Below.refl w7b.heap.size w7b) (.cells #[.int .i64 2] 3)) (below_alloc (Below.refl w7b.heap.size w7b) (.cells #[.int .i64 2] 3)).size hb0; have HB13 := Aside0.mk (below_then HB12.out HB12.out.size hb); have HLL' := Aside0.mk (Kd.C_below HLL.out hb); clear HLL; have HLL := HLL'; clear HLL'; have HCC' := Aside0.mk (Kd.C_below HCC.out hb); clear HCC; have HCC := HCC'; clear HCC'; clear hb hb0 hlit
  go_wp2_with fail
  have hlit := lit_reads w8b [1, 2, 4] (by decide)
  refine (same_calls (l := [1, 2, 4]) (l2 := [1, 2, 4]) (Kd.C_below HCC.out (below_alloc (Below.refl _ _) _)) HcC.out hlit (Nat.le_refl _) (r := true) (by kernel_rfl)).mono ?_
  rintro e w9b ⟨rfl, hb0⟩; have hb := below_then (below_alloc (Below.refl w8b.heap.size w8b) (.cells #[.int .i64 1, .int .i64 2, .int .i64 4] 3)) (below_alloc (Below.refl w8b.heap.size w8b) (.cells #[.int .i64 1, .int .i64 2, .int .i64 4] 3)).size hb0; have HB14 := Aside0.mk (below_then HB13.out HB13.out.size hb); have HLL' := Aside0.mk (Kd.C_below HLL.out hb); clear HLL; have HLL := HLL'; clear HLL'; have HCC' := Aside0.mk (Kd.C_below HCC.out hb); clear HCC; have HCC := HCC'; clear HCC'; clear hb hb0 hlit
  go_wp2_with fail
  go_ret
  exact ⟨rfl, HB14.out⟩
theorem drovewaylaw09_alive.calls (r : Bool) (w : World) (h : drovewaylaw09_alive.f = some r) : Calls Try.prog 17 #[] w fun e w' => e = .returned (.bool r) ∧ Below w.heap.size w w' := by
  cases h
  exact alive_calls w
end Go.Proofs.Ytaegldcifhgnmaa.B

/- What the law package's own small functions and the reference's Ties compute (plain). -/
namespace Go.Proofs.Ytaegldcifhgnmaa.B
open Go.Proofs.Ytaegldcifhgnmaa.A
open Go.RowKit Go.Proofs.YtaegldcifhgnmaaW.PrintWords Go.Proofs.YtaegldcifhgnmaaW.PrintMore

theorem few_eq (l : List S39) (r : List Int) : drovewaylaw09_few.f l r = some (decide (l.length ≤ 60 ∧ r.length ≤ 60)) := by
  unfold drovewaylaw09_few.f
  by_cases h1 : (l.length : Int) ≤ 60
  · rw [if_pos h1]
    congr 1
    rw [decide_eq_decide]
    omega
  · rw [if_neg h1]
    congr 1
    symm
    rw [decide_eq_false_iff_not]
    omega
theorem wrapS {i n : Nat} (h : i < n) (hn : n ≤ 140737488351232) : wrap64 ((i : Int) + 1) = ((i + 1 : Nat) : Int) := by rw [wrap64_id] <;> omega

/-! ### same -/
theorem same_l0 (l : List Int) (hl : l.length ≤ 140737488351232) : ∀ n i, l.length - i = n → i ≤ l.length → Ev (fun k => drovewaylaw09_same.l0 k l l (i : Int)) true := by
  intro n
  induction n with
  | zero =>
    intro i hn hi
    refine Ev.step (f := fun _ => some true) (fun k => ?_) (Ev.now _)
    rw [drovewaylaw09_same.l0, if_neg (by omega)]
  | succ n ih =>
    intro i hn hi
    refine Ev.step (fun k => ?_) (ih (i + 1) (by omega) (by omega))
    rw [drovewaylaw09_same.l0, if_pos (by omega), if_pos (by omega), if_pos (by omega), if_pos rfl, wrapS (show i < l.length by omega) hl]
theorem same_ev {l l' : List Int} (hl : l.length ≤ 140737488351232) (h : l = l') : Ev (fun k => drovewaylaw09_same.f k l l') true := by
  subst h
  refine Ev.congr (fun k => ?_) (same_l0 l hl _ 0 rfl (Nat.zero_le _))
  unfold drovewaylaw09_same.f
  rw [if_pos rfl]
  rfl

/-! ### Ties -/
theorem rdT (l : List S39) (i : Nat) : rd_T39 l (i : Int) = l.getD i z39 := by simp [rd_T39]

section
variable {n : Int} {l : List S39}
theorem ties_l1_ok (hl : l.length ≤ 1000) {i : Nat} (hi : i < l.length) {r : Int} (h : Ev (fun k => drovewayref09_Ties.l0 k n l ((i + 1 : Nat) : Int)) r) (hp : ∀ j, j < i → pairT (l.getD j z39) ≠ pairT (l.getD i z39)) : ∀ m j, i - j = m → j ≤ i → Ev (fun k => drovewayref09_Ties.l1 k n l (i : Int) (j : Int)) r := by
  intro m
  induction m with
  | zero =>
    intro j hm hj
    refine Ev.step (fun k => ?_) h
    rw [drovewayref09_Ties.l1, if_neg (by omega), wrapS hi (by omega)]
  | succ m ih =>
    intro j hm hj
    refine Ev.step (fun k => ?_) (ih (j + 1) (by omega) (by omega))
    have hne := hp j (by omega)
    rw [drovewayref09_Ties.l1, if_pos (by omega), if_pos (by omega), if_pos (by omega), if_pos (by omega), if_pos (by omega), rdT, rdT, wrapS (show j < l.length by omega) (by omega)]
    by_cases h0 : (l.getD j z39).f0 = (l.getD i z39).f0
    · rw [if_pos h0, if_neg (fun h1 => hne (by unfold pairT; rw [h0, h1]))]
    · rw [if_neg h0]
theorem ties_l1_bad (hl : l.length ≤ 1000) {i q : Nat} (hi : i < l.length) (hq : q < i) (he : pairT (l.getD q z39) = pairT (l.getD i z39)) : ∀ m j, q - j = m → j ≤ q → Ev (fun k => drovewayref09_Ties.l1 k n l (i : Int) (j : Int)) 2 := by
  intro m
  induction m with
  | zero =>
    intro j hm hj
    obtain rfl : j = q := by omega
    unfold pairT at he
    rw [Prod.mk.injEq] at he
    refine Ev.step (f := fun _ => some 2) (fun k => ?_) (Ev.now _)
    rw [drovewayref09_Ties.l1, if_pos (by omega), if_pos (by omega), if_pos (by omega), if_pos (by omega), if_pos (by omega), rdT, rdT, if_pos he.1, if_pos he.2]
  | succ m ih =>
    intro j hm hj
    have h2 := ih (j + 1) (by omega) (by omega)
    by_cases h : pairT (l.getD j z39) = pairT (l.getD i z39)
    · unfold pairT at h
      rw [Prod.mk.injEq] at h
      refine Ev.step (f := fun _ => some 2) (fun k => ?_) (Ev.now _)
      rw [drovewayref09_Ties.l1, if_pos (by omega), if_pos (by omega), if_pos (by omega), if_pos (by omega), if_pos (by omega), rdT, rdT, if_pos h.1, if_pos h.2]
    · refine Ev.step (fun k => ?_) h2
      rw [drovewayref09_Ties.l1, if_pos (by omega), if_pos (by omega), if_pos (by omega), if_pos (by omega), if_pos (by omega), rdT, rdT, wrapS (show j < l.length by omega) (by omega)]
      by_cases h0 : (l.getD j z39).f0 = (l.getD i z39).f0
      · rw [if_pos h0, if_neg (fun h1 => h (by unfold pairT; rw [h0, h1]))]
      · rw [if_neg h0]
theorem ties_l0_in {i : Nat} (hi : i < l.length) (k : Nat) : drovewayref09_Ties.l0 (k + 1) n l (i : Int) = drovewayref09_Ties.j2 k n l (i : Int) (!okT n (l.getD i z39)) := by
  rw [drovewayref09_Ties.l0, if_pos (by omega), if_pos (by omega), rdT]
  unfold okT
  by_cases h0 : (l.getD i z39).f0 < 0
  · rw [if_pos h0]
    congr 1
    rw [decide_eq_false (by omega)]; rfl
  · rw [if_neg h0]
    by_cases h1 : (l.getD i z39).f0 ≥ (l.getD i z39).f1
    · rw [if_pos h1]
      congr 1
      rw [decide_eq_false (p := (l.getD i z39).f0 < (l.getD i z39).f1) (by omega), Bool.and_false]; rfl
    · rw [if_neg h1]
      congr 1
      rw [decide_eq_true (p := 0 ≤ (l.getD i z39).f0) (by omega), decide_eq_true (p := (l.getD i z39).f0 < (l.getD i z39).f1) (by omega), Bool.true_and, Bool.true_and, ← decide_not, decide_eq_decide]
      omega
theorem ties_step (hl : l.length ≤ 1000) {i : Nat} (hi : i < l.length) (hok : okAt n l i = true) {r : Int} (h : Ev (fun k => drovewayref09_Ties.l0 k n l ((i + 1 : Nat) : Int)) r) : Ev (fun k => drovewayref09_Ties.l0 k n l (i : Int)) r := by
  refine Ev.step (f := fun k => drovewayref09_Ties.j2 k n l (i : Int) (!okT n (l.getD i z39))) (fun k => ties_l0_in hi k) ?_
  unfold okAt at hok
  rw [Bool.and_eq_true] at hok
  rw [hok.1]
  have hp : ∀ j, j < i → pairT (l.getD j z39) ≠ pairT (l.getD i z39) := by
    intro j hj e
    have h2 := hok.2
    rw [Bool.not_eq_true', List.contains_eq_mem, decide_eq_false_iff_not] at h2
    apply h2
    rw [← e]
    refine List.mem_map.2 ⟨l.getD j z39, ?_, rfl⟩
    rw [List.mem_iff_getElem]
    exact ⟨j, by rw [List.length_take]; omega, by rw [List.getElem_take, List.getD_eq_getElem?_getD, List.getElem?_eq_getElem (by omega)]; rfl⟩
  refine Ev.step (fun k => ?_) (ties_l1_ok hl hi h hp i 0 (by omega) (Nat.zero_le _))
  rw [drovewayref09_Ties.j2]
  rfl
theorem ties_stop (hl : l.length ≤ 1000) {i : Nat} (hi : i < l.length) (hok : okAt n l i = false) : Ev (fun k => drovewayref09_Ties.l0 k n l (i : Int)) 2 := by
  refine Ev.step (f := fun k => drovewayref09_Ties.j2 k n l (i : Int) (!okT n (l.getD i z39))) (fun k => ties_l0_in hi k) ?_
  unfold okAt at hok
  cases ho : okT n (l.getD i z39) with
  | false =>
    exact Ev.step (f := fun _ => some 2) (fun k => by rw [drovewayref09_Ties.j2]; rfl) (Ev.now _)
  | true =>
    rw [ho, Bool.true_and, Bool.not_eq_false', List.contains_eq_mem, decide_eq_true_iff] at hok
    obtain ⟨t, ht, e⟩ := List.mem_map.1 hok
    obtain ⟨q, hq, rfl⟩ := List.mem_iff_getElem.1 ht
    rw [List.length_take] at hq
    rw [List.getElem_take] at e
    have e2 : pairT (l.getD q z39) = pairT (l.getD i z39) := by rw [← e, List.getD_eq_getElem?_getD, List.getElem?_eq_getElem (by omega)]; rfl
    refine Ev.step (fun k => ?_) (ties_l1_bad (n := n) hl hi (show q < i by omega) e2 q 0 (by omega) (Nat.zero_le _))
    rw [drovewayref09_Ties.j2]
    rfl
theorem ties_l0 (hl : l.length ≤ 1000) : ∀ m i, l.length - i = m → i ≤ l.length → (∀ j, j < i → okAt n l j = true) → Ev (fun k => drovewayref09_Ties.l0 k n l (i : Int)) (if okTies n l = true then 0 else 2) := by
  intro m
  induction m with
  | zero =>
    intro i hm hi hall
    refine Ev.step (f := fun _ => some 0) (fun k => ?_) ?_
    · rw [drovewayref09_Ties.l0, if_neg (by omega)]
    · rw [if_pos (okTies_yes fun j hj => hall j (by omega))]
      exact Ev.now _
  | succ m ih =>
    intro i hm hi hall
    cases hok : okAt n l i with
    | true =>
      refine ties_step hl (by omega) hok (ih (i + 1) (by omega) (by omega) fun j hj => ?_)
      by_cases e : j = i
      · rw [e]; exact hok
      · exact hall j (by omega)
    | false =>
      have := okTies_no (show i < l.length by omega) hok
      rw [this]
      exact ties_stop hl (by omega) hok
theorem Ties_ev (hl : l.length ≤ 1000) : Ev (fun k => drovewayref09_Ties.f k n l) (tiesE n l) := by
  have h0 := ties_l0 (n := n) hl l.length 0 (by omega) (Nat.zero_le _) (fun j hj => absurd hj (Nat.not_lt_zero _))
  unfold tiesE
  by_cases h1 : n < 1 ∨ 8 < n
  · rw [if_pos h1]
    refine Ev.congr (g := fun k => drovewayref09_Ties.f k n l) (f := fun k => drovewayref09_Ties.j0 k n l true) (fun k => ?_) (Ev.step (f := fun _ => some 2) (fun k => by rw [drovewayref09_Ties.j0]; rfl) (Ev.now _))
    unfold drovewayref09_Ties.f
    by_cases h2 : n < 1
    · rw [if_pos h2]
    · rw [if_neg h2, decide_eq_true (by omega)]
  · rw [if_neg h1]
    refine Ev.congr (g := fun k => drovewayref09_Ties.f k n l) (f := fun k => drovewayref09_Ties.j0 k n l false) (fun k => ?_) ?_
    · unfold drovewayref09_Ties.f
      rw [if_neg (by omega), decide_eq_false (by omega)]
    · by_cases h2 : 20 < l.length
      · rw [if_pos h2]
        refine Ev.step (f := fun _ => some 3) (fun k => ?_) (Ev.now _)
        rw [drovewayref09_Ties.j0, if_neg (by decide), if_pos (by omega)]
      · rw [if_neg h2]
        refine Ev.step (fun k => ?_) h0
        rw [drovewayref09_Ties.j0, if_neg (by decide), if_neg (by omega)]
        rfl
end
end Go.Proofs.Ytaegldcifhgnmaa.B

/- Shifts of bits, plain. -/
namespace Go.Proofs.Ytaegldcifhgnmaa.B
open Go.Proofs.Ytaegldcifhgnmaa.A
open Go.RowKit Go.Proofs.YtaegldcifhgnmaaW.PrintWords Go.Proofs.YtaegldcifhgnmaaW.PrintMore

theorem shr_mod (y k : Nat) (hk : k ≤ 60) : Int.tmod (shr .i64 (y : Int) (k : Int)) 2 = if y.testBit k = true then 1 else 0 := by
  rw [shr_nat y k hk, Nat.testBit_eq_decide_div_mod_eq]
  have h : Int.tmod ((y / 2 ^ k : Nat) : Int) 2 = ((y / 2 ^ k % 2 : Nat) : Int) := by
    rw [Int.tmod_eq_emod_of_nonneg (Int.natCast_nonneg _)]; rfl
  rw [h]
  by_cases q : y / 2 ^ k % 2 = 1
  · rw [if_pos (by simpa using q), q]; rfl
  · rw [if_neg (by simpa using q)]
    have : y / 2 ^ k % 2 = 0 := by omega
    rw [this]; rfl
theorem shl_one {m : Nat} (h : m ≤ 60) : shl .i64 1 (m : Int) = ((2 ^ m : Nat) : Int) := by
  unfold shl
  have : min ((m : Int)).toNat IntKind.i64.bits = m := by
    have : IntKind.i64.bits = 64 := rfl
    omega
  rw [this, Int.one_mul, pow_cast]
  exact wrap64_nat _ (Int.natCast_nonneg _) (by exact_mod_cast two_lt (show m < 62 by omega))
end Go.Proofs.Ytaegldcifhgnmaa.B

/- A list of ties is a ring: the program's question and the reference's are one (plain). -/
namespace Go.Proofs.Ytaegldcifhgnmaa.A
open Go.RowKit Go.Proofs.YtaegldcifhgnmaaW.PrintWords Go.Proofs.YtaegldcifhgnmaaW.PrintMore

def goodT (l : List S39) : Prop := ∀ t ∈ l, 0 ≤ t.f0 ∧ t.f0 < t.f1 ∧ t.f1 < 60
theorem tiesE_good {n : Int} {l : List S39} (h : tiesE n l = 0) : goodT l := by
  intro t ht
  obtain ⟨i, hi, e⟩ := List.getElem_of_mem ht
  have h1 := tiesE_parts h
  have h2 := okT_parts (okTies_parts h1.2.2 hi).1
  have hg : l.getD i z39 = t := by rw [List.getD_eq_getElem?_getD, List.getElem?_eq_getElem hi, e]; rfl
  rw [hg] at h2
  omega

/-- The tie of an index. -/
def tieA (l : List S39) (i : Int) : S39 := l.getD i.toNat z39
def inR (l : List S39) (i : Int) : Prop := 0 ≤ i ∧ i < (l.length : Int)
instance (l : List S39) (i : Int) : Decidable (inR l i) := inferInstanceAs (Decidable (_ ∧ _))
theorem tieA_good {l : List S39} (hg : goodT l) {i : Int} (h : inR l i) : 0 ≤ (tieA l i).f0 ∧ (tieA l i).f0 < (tieA l i).f1 ∧ (tieA l i).f1 < 60 := hg _ (getD_mem z39 (by unfold inR at h; omega))
/-- The drover that two ties have in common, as the program looks for it. -/
def comB (l : List S39) (i nx : Int) : Option Nat :=
  if inR l i ∧ inR l nx ∧ i ≠ nx then
    (if hasB (tieA l nx) (tieA l i).f0.toNat = true then some (tieA l i).f0.toNat else if hasB (tieA l nx) (tieA l i).f1.toNat = true then some (tieA l i).f1.toNat else none)
  else none
def nextI (r : List Int) (k : Nat) : Int := r.getD ((k + 1) % r.length) 0
def feA (l : List S39) (r : List Int) (k : Nat) : Nat := feT (tieA l (r.getD k 0))
def ringN (l : List S39) (r : List Int) : Nat → Nat → Nat → Nat → Int × Bool
  | 0, _, fe, _ => ((fe : Int), true)
  | d + 1, k, fe, met => match comB l (r.getD k 0) (nextI r k) with
    | none => (0, false)
    | some c => if met.testBit c = true then (0, false) else ringN l r d (k + 1) (fe + feA l r k) (met ||| 2 ^ c)
/-- The program's answer for a list. -/
def ringP (l : List S39) (r : List Int) : Int × Bool := if r.length < 3 then (0, false) else ringN l r r.length 0 0 0
/-- The other drover of a tie. -/
def otherN (t : S39) (v : Nat) : Option Nat := if t.f0 = (v : Int) then some t.f1.toNat else if t.f1 = (v : Int) then some t.f0.toNat else none
def walkN (l : List S39) (r : List Int) (fr : Nat) : Nat → Nat → Nat → Nat → Nat → Int × Bool
  | 0, _, at_, fe, _ => ((fe : Int), decide (at_ = fr))
  | d + 1, k, at_, fe, met => match otherN (tieA l (r.getD k 0)) at_ with
    | none => (0, false)
    | some v => if met.testBit v = true then (0, false) else walkN l r fr d (k + 1) v (fe + feA l r k) (met ||| 2 ^ v)
def walkF (l : List S39) (r : List Int) (fr : Nat) : Int × Bool := walkN l r fr r.length 0 fr 0 0
/-- The reference's answer for a list. -/
def isRingR (l : List S39) (r : List Int) : Int × Bool :=
  if r.length < 3 then (0, false) else if ∀ k, k < r.length → inR l (r.getD k 0) then
    (if (walkF l r (tieA l (r.getD 0 0)).f0.toNat).2 = true then walkF l r (tieA l (r.getD 0 0)).f0.toNat
     else if (walkF l r (tieA l (r.getD 0 0)).f1.toNat).2 = true then walkF l r (tieA l (r.getD 0 0)).f1.toNat else (0, false))
  else (0, false)
def feSum (l : List S39) (r : List Int) : Nat → Nat → Nat
  | 0, _ => 0
  | d + 1, k => feA l r k + feSum l r d (k + 1)

theorem or_bit {met c v : Nat} : (met ||| 2 ^ c).testBit v = (met.testBit v || decide (v = c)) := by
  rw [Nat.testBit_or, tb_two]
  congr 1
theorem ringN_fst (l : List S39) (r : List Int) : ∀ d k fe met, (ringN l r d k fe met).1 = if (ringN l r d k fe met).2 = true then ((fe + feSum l r d k : Nat) : Int) else 0 := by
  intro d
  induction d with
  | zero => intro k fe met; simp [ringN, feSum]
  | succ d ih =>
    intro k fe met
    rw [ringN, feSum]
    cases comB l (r.getD k 0) (nextI r k) with
    | none => simp
    | some c =>
      dsimp only
      by_cases h : met.testBit c = true
      · simp only [if_pos h]; simp
      · simp only [if_neg h]
        rw [ih, Nat.add_assoc]
theorem walkN_fst (l : List S39) (r : List Int) (fr : Nat) : ∀ d k at_ fe met, (walkN l r fr d k at_ fe met).2 = true → (walkN l r fr d k at_ fe met).1 = ((fe + feSum l r d k : Nat) : Int) := by
  intro d
  induction d with
  | zero => intro k at_ fe met h; simp [walkN, feSum]
  | succ d ih =>
    intro k at_ fe met
    rw [walkN, feSum]
    cases otherN (tieA l (r.getD k 0)) at_ with
    | none => simp
    | some c =>
      dsimp only
      by_cases h : met.testBit c = true
      · rw [if_pos h]; simp
      · rw [if_neg h]
        intro h2
        rw [ih _ _ _ _ h2, Nat.add_assoc]

/-! ### lists of drovers -/
theorem ringN_to (l : List S39) (r : List Int) : ∀ d k fe met, (ringN l r d k fe met).2 = true → ∃ c : Nat → Nat, (∀ j, j < d → comB l (r.getD (k + j) 0) (nextI r (k + j)) = some (c j) ∧ met.testBit (c j) = false) ∧ ∀ i j, i < j → j < d → c i ≠ c j := by
  intro d
  induction d with
  | zero => intro k fe met _; exact ⟨fun _ => 0, fun j hj => absurd hj (Nat.not_lt_zero j), fun i j _ hj => absurd hj (Nat.not_lt_zero j)⟩
  | succ d ih =>
    intro k fe met
    rw [ringN]
    cases e : comB l (r.getD k 0) (nextI r k) with
    | none => intro h; simp at h
    | some v =>
      dsimp only
      by_cases h : met.testBit v = true
      · rw [if_pos h]; intro h; simp at h
      · rw [if_neg h]
        intro h2
        obtain ⟨c, h3, h4⟩ := ih _ _ _ h2
        refine ⟨fun j => match j with | 0 => v | j + 1 => c j, fun j hj => ?_, fun i j hij hj => ?_⟩
        · cases j with
          | zero => exact ⟨e, by simpa using h⟩
          | succ j =>
            have := h3 j (by omega)
            rw [or_bit, Bool.or_eq_false_iff] at this
            rw [show k + (j + 1) = k + 1 + j by omega]
            exact ⟨this.1, this.2.1⟩
        · cases j with
          | zero => omega
          | succ j =>
            cases i with
            | zero =>
              have := (h3 j (by omega)).2
              rw [or_bit, Bool.or_eq_false_iff, decide_eq_false_iff_not] at this
              exact fun e => this.2 e.symm
            | succ i => exact h4 i j (by omega) (by omega)
theorem ringN_of (l : List S39) (r : List Int) : ∀ d k fe met (c : Nat → Nat), (∀ j, j < d → comB l (r.getD (k + j) 0) (nextI r (k + j)) = some (c j) ∧ met.testBit (c j) = false) → (∀ i j, i < j → j < d → c i ≠ c j) → (ringN l r d k fe met).2 = true := by
  intro d
  induction d with
  | zero => intros; rfl
  | succ d ih =>
    intro k fe met c h3 h4
    have h0 := h3 0 (by omega)
    rw [Nat.add_zero] at h0
    rw [ringN, h0.1]
    dsimp only
    rw [if_neg (by rw [h0.2]; exact Bool.false_ne_true)]
    refine ih _ _ _ (fun j => c (j + 1)) (fun j hj => ?_) (fun i j hij hj => h4 (i + 1) (j + 1) (by omega) (by omega))
    have := h3 (j + 1) (by omega)
    rw [show k + 1 + j = k + (j + 1) by omega]
    refine ⟨this.1, ?_⟩
    rw [or_bit, this.2, Bool.false_or, decide_eq_false_iff_not]
    exact fun e => h4 0 (j + 1) (by omega) (by omega) e.symm
theorem walkN_to (l : List S39) (r : List Int) (fr : Nat) : ∀ d k at_ fe met, (walkN l r fr d k at_ fe met).2 = true → ∃ c : Nat → Nat, c 0 = at_ ∧ c d = fr ∧ (∀ j, j < d → otherN (tieA l (r.getD (k + j) 0)) (c j) = some (c (j + 1)) ∧ met.testBit (c (j + 1)) = false) ∧ ∀ i j, i < j → j < d → c (i + 1) ≠ c (j + 1) := by
  intro d
  induction d with
  | zero =>
    intro k at_ fe met h
    rw [walkN] at h
    exact ⟨fun _ => at_, rfl, of_decide_eq_true h, fun j hj => absurd hj (Nat.not_lt_zero j), fun i j _ hj => absurd hj (Nat.not_lt_zero j)⟩
  | succ d ih =>
    intro k at_ fe met
    rw [walkN]
    cases e : otherN (tieA l (r.getD k 0)) at_ with
    | none => intro h; simp at h
    | some v =>
      dsimp only
      by_cases h : met.testBit v = true
      · rw [if_pos h]; intro h; simp at h
      · rw [if_neg h]
        intro h2
        obtain ⟨c, h0, hd, h3, h4⟩ := ih _ _ _ _ h2
        refine ⟨fun j => match j with | 0 => at_ | j + 1 => c j, rfl, hd, fun j hj => ?_, fun i j hij hj => ?_⟩
        · cases j with
          | zero =>
            dsimp only
            rw [h0]
            exact ⟨e, by simpa using h⟩
          | succ j =>
            have := h3 j (by omega)
            rw [or_bit, Bool.or_eq_false_iff] at this
            rw [show k + (j + 1) = k + 1 + j by omega]
            exact ⟨this.1, this.2.1⟩
        · cases j with
          | zero => omega
          | succ j =>
            cases i with
            | zero =>
              have := (h3 j (by omega)).2
              rw [or_bit, Bool.or_eq_false_iff, decide_eq_false_iff_not] at this
              dsimp only
              rw [h0]
              exact fun e => this.2 e.symm
            | succ i => exact h4 i j (by omega) (by omega)
theorem walkN_of (l : List S39) (r : List Int) (fr : Nat) : ∀ d k at_ fe met (c : Nat → Nat), c 0 = at_ → c d = fr → (∀ j, j < d → otherN (tieA l (r.getD (k + j) 0)) (c j) = some (c (j + 1)) ∧ met.testBit (c (j + 1)) = false) → (∀ i j, i < j → j < d → c (i + 1) ≠ c (j + 1)) → (walkN l r fr d k at_ fe met).2 = true := by
  intro d
  induction d with
  | zero =>
    intro k at_ fe met c h0 hd _ _
    rw [walkN]
    exact decide_eq_true (h0.symm.trans hd)
  | succ d ih =>
    intro k at_ fe met c h0 hd h3 h4
    have h1 := h3 0 (by omega)
    rw [Nat.add_zero, h0] at h1
    rw [walkN, h1.1]
    dsimp only
    rw [if_neg (by rw [h1.2]; exact Bool.false_ne_true)]
    refine ih _ _ _ _ (fun j => c (j + 1)) rfl hd (fun j hj => ?_) (fun i j hij hj => h4 (i + 1) (j + 1) (by omega) (by omega))
    have := h3 (j + 1) (by omega)
    rw [show k + 1 + j = k + (j + 1) by omega]
    refine ⟨this.1, ?_⟩
    rw [or_bit, this.2, Bool.false_or, decide_eq_false_iff_not]
    exact fun e => h4 0 (j + 1) (by omega) (by omega) e.symm

/-! ### two ties -/
theorem hasB_iff {t : S39} {v : Nat} : hasB t v = true ↔ t.f0 = (v : Int) ∨ t.f1 = (v : Int) := by
  unfold hasB
  rw [Bool.or_eq_true, beq_iff_eq, beq_iff_eq]
theorem other_has {t : S39} {a b : Nat} (h1 : t.f0 < t.f1) (ha : hasB t a = true) (hb : hasB t b = true) (hne : a ≠ b) : otherN t a = some b := by
  rw [hasB_iff] at ha hb
  unfold otherN
  by_cases h : t.f0 = (a : Int)
  · rw [if_pos h]
    have : t.f1.toNat = b := by omega
    rw [this]
  · rw [if_neg h, if_pos (by omega)]
    have : t.f0.toNat = b := by omega
    rw [this]
theorem other_parts {t : S39} {a b : Nat} (h0 : 0 ≤ t.f0) (h1 : t.f0 < t.f1) (h : otherN t a = some b) : hasB t a = true ∧ hasB t b = true ∧ a ≠ b := by
  rw [hasB_iff, hasB_iff]
  unfold otherN at h
  by_cases e : t.f0 = (a : Int)
  · rw [if_pos e] at h
    have := Option.some.inj h
    omega
  · rw [if_neg e] at h
    by_cases e1 : t.f1 = (a : Int)
    · rw [if_pos e1] at h
      have := Option.some.inj h
      omega
    · rw [if_neg e1] at h; exact absurd h (by simp)
theorem com_parts {l : List S39} (hg : goodT l) {i nx : Int} {c : Nat} (h : comB l i nx = some c) : inR l i ∧ inR l nx ∧ hasB (tieA l i) c = true ∧ hasB (tieA l nx) c = true := by
  unfold comB at h
  by_cases h1 : inR l i ∧ inR l nx ∧ i ≠ nx
  · rw [if_pos h1] at h
    have hi := tieA_good hg h1.1
    refine ⟨h1.1, h1.2.1, ?_⟩
    by_cases h2 : hasB (tieA l nx) (tieA l i).f0.toNat = true
    · rw [if_pos h2] at h
      obtain rfl := Option.some.inj h
      exact ⟨hasB_iff.mpr (Or.inl (by omega)), h2⟩
    · rw [if_neg h2] at h
      by_cases h3 : hasB (tieA l nx) (tieA l i).f1.toNat = true
      · rw [if_pos h3] at h
        obtain rfl := Option.some.inj h
        exact ⟨hasB_iff.mpr (Or.inr (by omega)), h3⟩
      · rw [if_neg h3] at h; exact absurd h (by simp)
  · rw [if_neg h1] at h; exact absurd h (by simp)
theorem com_of {l : List S39} (hg : goodT l) {i nx : Int} (hi : inR l i) (hn : inR l nx) {a b x : Nat} (h : otherN (tieA l i) a = some b) (h' : otherN (tieA l nx) b = some x) (hne : x ≠ a) : comB l i nx = some b := by
  have gi := tieA_good hg hi
  have gn := tieA_good hg hn
  have p := other_parts gi.1 gi.2.1 h
  have q := other_parts gn.1 gn.2.1 h'
  rw [hasB_iff, hasB_iff] at p q
  have hin : i ≠ nx := by
    intro e
    subst e
    omega
  unfold comB
  rw [if_pos ⟨hi, hn, hin⟩]
  by_cases e : (tieA l i).f0.toNat = b
  · rw [e, if_pos (hasB_iff.mpr q.1)]
  · rw [if_neg (by rw [hasB_iff]; omega)]
    have e1 : (tieA l i).f1.toNat = b := by omega
    rw [e1, if_pos (hasB_iff.mpr q.1)]

/-! ### the two are one -/
theorem mod_in {k m : Nat} (h : k + 1 < m) : (k + 1) % m = k + 1 := Nat.mod_eq_of_lt h
theorem ring_of_walk {l : List S39} (hg : goodT l) {r : List Int} (h3 : 3 ≤ r.length) (hin : ∀ k, k < r.length → inR l (r.getD k 0)) {fr : Nat} (h : (walkF l r fr).2 = true) : (ringN l r r.length 0 0 0).2 = true := by
  obtain ⟨c, h0, hd, hs, hd2⟩ := walkN_to l r fr _ _ _ _ _ h
  refine ringN_of l r _ _ _ _ (fun j => c (j + 1)) (fun j hj => ⟨?_, Nat.zero_testBit _⟩) hd2
  rw [Nat.zero_add]
  have a1 := (hs j hj).1
  rw [Nat.zero_add] at a1
  by_cases hl : j + 1 < r.length
  · have a2 := (hs (j + 1) hl).1
    rw [Nat.zero_add] at a2
    unfold nextI
    rw [mod_in hl]
    refine com_of hg (hin j hj) (hin _ hl) a1 a2 ?_
    cases j with
    | zero =>
      rw [h0, ← hd]
      have := hd2 1 (r.length - 1) (by omega) (by omega)
      rwa [Nat.sub_add_cancel (by omega)] at this
    | succ j => exact fun e => hd2 j (j + 2) (by omega) (by omega) e.symm
  · have e : j + 1 = r.length := by omega
    have a2 := (hs 0 (by omega)).1
    rw [Nat.zero_add, h0, ← hd, ← e] at a2
    unfold nextI
    rw [e, Nat.mod_self]
    rw [← e]
    refine com_of hg (hin j hj) (hin 0 (by omega)) a1 a2 ?_
    obtain ⟨q, rfl⟩ : ∃ q, j = q + 1 := ⟨j - 1, by omega⟩
    exact hd2 0 q (by omega) (by omega)
theorem walk_of_ring {l : List S39} (hg : goodT l) {r : List Int} (h3 : 3 ≤ r.length) (h : (ringN l r r.length 0 0 0).2 = true) : (∀ k, k < r.length → inR l (r.getD k 0)) ∧ ∃ fr, (fr = (tieA l (r.getD 0 0)).f0.toNat ∨ fr = (tieA l (r.getD 0 0)).f1.toNat) ∧ (walkF l r fr).2 = true := by
  obtain ⟨c, hs, hd⟩ := ringN_to l r _ _ _ _ h
  have hc : ∀ k, k < r.length → inR l (r.getD k 0) ∧ inR l (nextI r k) ∧ hasB (tieA l (r.getD k 0)) (c k) = true ∧ hasB (tieA l (nextI r k)) (c k) = true := by
    intro k hk
    have := (hs k hk).1
    rw [Nat.zero_add] at this
    exact com_parts hg this
  have hin : ∀ k, k < r.length → inR l (r.getD k 0) := fun k hk => (hc k hk).1
  have e : r.length - 1 + 1 = r.length := Nat.sub_add_cancel (by omega)
  have hlast := hc (r.length - 1) (by omega)
  have hn0 : nextI r (r.length - 1) = r.getD 0 0 := by
    unfold nextI
    rw [e, Nat.mod_self]
  rw [hn0] at hlast
  have h00 := tieA_good hg (hin 0 (by omega))
  refine ⟨hin, c (r.length - 1), ?_, ?_⟩
  · have := hasB_iff.mp hlast.2.2.2
    omega
  · refine walkN_of l r _ _ _ _ _ _ (fun j => match j with | 0 => c (r.length - 1) | j + 1 => c j) rfl ?_ (fun j hj => ⟨?_, Nat.zero_testBit _⟩) hd
    · obtain ⟨q, hq⟩ : ∃ q, r.length = q + 1 := ⟨r.length - 1, by omega⟩
      rw [hq]; rfl
    · rw [Nat.zero_add]
      cases j with
      | zero => exact other_has h00.2.1 hlast.2.2.2 (hc 0 hj).2.2.1 (fun e => hd 0 (r.length - 1) (by omega) (by omega) e.symm)
      | succ j =>
        have hj' := hc j (by omega)
        have hn : nextI r j = r.getD (j + 1) 0 := by unfold nextI; rw [mod_in hj]
        rw [hn] at hj'
        exact other_has (tieA_good hg (hin _ hj)).2.1 hj'.2.2.2 (hc _ hj).2.2.1 (hd j (j + 1) (by omega) hj)
theorem ringP_eq {l : List S39} (hg : goodT l) (r : List Int) : ringP l r = isRingR l r := by
  unfold ringP isRingR
  by_cases h3 : r.length < 3
  · rw [if_pos h3, if_pos h3]
  · rw [if_neg h3, if_neg h3]
    have f0 := ringN_fst l r r.length 0 0 0
    have h3' : 3 ≤ r.length := by omega
    by_cases h : (ringN l r r.length 0 0 0).2 = true
    · obtain ⟨hin, fr, hfr, hw⟩ := walk_of_ring hg h3' h
      rw [if_pos h] at f0
      have e1 : ringN l r r.length 0 0 0 = (((0 + feSum l r r.length 0 : Nat) : Int), true) := Prod.ext f0 h
      have e2 : ∀ v, (walkF l r v).2 = true → walkF l r v = (((0 + feSum l r r.length 0 : Nat) : Int), true) := fun v hv => Prod.ext (walkN_fst l r v _ _ _ _ _ hv) hv
      rw [if_pos hin, e1]
      by_cases ha : (walkF l r (tieA l (r.getD 0 0)).f0.toNat).2 = true
      · rw [if_pos ha, e2 _ ha]
      · rw [if_neg ha]
        have hb : (walkF l r (tieA l (r.getD 0 0)).f1.toNat).2 = true := by
          rcases hfr with e | e
          · rw [e] at hw; exact absurd hw ha
          · rw [← e]; exact hw
        rw [if_pos hb, e2 _ hb]
    · rw [if_neg h] at f0
      have e1 : ringN l r r.length 0 0 0 = (0, false) := Prod.ext f0 (by simpa using h)
      rw [e1]
      by_cases hin : ∀ k, k < r.length → inR l (r.getD k 0)
      · rw [if_pos hin, if_neg (fun ha => h (ring_of_walk hg h3' hin ha)), if_neg (fun ha => h (ring_of_walk hg h3' hin ha))]
      · rw [if_neg hin]
end Go.Proofs.Ytaegldcifhgnmaa.A

/- Drovers that reach each other by some ties: classes; the groups are these (plain). -/
namespace Go.Proofs.Ytaegldcifhgnmaa.B
open Go.Proofs.Ytaegldcifhgnmaa.A
open Go.RowKit Go.Proofs.YtaegldcifhgnmaaW.PrintWords Go.Proofs.YtaegldcifhgnmaaW.PrintMore
section
variable {q : S39 → Bool} {l : List S39} {n : Nat}
/-- A set that no such tie leaves. -/
def Clo (q : S39 → Bool) (l : List S39) (S : Nat → Prop) : Prop := ∀ t ∈ l, q t = true → (S t.f0.toNat ↔ S t.f1.toNat)
/-- Reached by such ties. -/
def Conn (q : S39 → Bool) (l : List S39) (a b : Nat) : Prop := ∀ S : Nat → Prop, Clo q l S → S a → S b
theorem conn_refl (a : Nat) : Conn q l a a := fun _ _ h => h
theorem conn_trans {a b c : Nat} (h : Conn q l a b) (h' : Conn q l b c) : Conn q l a c := fun S hS ha => h' S hS (h S hS ha)
theorem conn_symm {a b : Nat} (h : Conn q l a b) : Conn q l b a := fun S hS hb => by
  by_cases ha : S a
  · exact ha
  · exact absurd hb (h (fun v => ¬ S v) (fun t ht hq => not_congr (hS t ht hq)) ha)
theorem conn_tie {t : S39} (ht : t ∈ l) (hq : q t = true) : Conn q l t.f0.toNat t.f1.toNat := fun _ hS h => (hS t ht hq).mp h
theorem clo_conn (a : Nat) : Clo q l (Conn q l a) := fun _ ht hq => ⟨fun h => conn_trans h (conn_tie ht hq), fun h => conn_trans h (conn_symm (conn_tie ht hq))⟩
/-- Of a set as a number. -/
def CloN (q : S39 → Bool) (l : List S39) (x : Nat) : Prop := Clo q l fun v => x.testBit v = true
theorem conn_lt (hl : okN n l) {a b : Nat} (h : Conn q l a b) (ha : a < n) : b < n := by
  refine h (fun v => v < n) (fun t ht _ => ?_) ha
  have := hl t ht
  exact ⟨fun _ => by omega, fun _ => by omega⟩

/-! ### spread -/
theorem pairB_bit (t : S39) (i : Nat) : (pairB t).testBit i = (decide (i = t.f0.toNat) || decide (i = t.f1.toNat)) := by
  unfold pairB
  rw [or_bit, tb_two]; rfl
theorem addT_bit (t : S39) (x i : Nat) : (addT q t x).testBit i = true ↔ x.testBit i = true ∨ (q t = true ∧ (x.testBit t.f0.toNat = true ∨ x.testBit t.f1.toNat = true) ∧ (i = t.f0.toNat ∨ i = t.f1.toNat)) := by
  have hm : x &&& pairB t ≠ 0 ↔ (x.testBit t.f0.toNat = true ∨ x.testBit t.f1.toNat = true) := by
    constructor
    · intro h
      obtain ⟨i, hi⟩ := Nat.exists_testBit_of_ne_zero h
      rw [Nat.testBit_and, pairB_bit, Bool.and_eq_true, Bool.or_eq_true, decide_eq_true_iff, decide_eq_true_iff] at hi
      rcases hi.2 with e | e
      · rw [← e]; exact Or.inl hi.1
      · rw [← e]; exact Or.inr hi.1
    · intro h e
      have hz : ∀ i, (x &&& pairB t).testBit i = false := fun i => by rw [e, Nat.zero_testBit]
      rcases h with h | h
      · have := hz t.f0.toNat
        rw [Nat.testBit_and, pairB_bit, h, decide_eq_true rfl] at this
        cases this
      · have := hz t.f1.toNat
        rw [Nat.testBit_and, pairB_bit, h, decide_eq_true (p := t.f1.toNat = t.f1.toNat) rfl, Bool.or_true] at this
        cases this
  unfold addT
  by_cases h : q t = true ∧ x &&& pairB t ≠ 0
  · rw [if_pos h, Nat.testBit_or, pairB_bit, Bool.or_eq_true, Bool.or_eq_true, decide_eq_true_iff, decide_eq_true_iff]
    have := hm.mp h.2
    exact ⟨fun h' => h'.elim Or.inl fun h'' => Or.inr ⟨h.1, this, h''⟩, fun h' => h'.elim Or.inl fun h'' => Or.inr h''.2.2⟩
  · rw [if_neg h]
    exact ⟨Or.inl, fun h' => h'.elim id fun h'' => absurd ⟨h''.1, hm.mpr h''.2.1⟩ h⟩
theorem addK_mono {x : Nat} : ∀ {k m}, k ≤ m → ∀ i, (addK q l x k).testBit i = true → (addK q l x m).testBit i = true
  | k, 0, h, i, hi => by have : k = 0 := by omega
                         rw [this] at hi; exact hi
  | k, m + 1, h, i, hi => by
    by_cases e : k = m + 1
    · rw [e] at hi; exact hi
    · exact addT_sup (addK_mono (show k ≤ m by omega) i hi)
theorem ext_bits {x y : Nat} (h : ∀ i, x.testBit i = true ↔ y.testBit i = true) : x = y := Nat.eq_of_testBit_eq fun i => by rw [Bool.eq_iff_iff]; exact h i
theorem clo_of_fix {x : Nat} (h : addK q l x l.length = x) : CloN q l x := by
  intro t ht hq
  obtain ⟨k, hk, e⟩ := List.getElem_of_mem ht
  have hg : l.getD k z39 = t := by rw [List.getD_eq_getElem?_getD, List.getElem?_eq_getElem hk, e]; rfl
  have hall : ∀ m, m ≤ l.length → addK q l x m = x := fun m hm => ext_bits fun i => ⟨fun hi => by have := addK_mono hm i hi; rw [h] at this; exact this, fun hi => addK_sup hi m⟩
  have h1 := hall (k + 1) (by omega)
  rw [addK, hall k (by omega), hg] at h1
  constructor
  · intro h0
    rw [← h1]
    exact (addT_bit t x _).mpr (Or.inr ⟨hq, Or.inl h0, Or.inr rfl⟩)
  · intro h0
    rw [← h1]
    exact (addT_bit t x _).mpr (Or.inr ⟨hq, Or.inr h0, Or.inl rfl⟩)
theorem addT_fix {t : S39} {x : Nat} (h : CloN q l x) (ht : t ∈ l) : addT q t x = x := by
  refine ext_bits fun i => ⟨fun hi => ?_, addT_sup⟩
  rcases (addT_bit t x i).mp hi with h1 | ⟨h1, h2, h3⟩
  · exact h1
  · have := h t ht h1
    have h0 : x.testBit t.f0.toNat = true := h2.elim id this.mpr
    rcases h3 with e | e
    · rw [e]; exact h0
    · rw [e]; exact this.mp h0
theorem addK_fix {x : Nat} (h : CloN q l x) : ∀ k, k ≤ l.length → addK q l x k = x
  | 0, _ => rfl
  | k + 1, hk => by rw [addK, addK_fix h k (by omega)]; exact addT_fix h (getD_mem z39 (by omega))
/-- How many drovers a set has. -/
def card (n x : Nat) : Nat := ((List.range n).filter fun i => x.testBit i).length
theorem card_le (n x : Nat) : card n x ≤ n := by
  have := List.length_filter_le (fun i => x.testBit i) (List.range n)
  rw [List.length_range] at this
  exact this
theorem filter_sub {α : Type} {p p' : α → Bool} : ∀ {L : List α}, (∀ a ∈ L, p a = true → p' a = true) → (L.filter p).length ≤ (L.filter p').length ∧ ((∃ a ∈ L, p a = false ∧ p' a = true) → (L.filter p).length < (L.filter p').length)
  | [], _ => ⟨Nat.le_refl _, fun ⟨a, h, _⟩ => absurd h (by simp)⟩
  | b :: L, h => by
    obtain ⟨h1, h2⟩ := filter_sub (L := L) fun a ha => h a (List.mem_cons_of_mem b ha)
    have hb := h b List.mem_cons_self
    cases e : p b with
    | true =>
      rw [List.filter_cons_of_pos e, List.filter_cons_of_pos (hb e), List.length_cons, List.length_cons]
      refine ⟨by omega, fun ⟨a, ha, h3, h4⟩ => ?_⟩
      rcases List.mem_cons.mp ha with rfl | ha
      · rw [e] at h3; cases h3
      · have := h2 ⟨a, ha, h3, h4⟩; omega
    | false =>
      rw [List.filter_cons_of_neg (by rw [e]; decide)]
      cases e' : p' b with
      | true => rw [List.filter_cons_of_pos e', List.length_cons]; exact ⟨by omega, fun _ => by omega⟩
      | false =>
        rw [List.filter_cons_of_neg (by rw [e']; decide)]
        refine ⟨h1, fun ⟨a, ha, h3, h4⟩ => ?_⟩
        rcases List.mem_cons.mp ha with rfl | ha
        · rw [e'] at h4; cases h4
        · exact h2 ⟨a, ha, h3, h4⟩
theorem card_lt {x y : Nat} (hs : ∀ i, x.testBit i = true → y.testBit i = true) (hy : y < 2 ^ n) (hne : x ≠ y) : card n x < card n y := by
  refine (filter_sub (fun i _ => hs i)).2 ?_
  have : ∃ i, y.testBit i = true ∧ x.testBit i = false := by
    refine Classical.byContradiction fun hno => hne (ext_bits fun i => ⟨hs i, fun hi => ?_⟩)
    cases e : x.testBit i with
    | true => rfl
    | false => exact absurd ⟨i, hi, e⟩ hno
  obtain ⟨i, h1, h2⟩ := this
  refine ⟨i, List.mem_range.mpr ?_, h2, h1⟩
  rw [← Nat.not_le]
  intro hi
  rw [tb_big hy hi] at h1
  cases h1
theorem spread_clo (hl : okN n l) {x : Nat} (hx : x < 2 ^ n) (h0 : x ≠ 0) : CloN q l (spread q l x n) := by
  have key : ∀ k, CloN q l (spread q l x k) ∨ k + 1 ≤ card n (spread q l x k) := by
    intro k
    induction k with
    | zero =>
      right
      have := card_lt (n := n) (x := 0) (y := x) (fun i h => by rw [Nat.zero_testBit] at h; cases h) hx (Ne.symm h0)
      show 1 ≤ card n x
      omega
    | succ k ih =>
      rw [spread]
      rcases ih with h | h
      · left; rw [addK_fix h _ (Nat.le_refl _)]; exact h
      · by_cases e : addK q l (spread q l x k) l.length = spread q l x k
        · left; rw [e]; exact clo_of_fix e
        · right
          have := card_lt (n := n) (x := spread q l x k) (y := addK q l (spread q l x k) l.length) (fun i h => addK_sup h _) (addK_lt hl (spread_lt hl hx k) _ (Nat.le_refl _)) (Ne.symm e)
          omega
  rcases key n with h | h
  · exact h
  · have := card_le n (spread q l x n)
    omega
theorem spread_conn (a : Nat) : ∀ k i, (spread q l (2 ^ a) k).testBit i = true → Conn q l a i
  | 0, i, hi => by
    rw [spread, tb_two, beq_iff_eq] at hi
    rw [hi]; exact conn_refl a
  | k + 1, i, hi => by
    have ih := spread_conn a k
    have key : ∀ m, m ≤ l.length → ∀ i, (addK q l (spread q l (2 ^ a) k) m).testBit i = true → Conn q l a i := by
      intro m
      induction m with
      | zero => exact fun _ => ih
      | succ m ihm =>
        intro hm i hi
        rw [addK] at hi
        rcases (addT_bit _ _ i).mp hi with h | ⟨h1, h2, h3⟩
        · exact ihm (by omega) i h
        · have ht := getD_mem (l := l) z39 (show m < l.length by omega)
          have hc := clo_conn (q := q) (l := l) a _ ht h1
          have h0 : Conn q l a (l.getD m z39).f0.toNat := h2.elim (ihm (by omega) _) fun h => hc.mpr (ihm (by omega) _ h)
          rcases h3 with e | e
          · rw [e]; exact h0
          · rw [e]; exact hc.mp h0
    exact key l.length (Nat.le_refl _) i hi
/-- The class of a drover, as a set. -/
def classN (q : S39 → Bool) (n : Nat) (l : List S39) (a : Nat) : Nat := spread q l (2 ^ a) n
theorem two_ne (a : Nat) : 2 ^ a ≠ 0 := by have := Nat.two_pow_pos a; omega
theorem class_bit (hl : okN n l) {a : Nat} (ha : a < n) (i : Nat) : (classN q n l a).testBit i = true ↔ Conn q l a i := by
  refine ⟨spread_conn a n i, fun h => ?_⟩
  refine h _ (spread_clo (q := q) hl (Nat.pow_lt_pow_right (by decide) ha) (two_ne a)) ?_
  exact spread_sup (by rw [tb_two]; simp) n
theorem class_lt (hl : okN n l) {a : Nat} (ha : a < n) : classN q n l a < 2 ^ n := spread_lt hl (Nat.pow_lt_pow_right (by decide) ha) n
theorem class_same (hl : okN n l) {a b : Nat} (ha : a < n) (h : Conn q l a b) : classN q n l a = classN q n l b :=
  ext_bits fun i => by rw [class_bit hl ha, class_bit hl (conn_lt hl h ha)]; exact ⟨conn_trans (conn_symm h), conn_trans h⟩

/-! ### the groups: the classes of those drovers that are the least of theirs -/
def leastB (q : S39 → Bool) (n : Nat) (l : List S39) (v : Nat) : Bool := (List.range v).all fun u => !(classN q n l v).testBit u
theorem leastB_iff (hl : okN n l) {v : Nat} (hv : v < n) : leastB q n l v = true ↔ ∀ u, u < v → ¬ Conn q l u v := by
  unfold leastB
  rw [List.all_eq_true]
  constructor
  · intro h u hu hc
    have := h u (List.mem_range.mpr hu)
    rw [(class_bit hl hv u).mpr (conn_symm hc)] at this
    cases this
  · intro h u hu
    rw [Bool.not_eq_true', ← Bool.not_eq_true]
    exact fun hc => h u (List.mem_range.mp hu) (conn_symm ((class_bit hl hv u).mp hc))
def groupsC (q : S39 → Bool) (n : Nat) (l : List S39) (k : Nat) : List Int := (((List.range' k (n - k)).filter (leastB q n l)).map fun v => ((classN q n l v : Nat) : Int))
theorem low_table2 : (List.range 256).all (fun x => x == 0 || (List.range 8).any fun i => x.testBit i && (lowB x == 2 ^ i) && (List.range i).all fun j => !x.testBit j) = true := by decide +kernel
theorem low_is {x : Nat} (h : x < 256) (h0 : x ≠ 0) : ∃ i, x.testBit i = true ∧ lowB x = 2 ^ i ∧ ∀ j, j < i → x.testBit j = false := by
  have := List.all_eq_true.1 low_table2 x (List.mem_range.2 h)
  rw [Bool.or_eq_true, beq_iff_eq] at this
  rcases this with h1 | h1
  · exact absurd h1 h0
  · obtain ⟨i, _, hi⟩ := List.any_eq_true.1 h1
    rw [Bool.and_eq_true, Bool.and_eq_true, beq_iff_eq] at hi
    refine ⟨i, hi.1.1, hi.1.2, fun j hj => ?_⟩
    have := List.all_eq_true.1 hi.2 j (List.mem_range.2 hj)
    simpa using this
theorem range'_skip {p : Nat → Bool} : ∀ {d k m : Nat}, k ≤ m → (∀ j, k ≤ j → j < m → p j = false) → (List.range' k (d + (m - k))).filter p = (List.range' m d).filter p := by
  intro d k m hkm h
  obtain ⟨e, rfl⟩ : ∃ e, m = k + e := ⟨m - k, by omega⟩
  induction e generalizing k with
  | zero => rw [Nat.add_zero, Nat.sub_self, Nat.add_zero]
  | succ e ih =>
    have e1 : d + (k + (e + 1) - k) = (d + (k + 1 + e - (k + 1))) + 1 := by omega
    rw [e1, List.range'_succ, List.filter_cons_of_neg (by rw [h k (Nat.le_refl _) (by omega)]; decide), ih (by omega) fun j h1 h2 => h j (by omega) (by omega)]
    rw [show k + (e + 1) = k + 1 + e by omega]
theorem groups_left (h8 : n ≤ 8) (hl : okN n l) : ∀ f left k, left < 2 ^ n → left ≤ f → k ≤ n → CloN q l left → (∀ v, v < n → (left.testBit v = true ↔ k ≤ v ∧ ∀ u, u < k → ¬ Conn q l u v)) → groupsL q n l f left = groupsC q n l k := by
  intro f
  induction f with
  | zero =>
    intro left k h1 h2 hk _ h4
    have : left = 0 := by omega
    subst this
    rw [groupsL]
    unfold groupsC
    rw [List.filter_eq_nil_iff.mpr]
    · rfl
    · intro v hv hle
      obtain ⟨h5, h6⟩ := List.mem_range'_1.mp hv
      have hvn : v < n := by omega
      have := (h4 v hvn).mpr ⟨h5, fun u hu => (leastB_iff hl hvn).mp hle u (by omega)⟩
      rw [Nat.zero_testBit] at this
      cases this
  | succ f ih =>
    intro left k h1 h2 hk h3 h4
    rw [groupsL]
    by_cases h0 : left = 0
    · subst h0
      rw [if_pos rfl]
      unfold groupsC
      rw [List.filter_eq_nil_iff.mpr]
      · rfl
      · intro v hv hle
        obtain ⟨h5, h6⟩ := List.mem_range'_1.mp hv
        have hvn : v < n := by omega
        have := (h4 v hvn).mpr ⟨h5, fun u hu => (leastB_iff hl hvn).mp hle u (by omega)⟩
        rw [Nat.zero_testBit] at this
        cases this
    · rw [if_neg h0]
      obtain ⟨a, ha, hlow, hno⟩ := low_is (Nat.lt_of_lt_of_le h1 (pow8 h8)) h0
      have han : a < n := by
        rw [← Nat.not_le]; intro h; rw [tb_big h1 h] at ha; cases ha
      obtain ⟨hka, hac⟩ := (h4 a han).mp ha
      have hleast : leastB q n l a = true := (leastB_iff hl han).mpr fun u hu hc => by
        by_cases huk : u < k
        · exact hac u huk hc
        · have := hno u hu
          have h6 : left.testBit u = true := conn_symm hc (fun v => left.testBit v = true) h3 ha
          rw [this] at h6; cases h6
      have hcl : spread q l (lowB left) n = classN q n l a := by rw [hlow]; rfl
      have hb : ∀ i, (less left (classN q n l a)).testBit i = true ↔ left.testBit i = true ∧ ¬ Conn q l a i := fun i => by
        rw [tb_less, Bool.and_eq_true, Bool.not_eq_true', ← Bool.not_eq_true, class_bit hl han]
      have hdec : less left (classN q n l a) < left := less_dec ha ((class_bit hl han a).mpr (conn_refl a))
      have e : groupsC q n l k = ((classN q n l a : Nat) : Int) :: groupsC q n l (a + 1) := by
        unfold groupsC
        rw [show n - k = (n - a) + (a - k) by omega, range'_skip hka, show n - a = (n - (a + 1)) + 1 by omega, List.range'_succ, List.filter_cons_of_pos hleast, List.map_cons]
        intro j hj1 hj2
        rw [← Bool.not_eq_true, leastB_iff hl (by omega)]
        intro hle
        have := (h4 j (by omega)).mpr ⟨hj1, fun u hu => hle u (by omega)⟩
        rw [hno j hj2] at this
        cases this
      rw [hcl, e]
      congr 1
      refine ih _ (a + 1) (by omega) (by omega) (by omega) ?_ fun v hv => ?_
      · intro t ht hq
        have g1 := h3 t ht hq
        have g2 := clo_conn (q := q) (l := l) a t ht hq
        show (less left _).testBit _ = true ↔ (less left _).testBit _ = true
        rw [hb, hb]
        exact and_congr g1 (not_congr g2)
      · rw [hb, h4 v hv]
        constructor
        · rintro ⟨⟨h5, h6⟩, h7⟩
          refine ⟨?_, fun u hu hc => ?_⟩
          · rw [← Nat.not_lt]; intro h8
            by_cases e1 : v = a
            · rw [e1] at h7; exact h7 (conn_refl a)
            · have := hno v (by omega)
              rw [(h4 v hv).mpr ⟨h5, h6⟩] at this; cases this
          · by_cases huk : u < k
            · exact h6 u huk hc
            · by_cases e1 : u = a
              · rw [e1] at hc; exact h7 hc
              · have h8 := hno u (by omega)
                have h9 : left.testBit u = true := conn_symm hc (fun v => left.testBit v = true) h3 ((h4 v hv).mpr ⟨h5, h6⟩)
                rw [h8] at h9; cases h9
        · rintro ⟨h5, h6⟩
          exact ⟨⟨by omega, fun u hu => h6 u (by omega)⟩, h6 a (by omega)⟩
theorem groups_eq (h8 : n ≤ 8) (hl : okN n l) : groupsF q n l = groupsC q n l 0 := by
  have hp := Nat.two_pow_pos n
  refine groups_left h8 hl _ _ 0 (by omega) (by omega) (Nat.zero_le _) ?_ fun v hv => ?_
  · intro t ht _
    have := hl t ht
    show (2 ^ n - 1).testBit _ = true ↔ (2 ^ n - 1).testBit _ = true
    rw [Nat.testBit_two_pow_sub_one, Nat.testBit_two_pow_sub_one, decide_eq_true_iff, decide_eq_true_iff]
    exact ⟨fun _ => by omega, fun _ => by omega⟩
  · rw [Nat.testBit_two_pow_sub_one, decide_eq_true_iff]
    exact ⟨fun _ => ⟨Nat.zero_le _, fun u hu => absurd hu (Nat.not_lt_zero u)⟩, fun _ => hv⟩
theorem groups_mem (h8 : n ≤ 8) (hl : okN n l) {g : Int} : g ∈ groupsF q n l ↔ ∃ v, v < n ∧ leastB q n l v = true ∧ g = ((classN q n l v : Nat) : Int) := by
  rw [groups_eq h8 hl]
  unfold groupsC
  rw [List.mem_map]
  constructor
  · rintro ⟨v, hv, e⟩
    obtain ⟨h1, h2⟩ := List.mem_filter.mp hv
    have := (List.mem_range'_1.mp h1).2
    exact ⟨v, by omega, h2, e.symm⟩
  · rintro ⟨v, hv, h, e⟩
    exact ⟨v, List.mem_filter.mpr ⟨List.mem_range'_1.mpr ⟨Nat.zero_le _, by omega⟩, h⟩, e.symm⟩
/-- Each class has a least drover. -/
theorem least_of (hl : okN n l) {a : Nat} (ha : a < n) : ∃ v, v ≤ a ∧ leastB q n l v = true ∧ Conn q l v a := by
  induction a using Nat.strongRecOn with
  | _ a ih =>
    by_cases h : leastB q n l a = true
    · exact ⟨a, Nat.le_refl _, h, conn_refl a⟩
    · rw [leastB_iff hl ha] at h
      have : ∃ u, u < a ∧ Conn q l u a := Classical.byContradiction fun hno => h fun u hu hc => hno ⟨u, hu, hc⟩
      obtain ⟨u, hu, hc⟩ := this
      obtain ⟨v, h1, h2, h3⟩ := ih u hu (by omega)
      exact ⟨v, by omega, h2, conn_trans h3 hc⟩
theorem groups_has (h8 : n ≤ 8) (hl : okN n l) {a b : Nat} (ha : a < n) : (∃ g ∈ groupsF q n l, g.toNat.testBit a = true ∧ g.toNat.testBit b = true) ↔ Conn q l a b := by
  constructor
  · rintro ⟨g, hg, h1, h2⟩
    obtain ⟨v, hv, _, rfl⟩ := (groups_mem h8 hl).mp hg
    rw [Int.toNat_natCast, class_bit hl hv] at h1 h2
    exact conn_trans (conn_symm h1) h2
  · intro h
    obtain ⟨v, h1, h2, h3⟩ := least_of (q := q) hl ha
    refine ⟨_, (groups_mem h8 hl).mpr ⟨v, by omega, h2, rfl⟩, ?_, ?_⟩
    · rw [Int.toNat_natCast, class_bit hl (by omega)]; exact h3
    · rw [Int.toNat_natCast, class_bit hl (by omega)]; exact conn_trans h3 h
end
end Go.Proofs.Ytaegldcifhgnmaa.B

/- The reference's groups are the classes, too (plain). -/
namespace Go.Proofs.Ytaegldcifhgnmaa.B
open Go.Proofs.Ytaegldcifhgnmaa.A
open Go.RowKit Go.Proofs.YtaegldcifhgnmaaW.PrintWords Go.Proofs.YtaegldcifhgnmaaW.PrintMore
section
variable {q : S39 → Bool} {l : List S39} {n : Nat}
/-- The least drover found so far, of each drover, behind the first k ties. -/
def atF (q : S39 → Bool) (l : List S39) : Nat → Nat → Nat
  | 0, v => v
  | k + 1, v => if q (l.getD k z39) = true ∧ atF q l k v = max (atF q l k (l.getD k z39).f0.toNat) (atF q l k (l.getD k z39).f1.toNat) then min (atF q l k (l.getD k z39).f0.toNat) (atF q l k (l.getD k z39).f1.toNat) else atF q l k v
theorem atF_le : ∀ k v, atF q l k v ≤ v
  | 0, v => Nat.le_refl v
  | k + 1, v => by
    rw [atF]
    have := atF_le k v
    split
    · omega
    · exact this
theorem atF_conn : ∀ k, k ≤ l.length → ∀ v, Conn q l v (atF q l k v)
  | 0, _, v => conn_refl v
  | k + 1, hk, v => by
    rw [atF]
    have ih := atF_conn k (by omega)
    split
    · rename_i h
      have ht := getD_mem (l := l) z39 (show k < l.length by omega)
      have hab : Conn q l (atF q l k (l.getD k z39).f0.toNat) (atF q l k (l.getD k z39).f1.toNat) := conn_trans (conn_symm (ih _)) (conn_trans (conn_tie ht h.1) (ih _))
      have hv := ih v
      rw [h.2] at hv
      revert hv hab
      generalize atF q l k (l.getD k z39).f0.toNat = a
      generalize atF q l k (l.getD k z39).f1.toNat = b
      intro hab hv
      rcases Nat.le_total a b with h1 | h1
      · rw [Nat.max_eq_right h1] at hv; rw [Nat.min_eq_left h1]; exact conn_trans hv (conn_symm hab)
      · rw [Nat.max_eq_left h1] at hv; rw [Nat.min_eq_right h1]; exact conn_trans hv hab
    · exact ih v
theorem atF_tie : ∀ k, k ≤ l.length → ∀ i, i < k → q (l.getD i z39) = true → atF q l k (l.getD i z39).f0.toNat = atF q l k (l.getD i z39).f1.toNat
  | 0, _, i, hi, _ => absurd hi (Nat.not_lt_zero i)
  | k + 1, hk, i, hi, hq => by
    by_cases e : i = k
    · subst e
      rw [atF, atF]
      generalize atF q l i (l.getD i z39).f0.toNat = a
      generalize atF q l i (l.getD i z39).f1.toNat = b
      rcases Nat.le_total a b with h1 | h1
      · rw [Nat.max_eq_right h1, Nat.min_eq_left h1, if_pos (c := q (l.getD i z39) = true ∧ b = b) ⟨hq, rfl⟩]
        split <;> rfl
      · rw [Nat.max_eq_left h1, Nat.min_eq_right h1, if_pos (c := q (l.getD i z39) = true ∧ a = a) ⟨hq, rfl⟩]
        split <;> rfl
    · have := atF_tie k (by omega) i (by omega) hq
      rw [atF, atF, this]
theorem atF_same {u v : Nat} (h : Conn q l u v) : atF q l l.length u = atF q l l.length v := by
  refine h (fun w => atF q l l.length u = atF q l l.length w) (fun t ht hq => ?_) rfl
  obtain ⟨i, hi, e⟩ := List.getElem_of_mem ht
  have hg : l.getD i z39 = t := by rw [List.getD_eq_getElem?_getD, List.getElem?_eq_getElem hi, e]; rfl
  have := atF_tie (q := q) l.length (Nat.le_refl _) i hi (by rw [hg]; exact hq)
  rw [hg] at this
  show atF q l l.length u = atF q l l.length t.f0.toNat ↔ atF q l l.length u = atF q l l.length t.f1.toNat
  rw [this]
theorem atF_iff {u v : Nat} : atF q l l.length u = atF q l l.length v ↔ Conn q l u v :=
  ⟨fun h => by
    have h1 := atF_conn (q := q) (l := l) l.length (Nat.le_refl _) u
    have h2 := atF_conn (q := q) (l := l) l.length (Nat.le_refl _) v
    rw [h] at h1
    exact conn_trans h1 (conn_symm h2), atF_same⟩
/-- It is v where v is the least of its class and of u's. -/
theorem atF_is (hl : okN n l) {u v : Nat} (hv : v < n) : atF q l l.length u = v ↔ leastB q n l v = true ∧ Conn q l v u := by
  rw [leastB_iff hl hv]
  constructor
  · intro h
    have h1 := atF_conn (q := q) (l := l) l.length (Nat.le_refl _) u
    rw [h] at h1
    refine ⟨fun w hw hc => ?_, conn_symm h1⟩
    have h2 := atF_same (conn_trans hc (conn_symm h1))
    have h3 := atF_le (q := q) (l := l) l.length w
    omega
  · rintro ⟨h1, h2⟩
    have h3 := atF_same h2
    rw [← h3]
    have h4 := atF_le (q := q) (l := l) l.length v
    by_cases e : atF q l l.length v = v
    · exact e
    · exact absurd (conn_symm (atF_conn l.length (Nat.le_refl _) v)) (h1 _ (by omega))

/-! ### rows of numbers as functions -/
def tabL (n : Nat) (f : Nat → Nat) : List Int := (List.range n).map fun v => (f v : Int)
theorem tab_len (n : Nat) (f : Nat → Nat) : (tabL n f).length = n := by unfold tabL; rw [List.length_map, List.length_range]
theorem rd_tab {f : Nat → Nat} {v : Nat} (h : v < n) : rd (tabL n f) (v : Int) = (f v : Int) := by
  unfold rd tabL
  rw [Int.toNat_natCast, List.getD_eq_getElem?_getD, List.getElem?_map, List.getElem?_range h]; rfl
theorem tab_congr {f g : Nat → Nat} (h : ∀ v, v < n → f v = g v) : tabL n f = tabL n g := by
  unfold tabL
  exact List.map_congr_left fun v hv => by rw [h v (List.mem_range.mp hv)]
theorem set_tab {f : Nat → Nat} {v y : Nat} : (tabL n f).set v (y : Int) = tabL n fun u => if u = v then y else f u := by
  refine List.ext_getElem? fun i => ?_
  unfold tabL
  rw [List.getElem?_set, List.length_map, List.length_range, List.getElem?_map, List.getElem?_map]
  by_cases hi : i < n
  · rw [List.getElem?_range hi]
    by_cases e : v = i
    · subst e
      rw [if_pos rfl, if_pos hi, Option.map_some]
      show some _ = some (((if v = v then y else f v : Nat)) : Int)
      rw [if_pos rfl]
    · rw [if_neg e, Option.map_some, Option.map_some]
      show some _ = some (((if i = v then y else f i : Nat)) : Int)
      rw [if_neg (fun h : i = v => e h.symm)]
  · have : (List.range n)[i]? = none := by rw [List.getElem?_eq_none]; rw [List.length_range]; omega
    rw [this]
    by_cases e : v = i
    · subst e; rw [if_pos rfl, if_neg hi]; rfl
    · rw [if_neg e]; rfl
theorem tab_zero : List.replicate n (0 : Int) = tabL n fun _ => 0 := by
  unfold tabL
  rw [List.map_const', List.length_range]; rfl

/-! ### the reference's groups -/
/-- Which ties count. -/
def askT (friends : Bool) : S39 → Bool := if friends = true then friendB else anyT
theorem grp_l4 (hl : okN n l) (h8 : n ≤ 8) {v : Nat} (hv : v < n) {out R : List Int} (hol : out.length ≤ n)
    (h : Ev (fun k => drovewayref09_groups.l3 k n (tabL n (atF q l l.length)) (if leastB q n l v = true then out ++ [((classN q n l v : Nat) : Int)] else out) ((v + 1 : Nat) : Int)) R) :
    ∀ (m u s : Nat), n - u = m → v ≤ u → u ≤ n → s < 2 ^ u → (∀ i, s.testBit i = true ↔ v ≤ i ∧ i < u ∧ atF q l l.length i = v) → Ev (fun k => drovewayref09_groups.l4 k n (tabL n (atF q l l.length)) out (v : Int) (s : Int) (u : Int)) R := by
  intro m
  induction m with
  | zero =>
    intro u s hm hvu hun hs hb
    obtain rfl : u = n := by omega
    refine Ev.step (fun k => ?_) h
    rw [drovewayref09_groups.l4, if_neg (by omega), wrapS (show v < 100 by omega) (by omega)]
    have hc : ∀ i, s.testBit i = true ↔ (leastB q u l v = true ∧ Conn q l v i) := fun i => by
      rw [hb, atF_is hl hv]
      constructor
      · exact fun h => h.2.2
      · intro h
        refine ⟨?_, conn_lt hl h.2 hv, h⟩
        rw [← Nat.not_lt]
        exact fun hlt => (leastB_iff hl hv).mp h.1 i hlt (conn_symm h.2)
    by_cases hle : leastB q u l v = true
    · have e : s = classN q u l v := ext_bits fun i => by rw [hc, class_bit hl hv]; exact ⟨fun h => h.2, fun h => ⟨hle, h⟩⟩
      have h0 : s ≠ 0 := fun h0 => by
        have := (hc v).mpr ⟨hle, conn_refl v⟩
        rw [h0, Nat.zero_testBit] at this; cases this
      rw [if_pos (by omega), if_pos (by omega), if_pos hle, e]
    · have e : s = 0 := ext_bits fun i => by rw [hc, Nat.zero_testBit]; exact ⟨fun h => absurd h.1 hle, fun h => by cases h⟩
      rw [e, if_neg (by omega), if_neg hle]
  | succ m ih =>
    intro u s hm hvu hun hs hb
    have hpu : (2 : Nat) ^ u ≤ 256 := pow8 (by omega)
    by_cases ha : atF q l l.length u = v
    · refine Ev.step (fun k => ?_) (ih (u + 1) (s + 2 ^ u) (by omega) (by omega) (by omega) (by rw [Nat.pow_succ]; omega) fun i => ?_)
      · rw [drovewayref09_groups.l4, if_pos (by omega), if_pos (by omega), tab_len, if_pos (by omega), rd_tab (by omega), if_pos (by omega), shl_one (by omega), wrapS (show u < 100 by omega) (by omega)]
        congr 1
        rw [wrap64_id (by omega) (by omega)]; omega
      · have e2 := Nat.two_pow_add_eq_or_of_lt hs 1
        rw [Nat.mul_one] at e2
        rw [Nat.add_comm, e2, Nat.testBit_or, tb_two, Bool.or_eq_true, beq_iff_eq, hb]
        constructor
        · rintro (h | h)
          · subst h; exact ⟨hvu, by omega, ha⟩
          · exact ⟨h.1, by omega, h.2.2⟩
        · intro h
          by_cases e : i = u
          · exact Or.inl e
          · exact Or.inr ⟨h.1, by omega, h.2.2⟩
    · refine Ev.step (fun k => ?_) (ih (u + 1) s (by omega) (by omega) (by omega) (by rw [Nat.pow_succ]; omega) fun i => ?_)
      · rw [drovewayref09_groups.l4, if_pos (by omega), if_pos (by omega), tab_len, if_pos (by omega), rd_tab (by omega), if_neg (by omega), wrapS (show u < 100 by omega) (by omega)]
      · rw [hb]
        constructor
        · exact fun h => ⟨h.1, by omega, h.2.2⟩
        · intro h
          have : i ≠ u := fun e => by rw [e] at h; exact ha h.2.2
          exact ⟨h.1, by omega, h.2.2⟩
theorem grp_l3 (hl : okN n l) (h8 : n ≤ 8) : ∀ m v out, n - v = m → v ≤ n → out.length ≤ v → Ev (fun k => drovewayref09_groups.l3 k n (tabL n (atF q l l.length)) out (v : Int)) (out ++ groupsC q n l v) := by
  intro m
  induction m with
  | zero =>
    intro v out hm hv ho
    obtain rfl : v = n := by omega
    refine Ev.step (f := fun _ => some out) (fun k => by rw [drovewayref09_groups.l3, if_neg (by omega)]) ?_
    unfold groupsC
    rw [Nat.sub_self]
    simp only [List.range'_zero, List.filter_nil, List.map_nil, List.append_nil]
    exact Ev.now _
  | succ m ih =>
    intro v out hm hv ho
    have hvn : v < n := by omega
    refine Ev.step (fun k => ?_) (grp_l4 (q := q) (out := out) hl h8 hvn (by omega) ?_ (n - v) v 0 rfl (Nat.le_refl _) hv (Nat.two_pow_pos v) (fun i => ?_))
    · rw [drovewayref09_groups.l3, if_pos (by omega)]; rfl
    · have e : groupsC q n l v = (if leastB q n l v = true then [((classN q n l v : Nat) : Int)] else []) ++ groupsC q n l (v + 1) := by
        unfold groupsC
        rw [show n - v = (n - (v + 1)) + 1 by omega, List.range'_succ, List.filter_cons]
        split <;> rfl
      rw [e]
      by_cases hle : leastB q n l v = true
      · rw [if_pos hle, if_pos hle, ← List.append_assoc]
        exact ih (v + 1) _ (by omega) (by omega) (by rw [List.length_append, List.length_singleton]; omega)
      · rw [if_neg hle, if_neg hle, List.nil_append]
        exact ih (v + 1) _ (by omega) (by omega) (by omega)
    · rw [Nat.zero_testBit]
      exact ⟨fun h => (by cases h), fun h => by omega⟩
theorem mx_nat (a b : Nat) : mx (a : Int) (b : Int) = ((max a b : Nat) : Int) := by
  unfold mx
  split <;> omega
theorem mn_nat (a b : Nat) : mn (a : Int) (b : Int) = ((min a b : Nat) : Int) := by
  unfold mn
  split <;> omega
/-- The row in the midst of a tie's round. -/
def midF (q : S39 → Bool) (l : List S39) (i v u : Nat) : Nat := if u < v then atF q l (i + 1) u else atF q l i u
theorem grp_l2 {fr : Bool} (hl : okN n l) (h8 : n ≤ 8) (hlen : l.length ≤ 1000) {i : Nat} (hi : i < l.length) {R : List Int} (h : Ev (fun k => drovewayref09_groups.l1 k n l fr (tabL n (atF (askT fr) l (i + 1))) ((i + 1 : Nat) : Int)) R) (hq : askT fr (l.getD i z39) = true) :
    ∀ m v, n - v = m → v ≤ n → Ev (fun k => drovewayref09_groups.l2 k n l fr (tabL n (midF (askT fr) l i v)) (i : Int) (atF (askT fr) l i (l.getD i z39).f0.toNat : Int) (atF (askT fr) l i (l.getD i z39).f1.toNat : Int) (v : Int)) R := by
  have hgo : ∀ k v, v < n → drovewayref09_groups.l2 (k + 1) n l fr (tabL n (midF (askT fr) l i v)) (i : Int) (atF (askT fr) l i (l.getD i z39).f0.toNat : Int) (atF (askT fr) l i (l.getD i z39).f1.toNat : Int) (v : Int) = drovewayref09_groups.j3 k n l fr (tabL n (midF (askT fr) l i v)) (i : Int) (atF (askT fr) l i (l.getD i z39).f0.toNat : Int) (atF (askT fr) l i (l.getD i z39).f1.toNat : Int) (v : Int) true := by
    intro k v hv
    rw [drovewayref09_groups.l2, if_pos (by omega)]
    cases fr with
    | false => rfl
    | true =>
      have : (l.getD i z39).f2 = false := by unfold askT friendB at hq; simpa using hq
      rw [if_pos rfl, if_pos (by omega), if_pos (by omega), rdT, this]; rfl
  intro m
  induction m with
  | zero =>
    intro v hm hv
    obtain rfl : v = n := by omega
    refine Ev.step (f := fun k => drovewayref09_groups.j3 k v l fr (tabL v (midF (askT fr) l i v)) (i : Int) (atF (askT fr) l i (l.getD i z39).f0.toNat : Int) (atF (askT fr) l i (l.getD i z39).f1.toNat : Int) (v : Int) false) (fun k => by rw [drovewayref09_groups.l2, if_neg (by omega)]) ?_
    refine Ev.step (fun k => ?_) h
    rw [drovewayref09_groups.j3, if_neg (by decide), wrapS hi (by omega)]
    congr 1
    exact tab_congr fun u hu => by unfold midF; rw [if_pos hu]
  | succ m ih =>
    intro v hm hv
    have hvn : v < n := by omega
    refine Ev.step (fun k => hgo k v hvn) ?_
    refine Ev.step (fun k => ?_) (ih (v + 1) (by omega) (by omega))
    rw [drovewayref09_groups.j3, if_pos rfl, if_pos (by omega), tab_len, if_pos (by omega), rd_tab hvn, mx_nat, mn_nat, wrapS (show v < 100 by omega) (by omega), Int.toNat_natCast, set_tab]
    have hmv : midF (askT fr) l i v v = atF (askT fr) l i v := by unfold midF; rw [if_neg (by omega)]
    rw [hmv]
    by_cases e : atF (askT fr) l i v = max (atF (askT fr) l i (l.getD i z39).f0.toNat) (atF (askT fr) l i (l.getD i z39).f1.toNat)
    · rw [if_pos (by rw [e])]
      congr 1
      refine tab_congr fun u _ => ?_
      unfold midF
      by_cases hu : u = v
      · rw [if_pos hu, if_pos (by omega), hu, atF, if_pos ⟨hq, e⟩]
      · rw [if_neg hu]
        by_cases h1 : u < v
        · rw [if_pos h1, if_pos (by omega)]
        · rw [if_neg h1, if_neg (by omega)]
    · rw [if_neg (by omega)]
      congr 1
      refine tab_congr fun u _ => ?_
      unfold midF
      by_cases hu : u = v
      · rw [if_neg (by omega), if_pos (by omega), hu, atF, if_neg (fun h => e h.2)]
      · by_cases h1 : u < v
        · rw [if_pos h1, if_pos (by omega)]
        · rw [if_neg h1, if_neg (by omega)]
theorem grp_l1 {fr : Bool} (hl : okN n l) (h8 : n ≤ 8) (hlen : l.length ≤ 1000) : ∀ m i, l.length - i = m → i ≤ l.length → Ev (fun k => drovewayref09_groups.l1 k n l fr (tabL n (atF (askT fr) l i)) (i : Int)) (groupsC (askT fr) n l 0) := by
  intro m
  induction m with
  | zero =>
    intro i hm hi
    obtain rfl : i = l.length := by omega
    refine Ev.step (fun k => ?_) (grp_l3 (q := askT fr) hl h8 n 0 [] (by omega) (Nat.zero_le _) (Nat.le_refl _))
    rw [drovewayref09_groups.l1, if_neg (by omega)]; rfl
  | succ m ih =>
    intro i hm hi
    have hil : i < l.length := by omega
    have ht := hl _ (getD_mem z39 hil)
    have hn := ih (i + 1) (by omega) (by omega)
    have hstart : ∀ k, drovewayref09_groups.l1 (k + 1) n l fr (tabL n (atF (askT fr) l i)) (i : Int) = drovewayref09_groups.l2 k n l fr (tabL n (atF (askT fr) l i)) (i : Int) (atF (askT fr) l i (l.getD i z39).f0.toNat : Int) (atF (askT fr) l i (l.getD i z39).f1.toNat : Int) 0 := by
      intro k
      have r0 := rd_tab (n := n) (f := atF (askT fr) l i) (v := (l.getD i z39).f0.toNat) (by omega)
      have r1 := rd_tab (n := n) (f := atF (askT fr) l i) (v := (l.getD i z39).f1.toNat) (by omega)
      rw [Int.toNat_of_nonneg (by omega)] at r0 r1
      rw [drovewayref09_groups.l1, if_pos (by omega), if_pos (by omega), rdT, if_pos (by omega), tab_len, if_pos (by omega), if_pos (by omega), if_pos (by omega), r0, r1]
    refine Ev.step hstart ?_
    cases hq : askT fr (l.getD i z39) with
    | true =>
      refine Ev.congr (fun k => ?_) (grp_l2 hl h8 hlen hil hn hq n 0 (by omega) (Nat.zero_le _))
      congr 1
    | false =>
      have hf : fr = true ∧ (l.getD i z39).f2 = true := by
        cases fr with
        | false => unfold askT anyT at hq; simp at hq
        | true => unfold askT friendB at hq; simpa using hq
      obtain ⟨rfl, hf2⟩ := hf
      have hmid : tabL n (atF (askT true) l i) = tabL n (atF (askT true) l (i + 1)) := tab_congr fun u _ => by rw [atF, if_neg (fun h => by rw [hq] at h; cases h.1)]
      refine Ev.step (f := fun k => drovewayref09_groups.j3 k n l true (tabL n (atF (askT true) l i)) (i : Int) (atF (askT true) l i (l.getD i z39).f0.toNat : Int) (atF (askT true) l i (l.getD i z39).f1.toNat : Int) 0 false) (fun k => ?_) ?_
      · rw [drovewayref09_groups.l2, if_pos (by omega), if_pos rfl, if_pos (by omega), if_pos (by omega), rdT, hf2]; rfl
      · refine Ev.step (fun k => ?_) hn
        rw [drovewayref09_groups.j3, if_neg (by decide), wrapS hil (by omega), hmid]
theorem grp_l0 {fr : Bool} (hl : okN n l) (h8 : n ≤ 8) (hlen : l.length ≤ 1000) : ∀ m v, n - v = m → v ≤ n → Ev (fun k => drovewayref09_groups.l0 k n l fr (tabL n fun u => if u < v then u else 0) (v : Int)) (groupsC (askT fr) n l 0) := by
  intro m
  induction m with
  | zero =>
    intro v hm hv
    obtain rfl : v = n := by omega
    refine Ev.step (fun k => ?_) (grp_l1 (fr := fr) hl h8 hlen l.length 0 (by omega) (Nat.zero_le _))
    rw [drovewayref09_groups.l0, if_neg (by omega)]
    congr 1
    exact tab_congr fun u hu => by rw [if_pos hu]; rfl
  | succ m ih =>
    intro v hm hv
    refine Ev.step (fun k => ?_) (ih (v + 1) (by omega) (by omega))
    rw [drovewayref09_groups.l0, if_pos (by omega), if_pos (by omega), tab_len, if_pos (by omega), wrapS (show v < 100 by omega) (by omega), Int.toNat_natCast, set_tab]
    congr 1
    refine tab_congr fun u _ => ?_
    by_cases hu : u = v
    · rw [if_pos hu, if_pos (by omega), hu]
    · rw [if_neg hu]
      by_cases h1 : u < v
      · rw [if_pos h1, if_pos (by omega)]
      · rw [if_neg h1, if_neg (by omega)]
theorem grp_ev {fr : Bool} (ht : tiesE n l = 0) : Ev (fun k => drovewayref09_groups.f k n l fr) (groupsF (askT fr) n l) := by
  have h1 := tiesE_parts ht
  have hl := tiesE_ok ht
  rw [groups_eq (by omega) hl]
  refine Ev.congr (fun k => ?_) (grp_l0 (fr := fr) hl (by omega) (by omega) n 0 (by omega) (Nat.zero_le _))
  unfold drovewayref09_groups.f
  rw [if_pos (by omega), if_pos (by omega), Int.toNat_natCast, tab_zero]
  congr 1
end
end Go.Proofs.Ytaegldcifhgnmaa.B

/- How many classes there are; the reference's Classes and Same are the program's (plain). -/
namespace Go.Proofs.Ytaegldcifhgnmaa.B
open Go.Proofs.Ytaegldcifhgnmaa.A
open Go.RowKit Go.Proofs.YtaegldcifhgnmaaW.PrintWords Go.Proofs.YtaegldcifhgnmaaW.PrintMore
section
variable {q : S39 → Bool} {l : List S39} {n : Nat}
theorem filter_one {p p' : Nat → Bool} {M : Nat} : ∀ {L : List Nat}, L.Nodup → (∀ v ∈ L, p v = true → v ≠ M → p' v = true) → (L.filter p).length ≤ (L.filter p').length + 1
  | [], _, _ => Nat.zero_le _
  | b :: L, hn, h => by
    have hn' := List.nodup_cons.mp hn
    by_cases e : b = M
    · subst e
      have h1 := (filter_sub (p := p) (p' := p') (L := L) fun v hv hp => h v (List.mem_cons_of_mem b hv) hp (fun e => hn'.1 (e ▸ hv))).1
      have h2 : ((b :: L).filter p).length ≤ (L.filter p).length + 1 := by
        rw [List.filter_cons]
        split
        · exact Nat.le_refl _
        · exact Nat.le_succ _
      have h3 : (L.filter p').length ≤ ((b :: L).filter p').length := by
        rw [List.filter_cons]
        split
        · exact Nat.le_succ _
        · exact Nat.le_refl _
      omega
    · have ih := filter_one (p := p) (p' := p') (M := M) hn'.2 fun v hv => h v (List.mem_cons_of_mem b hv)
      have hb := h b List.mem_cons_self
      rw [List.filter_cons, List.filter_cons]
      cases e1 : p b with
      | false =>
        rw [if_neg (by decide)]
        split
        · rw [List.length_cons]; omega
        · exact ih
      | true => rw [if_pos rfl, if_pos (hb e1 e), List.length_cons, List.length_cons]; omega
def repsK (q : S39 → Bool) (n : Nat) (l : List S39) (k : Nat) : Nat := ((List.range n).filter fun v => atF q l k v == v).length
theorem reps_ge : ∀ k, n ≤ repsK q n l k + k
  | 0 => by
    unfold repsK
    have : (List.range n).filter (fun v => atF q l 0 v == v) = List.range n := List.filter_eq_self.mpr fun v _ => by rw [atF, beq_self_eq_true]
    rw [this, List.length_range]; omega
  | k + 1 => by
    have ih := reps_ge k
    have h := filter_one (p := fun v => atF q l k v == v) (p' := fun v => atF q l (k + 1) v == v) (M := max (atF q l k (l.getD k z39).f0.toNat) (atF q l k (l.getD k z39).f1.toNat)) (L := List.range n) List.nodup_range fun v _ hp hne => by
      rw [beq_iff_eq] at hp ⊢
      rw [atF, if_neg (fun h => hne (by rw [← hp]; exact h.2))]
      exact hp
    unfold repsK at ih ⊢
    omega
theorem groups_count (h8 : n ≤ 8) (hl : okN n l) : (groupsF q n l).length = repsK q n l l.length := by
  rw [groups_eq h8 hl]
  unfold groupsC repsK
  rw [List.length_map, Nat.sub_zero, ← List.range_eq_range']
  congr 1
  refine List.filter_congr fun v hv => ?_
  have hvn := List.mem_range.mp hv
  rw [Bool.eq_iff_iff, beq_iff_eq, atF_is hl hvn]
  exact ⟨fun h => ⟨h, conn_refl v⟩, fun h => h.1⟩
theorem reps_le (k : Nat) : repsK q n l k ≤ n := by
  have := List.length_filter_le (fun v => atF q l k v == v) (List.range n)
  rw [List.length_range] at this
  exact this
theorem class_ok (ht : tiesE n l = 0) : 0 ≤ classK n l ∧ classK n l ≤ 60 := by
  have h1 := tiesE_parts ht
  have h2 := groups_count (q := anyT) (n := n) (by omega) (tiesE_ok ht)
  have h3 := reps_ge (q := anyT) (n := n) (l := l) l.length
  have h4 := reps_le (q := anyT) (n := n) (l := l) l.length
  unfold classK
  rw [h2]
  omega
theorem classes_some (ht : tiesE n l = 0) : feuds_Classes.f n l = some (((2 ^ (classK n l).toNat : Nat) : Int), 0) := by
  unfold feuds_Classes.f
  rw [if_pos ht, Int.toNat_natCast, if_pos (class_ok ht)]
theorem rGroups_ev (ht : tiesE n l = 0) : Ev (fun k => drovewayref09_Groups.f k n l) ((groupsF anyT n l).length : Int) := by
  unfold drovewayref09_Groups.f
  exact Ev.bind (f := fun _ t => some (t.length : Int)) (grp_ev (fr := false) ht) (Ev.now _)
theorem class_wrap (ht : tiesE n l = 0) : wrap64 (wrap64 ((l.length : Int) - n) + (groupsF anyT n l).length) = classK n l := by
  have h := class_ok ht
  have h1 := tiesE_parts ht
  unfold classK at h ⊢
  rw [wrap64_id (n := (l.length : Int) - n) (by omega) (by omega), wrap64_id (by omega) (by omega)]
theorem class_shl (ht : tiesE n l = 0) : shl .i64 1 (classK n l) = ((2 ^ (classK n l).toNat : Nat) : Int) := by
  have h := class_ok ht
  obtain ⟨c, hc⟩ := Int.eq_ofNat_of_zero_le h.1
  rw [hc, shl_one (by omega), Int.toNat_natCast]
theorem rClasses_ev {n : Int} (hl : l.length ≤ 1000) {Y : Int × Int} (hY : feuds_Classes.f n l = some Y) : Ev (fun k => drovewayref09_Classes.f k n l) Y := by
  unfold drovewayref09_Classes.f
  by_cases ht : tiesE n l = 0
  · have h1 := tiesE_parts ht
    obtain ⟨m, rfl⟩ : ∃ m : Nat, n = m := ⟨n.toNat, by omega⟩
    rw [classes_some ht] at hY
    cases hY
    refine Ev.bind (f := fun k t131 => (if t131 = 0 then ((drovewayref09_Groups.f k m l).bind fun t132 => (if 0 ≤ (wrap64 ((wrap64 ((l.length : Int) - m)) + t132)) then (some (shl .i64 1 (wrap64 ((wrap64 ((l.length : Int) - m)) + t132)), 0)) else (none))) else (some (0, t131)))) (Ties_ev (n := (m : Int)) hl) ?_
    rw [ht]
    refine Ev.congr (fun k => if_pos rfl) ?_
    refine Ev.bind (f := fun k t132 => (if 0 ≤ (wrap64 ((wrap64 ((l.length : Int) - m)) + t132)) then (some (shl .i64 1 (wrap64 ((wrap64 ((l.length : Int) - m)) + t132)), 0)) else (none))) (rGroups_ev ht) ?_
    refine Ev.congr (f := fun _ => some _) (fun k => ?_) (Ev.now _)
    rw [class_wrap ht, if_pos (class_ok ht).1, class_shl ht]
  · unfold feuds_Classes.f at hY
    rw [if_neg ht] at hY
    cases hY
    refine Ev.bind (f := fun k t131 => (if t131 = 0 then ((drovewayref09_Groups.f k n l).bind fun t132 => (if 0 ≤ (wrap64 ((wrap64 ((l.length : Int) - n)) + t132)) then (some (shl .i64 1 (wrap64 ((wrap64 ((l.length : Int) - n)) + t132)), 0)) else (none))) else (some (0, t131)))) (Ties_ev (n := n) hl) ?_
    exact Ev.congr (fun k => if_neg ht) (Ev.now _)
end
end Go.Proofs.Ytaegldcifhgnmaa.B
