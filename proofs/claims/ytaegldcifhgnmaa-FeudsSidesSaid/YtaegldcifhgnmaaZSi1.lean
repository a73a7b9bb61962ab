/- The groups of drovers, plain. -/
import Derived.Test.YtaegldcifhgnmaaZSi0
import Derived.KernelRfl
import Derived.Test.YtaegldcifhgnmaaProg
import Derived.Below
import Derived.Deep.Draws
import Derived.Deep.AppendLies
import Derived.Maps.AppendAt
import Derived.OwnWalk
import Derived.Laws.BytesArg
import Derived.Laws.MakeOwn
import Derived.Laws.OwnMore
import Derived.Deep.OwnRows
import Derived.Tactics
import Derived.Lib.ConvBytes
import Derived.Laws.Slices
import Derived.WalkKit
import Derived.RowKit3
import Derived.Deep.LoopGhost
import Derived.Deep.QuietTactic
import Derived.BigQuiet
import Derived.WideLaws
import Derived.Deep.DeepCutAuto
import Derived.Deep.CutBlock
import Derived.Deep.RegionHeld3
import Derived.Laws.Rows
import Derived.Lib.AppendStr
import Derived.ArgAppend
import Derived.Laws.IdiomCopy
import Derived.OrdersHeld
import Derived.Laws.BitsLemmas
import Derived.RowKit
import Derived.Test.YtaegldcifhgnmaaWWords
import Derived.Test.YtaegldcifhgnmaaWLast
import Derived.Test.YtaegldcifhgnmaaWTab
import Derived.Test.YtaegldcifhgnmaaWFour
import Derived.Test.YtaegldcifhgnmaaWQPut
import Derived.Test.YtaegldcifhgnmaaWApart
import Derived.Test.YtaegldcifhgnmaaWArr
import Derived.Test.YtaegldcifhgnmaaWZeros
import Derived.Test.YtaegldcifhgnmaaWFoot
import Derived.Test.YtaegldcifhgnmaaWKept
import Derived.Test.YtaegldcifhgnmaaWShare
import Derived.Test.YtaegldcifhgnmaaWN
import Derived.Test.YtaegldcifhgnmaaWFootNe
import Derived.Test.YtaegldcifhgnmaaWAt
import Derived.Test.YtaegldcifhgnmaaWEqStruct
import Derived.Test.YtaegldcifhgnmaaWRepsOne
import Derived.Test.YtaegldcifhgnmaaWInv
import Derived.Test.YtaegldcifhgnmaaWInvWords
import Derived.Test.YtaegldcifhgnmaaWGuard
import Derived.Test.YtaegldcifhgnmaaWNEv
import Derived.Test.YtaegldcifhgnmaaWMore
/- The groups of drovers, plain. -/
namespace Go.Proofs.Ytaegldcifhgnmaa.A
open Go.RowKit Go.Proofs.YtaegldcifhgnmaaW.PrintWords Go.Proofs.YtaegldcifhgnmaaW.PrintMore

/-- a without b. -/
def less (a b : Nat) : Nat := a ^^^ (a &&& b)
theorem tb_less (a b i : Nat) : (less a b).testBit i = (a.testBit i && !b.testBit i) := by
  unfold less
  rw [Nat.testBit_xor, Nat.testBit_and]
  cases a.testBit i <;> cases b.testBit i <;> rfl
theorem less_lt {a b k : Nat} (h : a < 2 ^ k) : less a b < 2 ^ k := Nat.xor_lt_two_pow h (Nat.lt_of_le_of_lt Nat.and_le_left h)
theorem andNot64 (a b : Nat) (ha : a < 2 ^ 62) (_hb : b < 2 ^ 62) : bits .andNot .i64 (a : Int) (b : Int) = ((less a b : Nat) : Int) := by
  have e : (BitVec.ofInt IntKind.i64.bits (a : Int) &&& ~~~ BitVec.ofInt IntKind.i64.bits (b : Int)).toNat = less a b := by
    rw [BitVec.ofInt_natCast, BitVec.ofInt_natCast]
    apply Nat.eq_of_testBit_eq
    intro i
    rw [tb_less, BitVec.testBit_toNat, BitVec.getLsbD_and, BitVec.getLsbD_not, BitVec.getLsbD_ofNat, BitVec.getLsbD_ofNat]
    by_cases hi : i < IntKind.i64.bits
    · simp [hi]
    · rw [tb_big ha (j := i) (by have : IntKind.i64.bits = 64 := rfl; omega)]
      simp
  show IntKind.i64.wrap _ = _
  simp only [e]
  exact wrap64_nat _ (by omega) (by exact_mod_cast less_lt ha)

/-- The least drover of a set, as a set. -/
def lowB (x : Nat) : Nat := less x (x - 1)
theorem low_table : (List.range 256).all (fun x => decide (bits .and .i64 (x : Int) (-(x : Int)) = (lowB x : Int))) = true := by decide +kernel
theorem low_ask {x : Nat} (h : x < 256) : bits .and .i64 (x : Int) (-(x : Int)) = (lowB x : Int) := by
  have := List.all_eq_true.1 low_table x (List.mem_range.2 h)
  exact of_decide_eq_true this

def pairB (t : S39) : Nat := 2 ^ t.f0.toNat ||| 2 ^ t.f1.toNat
/-- A set, with the drovers that a tie adds. -/
def addT (q : S39 → Bool) (t : S39) (x : Nat) : Nat := if q t = true ∧ x &&& pairB t ≠ 0 then x ||| pairB t else x
/-- With those that the first k ties add, one after another. -/
def addK (q : S39 → Bool) (l : List S39) (x : Nat) : Nat → Nat
  | 0 => x
  | k + 1 => addT q (l.getD k z39) (addK q l x k)
def spread (q : S39 → Bool) (l : List S39) (x : Nat) : Nat → Nat
  | 0 => x
  | k + 1 => addK q l (spread q l x k) l.length
/-- The groups of those that are left. -/
def groupsL (q : S39 → Bool) (n : Nat) (l : List S39) : Nat → Nat → List Int
  | 0, _ => []
  | f + 1, left => if left = 0 then [] else ((spread q l (lowB left) n : Nat) : Int) :: groupsL q n l f (less left (spread q l (lowB left) n))
def groupsF (q : S39 → Bool) (n : Nat) (l : List S39) : List Int := groupsL q n l (2 ^ n) (2 ^ n - 1)

theorem addT_sup {q : S39 → Bool} {t : S39} {x i : Nat} (h : x.testBit i = true) : (addT q t x).testBit i = true := by
  unfold addT
  split
  · rw [Nat.testBit_or, h]; rfl
  · exact h
theorem addK_sup {q : S39 → Bool} {l : List S39} {x i : Nat} (h : x.testBit i = true) : ∀ k, (addK q l x k).testBit i = true
  | 0 => h
  | k + 1 => addT_sup (addK_sup h k)
theorem spread_sup {q : S39 → Bool} {l : List S39} {x i : Nat} (h : x.testBit i = true) : ∀ k, (spread q l x k).testBit i = true
  | 0 => h
  | k + 1 => addK_sup (spread_sup h k) _
/-- Ties of m drovers. -/
def okN (m : Nat) (l : List S39) : Prop := ∀ t ∈ l, 0 ≤ t.f0 ∧ t.f0 < m ∧ 0 ≤ t.f1 ∧ t.f1 < m
theorem pairB_lt {m : Nat} {t : S39} (h : 0 ≤ t.f0 ∧ t.f0 < m ∧ 0 ≤ t.f1 ∧ t.f1 < m) : pairB t < 2 ^ m :=
  or_lt (Nat.pow_lt_pow_right (by decide) (by omega)) (Nat.pow_lt_pow_right (by decide) (by omega))
theorem addK_lt {q : S39 → Bool} {l : List S39} {x m : Nat} (hl : okN m l) (hx : x < 2 ^ m) : ∀ k, k ≤ l.length → addK q l x k < 2 ^ m
  | 0, _ => hx
  | k + 1, hk => by
    unfold addK addT
    split
    · exact or_lt (addK_lt hl hx k (by omega)) (pairB_lt (hl _ (getD_mem z39 (by omega))))
    · exact addK_lt hl hx k (by omega)
theorem spread_lt {q : S39 → Bool} {l : List S39} {x m : Nat} (hl : okN m l) (hx : x < 2 ^ m) : ∀ k, spread q l x k < 2 ^ m
  | 0 => hx
  | k + 1 => addK_lt hl (spread_lt hl hx k) _ (Nat.le_refl _)
theorem lowB_lt {x m : Nat} (h : x < 2 ^ m) : lowB x < 2 ^ m := less_lt h
theorem low_bit_table : (List.range 256).all (fun x => x == 0 || (List.range 8).any fun i => x.testBit i && (lowB x).testBit i) = true := by decide +kernel
theorem low_bit {x : Nat} (h : x < 256) (h0 : x ≠ 0) : ∃ i, x.testBit i = true ∧ (lowB x).testBit i = true := by
  have := List.all_eq_true.1 low_bit_table x (List.mem_range.2 h)
  rw [Bool.or_eq_true, beq_iff_eq] at this
  rcases this with h1 | h1
  · exact absurd h1 h0
  · obtain ⟨i, _, hi⟩ := List.any_eq_true.1 h1
    rw [Bool.and_eq_true] at hi
    exact ⟨i, hi.1, hi.2⟩
theorem less_le (a b : Nat) : less a b ≤ a := by
  have : a &&& less a b = less a b := by
    apply Nat.eq_of_testBit_eq
    intro i
    rw [Nat.testBit_and, tb_less]
    cases a.testBit i <;> simp
  rw [← this]
  exact Nat.and_le_left
theorem less_dec {a b i : Nat} (ha : a.testBit i = true) (hb : b.testBit i = true) : less a b < a := by
  have h1 := less_le a b
  rcases Nat.lt_or_eq_of_le h1 with h | h
  · exact h
  · have := tb_less a b i
    rw [h, ha, hb] at this
    cases this
end Go.Proofs.Ytaegldcifhgnmaa.A

/- The groups of drovers: the walk. -/
namespace Go.Proofs.Ytaegldcifhgnmaa.A
open Go.RowKit Go.Proofs.YtaegldcifhgnmaaW.PrintWords Go.Proofs.YtaegldcifhgnmaaW.PrintMore

/-- A function value that says of a tie whether something is true of it. -/
structure SaysT (gq : Nat) (q : S39 → Bool) : Prop where
  enters : ∀ args w, (callFunc gq args).run Try.prog w = .ok (.enter gq args) w
  call : ∀ (t : S39) (W : World), Calls Try.prog gq #[.agg #[.int .i64 t.f0, .int .i64 t.f1, .bool t.f2]] W fun e w' => e = .returned (.bool (q t)) ∧ Below W.heap.size W w'

/-- What is held. -/
structure Held (w : World) (n : Nat) (A : Option Addr) (c : Nat) (l : List S39) (v : Value) (out : List Int) (W : World) : Prop where
  net : W.heap[w.heap.size]? = some (.cells #[.int .i64 n, .slice A l.length c] 59 (0, 0))
  below : Below w.heap.size w W
  row : Kd.R (Kd.int .i64) 3 W (w.heap.size + 1) (fun _ => True) v out
theorem held_next {w W W' : World} {n : Nat} {A : Option Addr} {c : Nat} {l : List S39} {v : Value} {out : List Int} (h : Held w n A c l v out W) (hb : Below W.heap.size W W') : Held w n A c l v out W' :=
  ⟨(hb.block _ (blk_lt h.net)).trans h.net, below_then h.below h.below.size hb, Kd.R_below h.row hb⟩

set_option maxRecDepth 100000 in
set_option maxHeartbeats 3200000 in
theorem groups_calls (gq : Nat) (q : S39 → Bool) (hsay : SaysT gq q) (n : Nat) (hn : n ≤ 8) (A : Option Addr) (c : Nat) (l : List S39) (hok : okN n l) (hl : l.length ≤ 1000) (w : World) (hr : Kd.C k39 w A l.length l) :
    Calls Try.prog 52 #[.agg #[.int .i64 n, .slice A l.length c], .func (.func gq) #[] #[]] w fun e w' => ∃ v, e = .returned v ∧ Kd.R (Kd.int .i64) 3 w' w.heap.size (fun _ => True) v (sortI (groupsF q n l)) ∧ Below w.heap.size w w' := by
  have HS := Aside0.mk hsay
  have HR := Aside0.mk hr
  have HO := Aside0.mk hok
  have eg := hsay.enters
  have hg0 := heap_alloc_new w (.cells #[.int .i64 n, .slice A l.length c] 59)
  have hb0 : Below w.heap.size w (w.alloc (.cells #[.int .i64 n, .slice A l.length c] 59)) := below_alloc (Below.refl _ _) _
  have H0 := Aside0.mk (And.intro hg0 hb0)
  obtain ⟨F, hF⟩ : ∃ F, groupsF q n l = F := ⟨_, rfl⟩
  have HF := Aside0.mk hF
  have hp8 := pow8 hn
  have hw : wrap64 (2 ^ n) = ((2 ^ n : Nat) : Int) := by rw [wrap64_two (by omega), pow_cast]
  obtain ⟨N, hN⟩ : ∃ N, 2 ^ n = N := ⟨_, rfl⟩
  have hN1 : 1 ≤ N := by rw [← hN]; exact Nat.two_pow_pos n
  rw [hF]
  rw [hN] at hw hp8
  have HN := Aside0.mk hN
  clear hsay hr hok hg0 hb0 hF hN
  go_enter Try.func52, Try.ntmps52
  go_wp2
  rw [hw]
  clear hw
  have hstart : Aside0 (Held w n A c l (.slice none 0 0) [] (w.alloc (.cells #[.int .i64 n, .slice A l.length c] 59))) := ⟨⟨H0.out.1, H0.out.2, Kd.R_nil _ _ _ _ _⟩⟩
  go_loopg [5, 6, 7, 9, 10] N (fun gg v5 v6 _ _ _ wr => ∃ (f left : Nat) (out : List Int), v6 = .int .i64 left ∧ left < N ∧ f ≤ gg ∧ left ≤ f ∧ out.length + f ≤ 256 ∧ Aside0 (Held w n A c l v5 out wr) ∧ Aside0 (out ++ groupsL q n l f left = F))
  case atStart => exact ⟨N, N - 1, [], by go_num, by omega, by omega, by omega, by simpa using hp8, hstart, ⟨by rw [← HF.out, groupsF, HN.out]; rfl⟩⟩
  case round =>
    clear hstart
    obtain ⟨f, left, out, rfl, hlN, hfg, hlf, hof, HW, HE⟩ := hrel
    obtain ⟨n0, n1, _, _⟩ := cells2 HW.out.net
    by_cases h0 : 0 < left
    · have hz : (0 : Int) < (left : Int) := by omega
      obtain ⟨f, rfl⟩ : ∃ f', f = f' + 1 := ⟨f - 1, by omega⟩
      have hlow := low_ask (x := left) (by omega)
      have hlb : Aside0 (lowB left < 2 ^ n) := ⟨lowB_lt (by rw [HN.out]; exact hlN)⟩
      obtain ⟨x0, hx0⟩ : ∃ x0, lowB left = x0 := ⟨_, rfl⟩
      rw [hx0] at hlow hlb
      have HX0 := Aside0.mk hx0
      clear hx0
      go_wp2
      obtain ⟨wo, rfl⟩ : ∃ wo : World, wo = wr := ⟨_, rfl⟩
      clear n0 n1 hlow
      go_loopg [7, 9, 10, 23] n (fun g2 v7 _ _ v23 wr => ∃ r : Nat, r ≤ n ∧ n - r ≤ g2 ∧ v23 = .int .i64 r ∧ v7 = .int .i64 (spread q l x0 r) ∧ Aside0 (Held w n A c l u5 out wr))
      case atStart => exact ⟨0, Nat.zero_le _, by omega, rfl, rfl, HW⟩
      case round =>
        clear HW
        obtain ⟨r, hrn, hg2, rfl, rfl, HW⟩ := hrel
        obtain ⟨n0, n1, _, _⟩ := cells2 HW.out.net
        by_cases hrlt : r < n
        · have hrz : (r : Int) < (n : Int) := by omega
          go_wp2
          obtain ⟨wo2, rfl⟩ : ∃ wo : World, wo = wr := ⟨_, rfl⟩
          clear n0 n1
          obtain ⟨y, hy⟩ : ∃ y, spread q l x0 r = y := ⟨_, rfl⟩
          have HYY := Aside0.mk hy
          have hyl : Aside0 (y < 2 ^ n) := ⟨by rw [← hy]; exact spread_lt HO.out hlb.out r⟩
          rw [hy]
          clear hy
          go_loopg [7, 9, 10, 28] l.length (fun g3 v7 _ _ v28 wr => ∃ k : Nat, k ≤ l.length ∧ l.length - k ≤ g3 ∧ v28 = .int .i64 k ∧ v7 = .int .i64 (addK q l y k) ∧ Aside0 (Held w n A c l u5 out wr))
          case atStart => exact ⟨0, Nat.zero_le _, by omega, rfl, rfl, HW⟩
          case round =>
            clear HW
            obtain ⟨k, hkl, hg3, rfl, rfl, HW⟩ := hrel
            by_cases hklt : k < l.length
            · have hkz : (k : Int) < (l.length : Int) := by omega
              obtain ⟨ad, rfl, hx0, hx1, hx2⟩ := at_T39 (Kd.C_below HR.out HW.out.below) (k : Int) (by omega) (by omega)
              rw [Int.toNat_natCast] at hx0 hx1 hx2
              have hrd : rd_T39 l (k : Int) = l.getD k z39 := by simp [rd_T39]
              rw [hrd] at hx0 hx1 hx2
              have hts := HO.out _ (getD_mem z39 hklt)
              have hsuc : addK q l y (k + 1) = addT q (l.getD k z39) (addK q l y k) := rfl
              have hxl := addK_lt (q := q) HO.out hyl.out k (by omega)
              generalize hy : l.getD k z39 = t at hx0 hx1 hx2 hts hsuc
              obtain ⟨a, b, f⟩ := t
              dsimp only at hx0 hx1 hx2 hts
              obtain ⟨h1, h2, h3, h4⟩ := hts
              obtain ⟨a, rfl⟩ := Int.eq_ofNat_of_zero_le h1
              obtain ⟨b, rfl⟩ := Int.eq_ofNat_of_zero_le h3
              have hPl : pairB ⟨a, b, f⟩ < 2 ^ n := pairB_lt ⟨h1, h2, h3, h4⟩
              obtain ⟨P, hP⟩ : ∃ P, pairB ⟨a, b, f⟩ = P := ⟨_, rfl⟩
              have hP2 : 2 ^ a ||| 2 ^ b = P := hP
              rw [hP] at hPl
              have HSU : Aside0 (addK q l y (k + 1) = if q ⟨a, b, f⟩ = true ∧ addK q l y k &&& P ≠ 0 then addK q l y k ||| P else addK q l y k) := ⟨by rw [hsuc, addT, hP]⟩
              obtain ⟨x, hx⟩ : ∃ x, addK q l y k = x := ⟨_, rfl⟩
              rw [hx] at hxl HSU ⊢
              have hor0 : bits .or .i64 (2 ^ a) (2 ^ b) = (P : Int) := by rw [pow_cast, pow_cast, or64 (2 ^ a) (2 ^ b) (two_lt (by omega)) (two_lt (by omega)), hP2]
              have hpa : IntKind.i64.wrap ((2 : Int) ^ a) = 2 ^ a := by rw [pow_cast]; exact wrap64_nat _ (Int.natCast_nonneg _) (by exact_mod_cast two_lt (show a < 62 by omega))
              have hpb : IntKind.i64.wrap ((2 : Int) ^ b) = 2 ^ b := by rw [pow_cast]; exact wrap64_nat _ (Int.natCast_nonneg _) (by exact_mod_cast two_lt (show b < 62 by omega))
              have hand : bits .and .i64 (x : Int) (P : Int) = ((x &&& P : Nat) : Int) := and64 x P (lt62 hxl (by omega)) (lt62 hPl (by omega))
              have horx : bits .or .i64 (x : Int) (P : Int) = ((x ||| P : Nat) : Int) := or64 x P (lt62 hxl (by omega)) (lt62 hPl (by omega))
              have HORX := Aside0.mk horx
              have HAND := Aside0.mk hand
              clear hrd hsuc hy hP hP2 hx hxl hPl horx hand h1 h3
              cases hqq : q ⟨a, b, f⟩ with
              | false =>
                have HQ := Aside0.mk hqq
                have HX : Aside0 (x = addK q l y (k + 1)) := ⟨by rw [HSU.out, if_neg (fun h => by rw [hqq] at h; cases h.1)]⟩
                clear hqq
                go_wp2
                go_quiet (fail)
                clear hor0 hpa hpb
                have HW2 := Aside0.mk (held_next HW.out (pw_below_drewN (below_alloc (Below.refl wr.heap.size wr) (.cells #[.int .i64 (a : Int), .int .i64 (b : Int), .bool f] 39)) nq))
                go_wp2_with (go_at_fn gq; go_must (refine (HS.out.call ⟨a, b, f⟩ _).mono ?_; rw [HQ.out]; rintro e w3 ⟨rfl, hb3⟩; have HW3 := Aside0.mk (held_next HW2.out hb3); clear hb3))
                go_roundg (l.length - (k + 1))
                case measure => omega
                case rel => exact ⟨k + 1, by omega, by omega, by go_num, by rw [← HX.out], HW3⟩
              | true =>
                have HQ := Aside0.mk hqq
                by_cases hz : x &&& P = 0
                · have hzz : (bits .and .i64 (x : Int) (P : Int) != 0) = false := by rw [HAND.out, hz]; rfl
                  have HX : Aside0 (x = addK q l y (k + 1)) := ⟨by rw [HSU.out, if_neg (fun h => h.2 hz)]⟩
                  clear hqq hz
                  go_wp2
                  go_quiet (fail)
                  clear hor0 hpa hpb
                  have HW2 := Aside0.mk (held_next HW.out (pw_below_drewN (below_alloc (Below.refl wr.heap.size wr) (.cells #[.int .i64 (a : Int), .int .i64 (b : Int), .bool f] 39)) nq))
                  go_wp2_with (go_at_fn gq; go_must (refine (HS.out.call ⟨a, b, f⟩ _).mono ?_; rw [HQ.out]; rintro e w3 ⟨rfl, hb3⟩; have HW3 := Aside0.mk (held_next HW2.out hb3); clear hb3))
                  go_roundg (l.length - (k + 1))
                  case measure => omega
                  case rel => exact ⟨k + 1, by omega, by omega, by go_num, by rw [← HX.out], HW3⟩
                · have hzz : (bits .and .i64 (x : Int) (P : Int) != 0) = true := by rw [HAND.out, bne_iff_ne]; omega
                  have HX : Aside0 (addK q l y (k + 1) = x ||| P) := ⟨by rw [HSU.out, if_pos ⟨hqq, hz⟩]⟩
                  have horx := HORX.out
                  clear hqq hz
                  go_wp2
                  go_quiet (fail)
                  clear hor0 hpa hpb
                  have HW2 := Aside0.mk (held_next HW.out (pw_below_drewN (below_alloc (Below.refl wr.heap.size wr) (.cells #[.int .i64 (a : Int), .int .i64 (b : Int), .bool f] 39)) nq))
                  go_wp2_with (go_at_fn gq; go_must (refine (HS.out.call ⟨a, b, f⟩ _).mono ?_; rw [HQ.out]; rintro e w3 ⟨rfl, hb3⟩; have HW3 := Aside0.mk (held_next HW2.out hb3); clear hb3))
                  go_roundg (l.length - (k + 1))
                  case measure => omega
                  case rel => exact ⟨k + 1, by omega, by omega, by go_num, by rw [HX.out], HW3⟩
            · have hkz : ¬ (k : Int) < (l.length : Int) := by omega
              have hke : k = l.length := by omega
              have HK : Aside0 (addK q l y k = spread q l x0 (r + 1)) := ⟨by rw [hke, ← HYY.out]; rfl⟩
              rw [HK.out]
              clear hke
              go_wp2
              go_roundg (n - (r + 1))
              case measure => omega
              case rel => exact ⟨r + 1, by omega, by omega, by go_num, rfl, HW⟩
        · have hrz : ¬ (r : Int) < (n : Int) := by omega
          have hre : r = n := by omega
          obtain ⟨A1, c1, hv1, hc1, _⟩ := Kd.R_reads HW.out.row
          subst hv1
          clear hc1
          obtain ⟨x, hx⟩ : ∃ x, spread q l x0 r = x := ⟨_, rfl⟩
          have hxl : x < 2 ^ n := by rw [← hx]; exact spread_lt HO.out hlb.out r
          have hsub : less left x < left := by
            obtain ⟨i, hi1, hi2⟩ := low_bit (x := left) (by omega) (by omega)
            rw [HX0.out] at hi2
            exact less_dec hi1 (by rw [← hx]; exact spread_sup hi2 r)
          have hnot : bits .andNot .i64 (left : Int) (x : Int) = ((less left x : Nat) : Int) := andNot64 left x (by omega) (lt62 hxl (by omega))
          have HG : Aside0 (groupsL q n l (f + 1) left = (x : Int) :: groupsL q n l f (less left x)) := ⟨by rw [groupsL, if_neg (by omega), HX0.out]; rw [hre] at hx; rw [hx]⟩
          rw [hx]
          have hre' : (r : Int) = n := by omega
          clear hx hre hxl
          go_wp2_with (at_builtin; go_must (refine Kd.R_append (Kd.int .i64) (w0 := wr) (w.heap.size + 1) rfl (.tmp 53) (.tmp 55) 28 3 (.int .i64 0) 8 rfl Try.underlying28 info3 rfl (by decide) (by omega) (.slice A1 out.length c1) out (x : Int) [.int .i64 (x : Int)] (fun _ => True) (fun _ => False) rfl rfl rfl (fun _ hk => hk.elim) (fun _ _ => trivial) HW.out.row (Below.refl _ _) (by have := blk_lt HW.out.net; omega) (by omega) ?_; intro v4 w4 ho hbb hg4 hat; have HW4 : Aside0 (Held w n A c l v4 (out ++ [(x : Int)]) w4) := ⟨⟨(hg4.block _ (blk_lt HW.out.net) (fun e => by have := Kd.R_base HW.out.row _ e.symm; omega)).trans HW.out.net, HW.out.below.grown hg4 HW.out.below.size (fun k hk => by have := Kd.R_base HW.out.row k hk; omega), ho⟩⟩; clear ho hbb hg4 hat))
          go_roundg f
          case measure => omega
          case rel => exact ⟨f, less left x, out ++ [(x : Int)], rfl, by omega, Nat.le_refl _, by omega, by rw [List.length_append, List.length_singleton]; omega, HW4, ⟨by rw [← HE.out, HG.out, List.append_assoc]; rfl⟩⟩
    · have hz : ¬ (0 : Int) < (left : Int) := by omega
      have hl0 : left = 0 := by omega
      have HFF : Aside0 (out = F) := ⟨by rw [← HE.out, hl0]; cases f <;> simp [groupsL]⟩
      have hlen : out.length ≤ 1000 := by omega
      clear hl0
      go_wp2_with (go_at_call 78; go_must (refine (sort_any HW.out.row hlen).mono ?_; rintro e w2 ⟨rfl, hr2, hg2⟩; have HR2 := Aside0.mk hr2; have HB2 := Aside0.mk (HW.out.below.grown hg2 HW.out.below.size (fun k hk => by have := Kd.R_base HW.out.row k hk; omega)); clear hr2 hg2))
      go_ret
      exact ⟨_, rfl, by rw [← HFF.out]; exact Kd.R_lower HR2.out (by omega), HB2.out⟩
end Go.Proofs.Ytaegldcifhgnmaa.A

/- Classes and Clans: what they return. -/
namespace Go.Proofs.Ytaegldcifhgnmaa.A
open Go.RowKit Go.Proofs.YtaegldcifhgnmaaW.PrintWords Go.Proofs.YtaegldcifhgnmaaW.PrintMore

def friendB (t : S39) : Bool := !t.f2
def anyT (_ : S39) : Bool := true
theorem enters53 : ∀ args w, (callFunc 53 args).run Try.prog w = .ok (.enter 53 args) w := enters_of Try.func53 (by kernel_rfl) rfl
theorem enters60 : ∀ args w, (callFunc 60 args).run Try.prog w = .ok (.enter 60 args) w := enters_of Try.func60 (by kernel_rfl) rfl
theorem enters55 : ∀ args w, (callFunc 55 args).run Try.prog w = .ok (.enter 55 args) w := enters_of Try.func55 (by kernel_rfl) rfl
set_option maxRecDepth 100000 in
set_option maxHeartbeats 400000 in
theorem friend_calls (t : S39) (W : World) : Calls Try.prog 53 #[.agg #[.int .i64 t.f0, .int .i64 t.f1, .bool t.f2]] W fun e w' => e = .returned (.bool (friendB t)) ∧ Below W.heap.size W w' := by
  have HB := Aside0.mk (below_alloc (Below.refl W.heap.size W) (.cells #[.int .i64 t.f0, .int .i64 t.f1, .bool t.f2] 39))
  unfold friendB
  go_enter Try.func53, Try.ntmps53
  go_wp2
  go_ret
  exact ⟨rfl, HB.out⟩
theorem says_friend : SaysT 53 friendB := ⟨enters53, friend_calls⟩
set_option maxRecDepth 100000 in
set_option maxHeartbeats 400000 in
theorem any_calls (t : S39) (W : World) : Calls Try.prog 60 #[.agg #[.int .i64 t.f0, .int .i64 t.f1, .bool t.f2]] W fun e w' => e = .returned (.bool (anyT t)) ∧ Below W.heap.size W w' := by
  have HB := Aside0.mk (below_alloc (Below.refl W.heap.size W) (.cells #[.int .i64 t.f0, .int .i64 t.f1, .bool t.f2] 39))
  unfold anyT
  go_enter Try.func60, Try.ntmps60
  go_wp2
  go_ret
  exact ⟨rfl, HB.out⟩
theorem says_any : SaysT 60 anyT := ⟨enters60, any_calls⟩

theorem tiesE_ok {m : Nat} {l : List S39} (h : tiesE m l = 0) : okN m l := by
  obtain ⟨hn, hl, ho⟩ := tiesE_parts h
  intro t ht
  obtain ⟨i, hi, rfl⟩ := List.mem_iff_getElem.1 ht
  have := okT_parts (okTies_parts ho hi).1
  rw [List.getD_eq_getElem?_getD, List.getElem?_eq_getElem hi] at this
  simp only [Option.getD_some] at this
  omega

/-! ### Classes -/
def classK (n : Nat) (l : List S39) : Int := (l.length : Int) - n + (groupsF anyT n l).length
def feuds_Classes.f (a0 : Int) (l1 : List S39) : Option (Int × Int) :=
  if tiesE a0 l1 = 0 then (if 0 ≤ classK a0.toNat l1 ∧ classK a0.toNat l1 ≤ 60 then some (((2 ^ (classK a0.toNat l1).toNat : Nat) : Int), 0) else none) else some (0, tiesE a0 l1)

set_option maxRecDepth 100000 in
set_option maxHeartbeats 800000 in
theorem Classes_err (n : Int) (A : Option Addr) (c : Nat) (l : List S39) (w : World) (hr : Kd.C k39 w A l.length l) (E : Int) (h : tiesE n l = E) (h0 : E ≠ 0) :
    Calls Try.prog 32 #[.int .i64 n, .slice A l.length c] w fun e w' => e = .returned (.tuple #[.int .i64 0, .int .i64 E]) ∧ Below w.heap.size w w' := by
  have HR := Aside0.mk hr
  have HE := Aside0.mk h
  have hg := errne h0
  have H0 := Aside0.mk h0
  clear hr h h0
  go_enter Try.func32, Try.ntmps32
  go_wp2_with (go_at_call 46; refine (read_err HR.out HE.out H0.out).mono ?_; rintro e w' ⟨rfl, hb'⟩; have HB := Aside0.mk hb'; clear hb')
  go_ret2
  exact ⟨rfl, below_alloc HB.out _⟩

set_option maxRecDepth 100000 in
set_option maxHeartbeats 800000 in
theorem Classes_good (m : Nat) (A : Option Addr) (c : Nat) (l : List S39) (w : World) (hr : Kd.C k39 w A l.length l) (h : tiesE m l = 0) (k : Nat) (hk : classK m l = k) (hk60 : k ≤ 60) :
    Calls Try.prog 32 #[.int .i64 m, .slice A l.length c] w fun e w' => e = .returned (.tuple #[.int .i64 ((2 ^ k : Nat) : Int), .int .i64 0]) ∧ Below w.heap.size w w' := by
  have hm : m ≤ 8 := by have := (tiesE_parts h).1; omega
  have hl20 : l.length ≤ 20 := (tiesE_parts h).2.1
  have HR := Aside0.mk hr
  have HS := Aside0.mk (tiesE_ok h)
  have HE := Aside0.mk h
  obtain ⟨G, hG⟩ : ∃ G, (sortI (groupsF anyT m l)).length = G := ⟨_, rfl⟩
  have hkk : (l.length : Int) - m + G = k := by rw [← hG, sortI_len]; exact hk
  have HG := Aside0.mk hG
  have hp : wrap64 (2 ^ k) = ((2 ^ k : Nat) : Int) := by rw [wrap64_two (by omega), pow_cast]
  obtain ⟨P, hP⟩ : ∃ P, 2 ^ k = P := ⟨_, rfl⟩
  rw [hP] at hp ⊢
  clear hr h hk hG hP
  go_enter Try.func32, Try.ntmps32
  go_wp2_with (first
    | (go_at_call 46; refine (read_good HR.out HE.out).mono ?_; rintro e w1 ⟨rfl, hb1⟩; have HB1 := Aside0.mk (below_alloc hb1 (.cells #[.int .i64 (m : Int), .slice A l.length c] 59)); clear hb1)
    | (go_at_call 52; go_must (refine (groups_calls 60 anyT says_any m hm A c l HS.out (by omega) _ (Kd.C_below HR.out HB1.out)).mono ?_; rintro e w2 ⟨v2, rfl, hr2, hb2⟩; have HB2 := Aside0.mk (below_then HB1.out HB1.out.size hb2); obtain ⟨A2, c2, hv2, hc2, _⟩ := Kd.R_reads hr2; rw [HG.out] at hv2; subst hv2; clear hr2 hb2 hc2)))
  go_ret2
  rw [hp]
  exact ⟨rfl, HB2.out⟩
theorem feuds_Classes.calls (a0 : Int) (A1 : Option Addr) (c1 : Nat) (l1 : List S39) (r1 : Int) (r2 : Int) (w : World) (hr1 : Kd.C k39 w A1 l1.length l1) (_hc1 : l1.length ≤ c1) (h : feuds_Classes.f a0 l1 = some (r1, r2)) :
    Calls Try.prog 32 #[.int .i64 a0, .slice A1 l1.length c1] w fun e w' => e = .returned (.tuple #[.int .i64 r1, .int .i64 r2]) ∧ Below w.heap.size w w' := by
  unfold feuds_Classes.f at h
  by_cases h0 : tiesE a0 l1 = 0
  · rw [if_pos h0] at h
    have h1 := tiesE_parts h0
    obtain ⟨m, rfl⟩ : ∃ m : Nat, a0 = m := ⟨a0.toNat, by omega⟩
    rw [Int.toNat_natCast] at h
    by_cases hk : 0 ≤ classK m l1 ∧ classK m l1 ≤ 60
    · rw [if_pos hk] at h
      cases h
      exact Classes_good m A1 c1 l1 w hr1 h0 (classK m l1).toNat (by omega) (by omega)
    · rw [if_neg hk] at h; cases h
  · rw [if_neg h0] at h
    cases h
    exact Classes_err a0 A1 c1 l1 w hr1 _ rfl h0

/-! ### Clans -/
def bothB (t : S39) (x : Int) : Bool := x.toNat.testBit t.f0.toNat && x.toNat.testBit t.f1.toNat
def clashB (l : List S39) (G : List Int) (k : Nat) : Bool := (List.range k).any fun i => (l.getD i z39).f2 && G.any (bothB (l.getD i z39))
def clansF (n : Int) (l : List S39) : List Int × Int :=
  if tiesE n l = 0 then (if clashB l (sortI (groupsF friendB n.toNat l)) l.length = true then ([], 10) else (sortI (groupsF friendB n.toNat l), 0)) else ([], tiesE n l)
theorem clashB_succ (l : List S39) (G : List Int) (k : Nat) : clashB l G (k + 1) = (clashB l G k || ((l.getD k z39).f2 && G.any (bothB (l.getD k z39)))) := by
  unfold clashB
  rw [List.range_succ, List.any_append, List.any_cons, List.any_nil, Bool.or_false]

set_option maxRecDepth 100000 in
set_option maxHeartbeats 800000 in
theorem both_pred (a b : Nat) (f : Bool) (ha : a < 60) (hb : b < 60) (G : List Int) (hG : ∀ x ∈ G, 0 ≤ x ∧ x < 4611686018427387904) (g : Nat) (w : World) (hc : w.heap[g]? = some (.cells #[.int .i64 a, .int .i64 b, .bool f] 39 (0, 0))) :
    PredB 55 #[.pointer (some ⟨g, 0, none⟩)] (fun x => .int .i64 x) (bothB ⟨a, b, f⟩) G w := by
  intro W x hx hbl
  obtain ⟨h0, h1⟩ := hG x hx
  obtain ⟨y, rfl⟩ := Int.eq_ofNat_of_zero_le h0
  obtain ⟨c0, c1, _, _, _, _⟩ := cells3 ((hbl.block _ (blk_lt hc)).trans hc)
  have HB := Aside0.mk hbl
  have ea := bit_ask (y := y) (k := a) (by omega) (by omega)
  have eb := bit_ask (y := y) (k := b) (by omega) (by omega)
  have hv : bothB ⟨a, b, f⟩ (y : Int) = (y.testBit a && y.testBit b) := by unfold bothB; dsimp only; rw [Int.toNat_natCast, Int.toNat_natCast, Int.toNat_natCast]
  rw [hv]
  show Calls Try.prog 55 #[.int .i64 y, .pointer (some ⟨g, 0, none⟩)] W fun e w' => e = .returned (.bool (y.testBit a && y.testBit b)) ∧ Below w.heap.size w w'
  clear hbl hc hx hG hv
  cases h1 : y.testBit a with
  | false =>
    rw [h1] at ea
    go_enter Try.func55, Try.ntmps55
    go_wp2
    go_ret
    exact ⟨rfl, HB.out⟩
  | true =>
    rw [h1] at ea
    go_enter Try.func55, Try.ntmps55
    go_wp2
    go_ret
    exact ⟨rfl, HB.out⟩
end Go.Proofs.Ytaegldcifhgnmaa.A

/- Clans: its walk. -/
namespace Go.Proofs.Ytaegldcifhgnmaa.A
open Go.RowKit Go.Proofs.YtaegldcifhgnmaaW.PrintWords Go.Proofs.YtaegldcifhgnmaaW.PrintMore

theorem groupsL_mem {q : S39 → Bool} {n : Nat} {l : List S39} (hl : okN n l) : ∀ (f left : Nat), left < 2 ^ n → ∀ x ∈ groupsL q n l f left, ∃ y : Nat, x = y ∧ y < 2 ^ n
  | 0, _, _, x, hx => by cases hx
  | f + 1, left, h, x, hx => by
    rw [groupsL] at hx
    by_cases h0 : left = 0
    · rw [if_pos h0] at hx; cases hx
    · rw [if_neg h0] at hx
      rcases List.mem_cons.1 hx with rfl | hx
      · exact ⟨_, rfl, spread_lt hl (lowB_lt h) n⟩
      · exact groupsL_mem hl f _ (less_lt h) x hx
theorem groupsF_mem {q : S39 → Bool} {n : Nat} {l : List S39} (hl : okN n l) {x : Int} (hx : x ∈ groupsF q n l) : ∃ y : Nat, x = y ∧ y < 2 ^ n :=
  groupsL_mem hl _ _ (by have := Nat.two_pow_pos n; omega) x hx
theorem sortI_mem {l : List Int} {x : Int} : x ∈ sortI l ↔ x ∈ l := List.mem_mergeSort

set_option maxRecDepth 100000 in
set_option maxHeartbeats 800000 in
theorem Clans_err (n : Int) (A : Option Addr) (c : Nat) (l : List S39) (w : World) (hr : Kd.C k39 w A l.length l) (E : Int) (h : tiesE n l = E) (h0 : E ≠ 0) :
    Calls Try.prog 26 #[.int .i64 n, .slice A l.length c] w (FoundPost ([], E) w) := by
  have HR := Aside0.mk hr
  have HE := Aside0.mk h
  have hg := errne h0
  have H0 := Aside0.mk h0
  clear hr h h0
  go_enter Try.func26, Try.ntmps26
  go_wp2_with (go_at_call 46; refine (read_err HR.out HE.out H0.out).mono ?_; rintro e w' ⟨rfl, hb'⟩; have HB := Aside0.mk hb'; clear hb')
  go_ret2
  exact ⟨_, rfl, Kd.R_nil _ _ _ _ _, below_alloc HB.out _⟩

set_option maxRecDepth 100000 in
set_option maxHeartbeats 1600000 in
theorem Clans_good (m : Nat) (A : Option Addr) (c : Nat) (l : List S39) (w : World) (hr : Kd.C k39 w A l.length l) (h : tiesE m l = 0) (G : List Int) (hG : sortI (groupsF friendB m l) = G) (Z : List Int × Int) (hZ : (if clashB l G l.length = true then ([], 10) else (G, 0)) = Z) :
    Calls Try.prog 26 #[.int .i64 m, .slice A l.length c] w (FoundPost Z w) := by
  have HZ := Aside0.mk hZ
  clear hZ
  have hm : m ≤ 8 := by have := (tiesE_parts h).1; omega
  have hl20 : l.length ≤ 20 := (tiesE_parts h).2.1
  have HR := Aside0.mk hr
  have HS := Aside0.mk (tiesE_ok h)
  have HSM := Aside0.mk (tiesE_small h)
  have HE := Aside0.mk h
  have HG := Aside0.mk hG
  have HM : Aside0 (∀ x ∈ G, 0 ≤ x ∧ x < 4611686018427387904) := ⟨fun x hx => by
    rw [← hG, sortI_mem] at hx
    obtain ⟨y, rfl, hy⟩ := groupsF_mem (tiesE_ok h) hx
    have := pow8 hm
    omega⟩
  clear hr h hG
  go_enter Try.func26, Try.ntmps26
  go_wp2_with (first
    | (go_at_call 46; refine (read_good HR.out HE.out).mono ?_; rintro e w1 ⟨rfl, hb1⟩; have HB1 := Aside0.mk (below_alloc hb1 (.cells #[.int .i64 (m : Int), .slice A l.length c] 59)); clear hb1)
    | (go_at_call 52; go_must (refine (groups_calls 53 friendB says_friend m hm A c l HS.out (by omega) _ (Kd.C_below HR.out HB1.out)).mono ?_; rw [HG.out]; rintro e w2 ⟨v2, rfl, hr2, hb2⟩; obtain ⟨A2, c2, rfl, hc2, _⟩ := Kd.R_reads hr2; have HI0 : Aside0 (Below w.heap.size w w2 ∧ Kd.R (Kd.int .i64) 3 w2 w.heap.size (fun _ => True) (.slice A2 G.length c2) G) := ⟨below_then HB1.out HB1.out.size hb2, Kd.R_lower hr2 HB1.out.size⟩; clear hr2 hb2 hc2)))
  go_loopg [10, 24] l.length (fun gg _ v24 wr => ∃ i : Nat, i ≤ l.length ∧ l.length - i ≤ gg ∧ v24 = .int .i64 i ∧ Aside0 (Below w.heap.size w wr ∧ Kd.R (Kd.int .i64) 3 wr w.heap.size (fun _ => True) (.slice A2 G.length c2) G) ∧ Aside0 (clashB l G i = false))
  case atStart => exact ⟨0, Nat.zero_le _, by omega, rfl, HI0, ⟨rfl⟩⟩
  case round =>
    clear HI0
    obtain ⟨i, hi, hgg, rfl, HI, HC⟩ := hrel
    by_cases hlt : i < l.length
    · have hltz : (i : Int) < (l.length : Int) := by omega
      obtain ⟨ad, rfl, hx0, hx1, hx2⟩ := at_T39 (Kd.C_below HR.out HI.out.1) (i : Int) (by omega) (by omega)
      rw [Int.toNat_natCast] at hx0 hx1 hx2
      have hrd : rd_T39 l (i : Int) = l.getD i z39 := by simp [rd_T39]
      rw [hrd] at hx0 hx1 hx2
      have hts := HSM.out _ (getD_mem z39 hlt)
      have hsu := clashB_succ l G i
      generalize hy : l.getD i z39 = t at hx0 hx1 hx2 hts hsu
      obtain ⟨a, b, f⟩ := t
      dsimp only at hx0 hx1 hx2 hts
      obtain ⟨h1, h2, h3, h4⟩ := hts
      obtain ⟨a, rfl⟩ := Int.eq_ofNat_of_zero_le h1
      obtain ⟨b, rfl⟩ := Int.eq_ofNat_of_zero_le h3
      have HSU := Aside0.mk hsu
      have HY := Aside0.mk hy
      have hb8 : Aside0 (Below wr.heap.size wr (wr.alloc (.cells #[.int .i64 a, .int .i64 b, .bool f] 39))) := ⟨below_alloc (Below.refl _ _) _⟩
      have hc8 : Aside0 ((wr.alloc (.cells #[.int .i64 a, .int .i64 b, .bool f] 39)).heap[wr.heap.size]? = some (.cells #[.int .i64 a, .int .i64 b, .bool f] 39 (0, 0))) := ⟨heap_alloc_new _ _⟩
      clear hrd hy hsu h1 h3
      cases f with
      | false =>
        go_wp2
        go_roundg (l.length - (i + 1))
        case measure => omega
        case rel => exact ⟨i + 1, by omega, by omega, by go_num, ⟨below_then HI.out.1 HI.out.1.size hb8.out, Kd.R_below HI.out.2 hb8.out⟩, ⟨by rw [HSU.out, HC.out]; rfl⟩⟩
      | true =>
        have hrr := Aside0.mk (Kd.R_reads' HI.out.2).2.2
        cases hq : G.any (bothB ⟨a, b, true⟩) with
        | false =>
          have HQ := Aside0.mk hq
          clear hq
          go_wp2_with (go_at_call 54; go_must (refine (ContainsFunc_int 55 #[.pointer (some ⟨wr.heap.size, 0, none⟩)] (bothB ⟨a, b, true⟩) enters55 A2 G.length c2 G _ (Kd.C_below hrr.out hb8.out) (both_pred a b true (by omega) (by omega) G HM.out wr.heap.size _ hc8.out)).mono ?_; rw [HQ.out]; rintro e w3 ⟨rfl, hb3⟩; have HB3 := Aside0.mk (below_then hb8.out hb8.out.size hb3); clear hb3))
          go_roundg (l.length - (i + 1))
          case measure => omega
          case rel => exact ⟨i + 1, by omega, by omega, by go_num, ⟨below_then HI.out.1 HI.out.1.size HB3.out, Kd.R_below HI.out.2 HB3.out⟩, ⟨by rw [HSU.out, HC.out, HQ.out]; rfl⟩⟩
        | true =>
          have HQ := Aside0.mk hq
          have HCL : Aside0 (clashB l G l.length = true) := ⟨by
            unfold clashB
            rw [List.any_eq_true]
            refine ⟨i, List.mem_range.2 hlt, ?_⟩
            rw [HY.out, hq]; rfl⟩
          clear hq
          go_wp2_with (go_at_call 54; go_must (refine (ContainsFunc_int 55 #[.pointer (some ⟨wr.heap.size, 0, none⟩)] (bothB ⟨a, b, true⟩) enters55 A2 G.length c2 G _ (Kd.C_below hrr.out hb8.out) (both_pred a b true (by omega) (by omega) G HM.out wr.heap.size _ hc8.out)).mono ?_; rw [HQ.out]; rintro e w3 ⟨rfl, hb3⟩; have HB3 := Aside0.mk (below_then hb8.out hb8.out.size hb3); clear hb3))
          go_ret2
          rw [← HZ.out, if_pos HCL.out]
          exact ⟨_, rfl, Kd.R_nil _ _ _ _ _, below_then HI.out.1 HI.out.1.size HB3.out⟩
    · have hltz : ¬ (i : Int) < (l.length : Int) := by omega
      have hie : i = l.length := by omega
      have HCL : Aside0 (¬ clashB l G l.length = true) := ⟨by rw [← hie, HC.out]; simp⟩
      clear hie
      go_wp2
      go_ret2
      rw [← HZ.out, if_neg HCL.out]
      exact ⟨_, rfl, HI.out.2, HI.out.1⟩

def feuds_Clans.f (a0 : Int) (l1 : List S39) : Option (List Int × Int) := some (clansF a0 l1)
theorem feuds_Clans.calls (a0 : Int) (A1 : Option Addr) (c1 : Nat) (l1 : List S39) (r1 : List Int) (r2 : Int) (w : World) (hr1 : Kd.C k39 w A1 l1.length l1) (_hc1 : l1.length ≤ c1) (h : feuds_Clans.f a0 l1 = some (r1, r2)) :
    Calls Try.prog 26 #[.int .i64 a0, .slice A1 l1.length c1] w fun e w' => ∃ v0_ : Value, e = .returned (.tuple #[v0_, .int .i64 r2]) ∧ Kd.R (Kd.int .i64) 3 w' w.heap.size (fun _ => True) v0_ r1 ∧ Below w.heap.size w w' := by
  have h := Option.some.inj h
  have : Calls Try.prog 26 #[.int .i64 a0, .slice A1 l1.length c1] w (FoundPost (clansF a0 l1) w) := by
    unfold clansF
    by_cases h0 : tiesE a0 l1 = 0
    · have h1 := tiesE_parts h0
      obtain ⟨m, rfl⟩ : ∃ m : Nat, a0 = m := ⟨a0.toNat, by omega⟩
      rw [if_pos h0, Int.toNat_natCast]
      exact Clans_good m A1 c1 l1 w hr1 h0 _ rfl _ rfl
    · rw [if_neg h0]
      exact Clans_err a0 A1 c1 l1 w hr1 _ rfl h0
  rw [h] at this
  exact this
end Go.Proofs.Ytaegldcifhgnmaa.A

/- What the program returns for three drovers, all at feud. -/
namespace Go.Proofs.Ytaegldcifhgnmaa.A
open Go.RowKit Go.Proofs.YtaegldcifhgnmaaW.PrintWords Go.Proofs.YtaegldcifhgnmaaW.PrintMore

def threeL : List S39 := [⟨0, 1, true⟩, ⟨0, 2, true⟩, ⟨1, 2, true⟩]
def twoL : List S39 := [⟨0, 1, false⟩, ⟨0, 2, true⟩]
theorem three_Sides : feuds_Sides.f 3 threeL = some (0, 10) := by decide +kernel
theorem three_Ring : feuds_Ring.f 3 threeL = some ([0, 1, 2], 0) := by decide +kernel
theorem three_Least : feuds_Least.f 3 threeL = some (1, [2], 0) := by decide +kernel
theorem three_groups : groupsF friendB 3 threeL = [1, 2, 4] := by decide +kernel
theorem sort_124 : sortI [1, 2, 4] = [1, 2, 4] := by
  unfold sortI
  refine List.mergeSort_of_pairwise ?_
  simp
theorem three_Clans : feuds_Clans.f 3 threeL = some ([1, 2, 4], 0) := by
  have h0 : tiesE 3 threeL = 0 := by decide +kernel
  have h1 : clashB threeL [1, 2, 4] threeL.length = false := by decide +kernel
  unfold feuds_Clans.f clansF
  rw [if_pos h0, show (3 : Int).toNat = 3 from rfl, three_groups, sort_124, h1]
  rfl
theorem three_Classes : feuds_Classes.f 3 threeL = some (2, 0) := by decide +kernel
theorem two_Sides : feuds_Sides.f 3 twoL = some (3, 0) := by decide +kernel
end Go.Proofs.Ytaegldcifhgnmaa.A

/- The law package's own small functions and the reference's Ties, as the kit's print writes them. -/
namespace Go.Proofs.Ytaegldcifhgnmaa.B
open Go.Proofs.Ytaegldcifhgnmaa.A
open Go.RowKit Go.Proofs.YtaegldcifhgnmaaW.PrintWords Go.Proofs.YtaegldcifhgnmaaW.PrintLast Go.Proofs.YtaegldcifhgnmaaW.PrintMore
section
attribute [local go_sem] max2_int min2_int max_two min_two max_three min_three max_four min_four   -- for this text's walks alone
set_option linter.unusedVariables false
set_option linter.unusedSimpArgs false
def errW : Option Int → Value
  | none => .nilIface
  | some c => .iface 0 (.int .i64 c)
theorem errW_none : errW none = .nilIface := rfl
theorem errW_some (c : Int) : errW (some c) = .iface 0 (.int .i64 c) := rfl

/-! ### drovewaylaw09_few: function 16 -/
def drovewaylaw09_few.f (l0 : List (S39)) (l1 : List Int) : Option (Bool) := if (l0.length : Int) ≤ 60 then (some (decide ((l1.length : Int) ≤ 60))) else (some false)
set_option maxHeartbeats 8000000 in
set_option maxRecDepth 100000 in
theorem drovewaylaw09_few.calls (A0 : Option Addr) (c0 : Nat) (l0 : List (S39)) (A1 : Option Addr) (c1 : Nat) (l1 : List Int) (r : Bool) (w : World) (hr0 : Kd.C k39 w A0 l0.length l0) (hc0 : l0.length ≤ c0) (hr1 : Kd.C (Kd.int .i64) w A1 l1.length l1) (hc1 : l1.length ≤ c1) (h : drovewaylaw09_few.f l0 l1 = some r) :
    Calls Try.prog 16 #[.slice A0 l0.length c0, .slice A1 l1.length c1] w fun e w' => e = .returned (.bool r) ∧ Drawn0 w w' := by
  have HR0 := Aside0.mk hr0
  have HC0 := Aside0.mk hc0
  clear hr0 hc0
  have HR1 := Aside0.mk hr1
  have HC1 := Aside0.mk hc1
  clear hr1 hc1
  have H : (if (l0.length : Int) ≤ 60 then (some (decide ((l1.length : Int) ≤ 60))) else (some false)) = some r := h
  clear h
  by_cases c3 : (l0.length : Int) ≤ 60
  · rw [if_pos c3] at H
    have c3b0 : decide ((l0.length : Int) ≤ 60) = true := decide_eq_true c3
    have c3b1 : decide (l0.length ≤ 60) = true := decide_eq_true (by omega)
    clear c3
    obtain rfl := Option.some.inj H
    go_enter Try.func16, Try.ntmps16
    go_wp2
    go_ret
    exact ⟨by first | rfl | (simp; done) | (simp [*]; done), by repeat (first | exact Drawn0.refl _ | apply Drawn0.step)⟩
  · rw [if_neg c3] at H
    have c3b0 : decide ((l0.length : Int) ≤ 60) = false := decide_eq_false c3
    have c3b1 : decide (l0.length ≤ 60) = false := decide_eq_false (by omega)
    clear c3
    obtain rfl := Option.some.inj H
    go_enter Try.func16, Try.ntmps16
    go_wp2
    go_ret
    exact ⟨by first | rfl | (simp; done) | (simp [*]; done), by repeat (first | exact Drawn0.refl _ | apply Drawn0.step)⟩

-- by hand: function 18 (feuds_Sides)

-- by hand: function 20 (feuds_Ring)

/-! ### drovewaylaw09_same: function 22 -/
def drovewaylaw09_same.l0 : Nat → List Int → List Int → Int → Option (Bool)
  | 0, _, _, _ => none
  | k + 1, x0, x1, x5 => if x5 < (x0.length : Int) then (if 0 ≤ x5 then (if x5 < (x1.length : Int) then (if (rd x0 x5) = (rd x1 x5) then (drovewaylaw09_same.l0 k x0 x1 (wrap64 (x5 + 1))) else (some false)) else (none)) else (none)) else (some true)
def drovewaylaw09_same.f (k : Nat) (l0 : List Int) (l1 : List Int) : Option (Bool) := if (l0.length : Int) = (l1.length : Int) then (drovewaylaw09_same.l0 k l0 l1 0) else (some false)
theorem drovewaylaw09_same.mono_l : ∀ k, (∀ y0 y1 y2, LeO (drovewaylaw09_same.l0 k y0 y1 y2) (drovewaylaw09_same.l0 (k + 1) y0 y1 y2))
  | 0 => fun _ _ _ r h => by simp [drovewaylaw09_same.l0] at h
  | k + 1 => by
    have ih0 := drovewaylaw09_same.mono_l k
    · intro y0 y1 y2
      unfold drovewaylaw09_same.l0
      repeat' first
      | (with_reducible exact ih0 _ _ _)
      | (with_reducible exact LeO.refl _)
      | (with_reducible exact LeO.none _)
      | (with_reducible refine LeO.ite ?_ ?_)
      | (with_reducible refine LeO.bind ?_ (fun _ => ?_))
      | exact ih0 _ _ _
      | exact LeO.none _
      | refine LeO.ite ?_ ?_
      | refine LeO.bind ?_ (fun _ => ?_)
theorem drovewaylaw09_same.mono : ∀ a0 a1 k, LeO (drovewaylaw09_same.f k a0 a1) (drovewaylaw09_same.f (k + 1) a0 a1) := by
  intro a0 a1 k
  have ih0 := drovewaylaw09_same.mono_l k
  unfold drovewaylaw09_same.f
  repeat' first
      | (with_reducible exact ih0 _ _ _)
      | (with_reducible exact LeO.refl _)
      | (with_reducible exact LeO.none _)
      | (with_reducible refine LeO.ite ?_ ?_)
      | (with_reducible refine LeO.bind ?_ (fun _ => ?_))
      | exact ih0 _ _ _
      | exact LeO.none _
      | refine LeO.ite ?_ ?_
      | refine LeO.bind ?_ (fun _ => ?_)
set_option maxHeartbeats 8000000 in
set_option maxRecDepth 100000 in
theorem drovewaylaw09_same.calls (k : Nat) (A0 : Option Addr) (c0 : Nat) (l0 : List Int) (A1 : Option Addr) (c1 : Nat) (l1 : List Int) (r : Bool) (w : World) (hr0 : Kd.C (Kd.int .i64) w A0 l0.length l0) (hc0 : l0.length ≤ c0) (hr1 : Kd.C (Kd.int .i64) w A1 l1.length l1) (hc1 : l1.length ≤ c1) (h : drovewaylaw09_same.f k l0 l1 = some r) :
    Calls Try.prog 22 #[.slice A0 l0.length c0, .slice A1 l1.length c1] w fun e w' => e = .returned (.bool r) ∧ Drawn0 w w' := by
  have HR0 := Aside0.mk hr0
  have HC0 := Aside0.mk hc0
  clear hr0 hc0
  have HR1 := Aside0.mk hr1
  have HC1 := Aside0.mk hc1
  clear hr1 hc1
  have H : (if (l0.length : Int) = (l1.length : Int) then (drovewaylaw09_same.l0 k l0 l1 0) else (some false)) = some r := h
  clear h
  by_cases c3 : (l0.length : Int) = (l1.length : Int)
  · rw [if_pos c3] at H
    have c3b0 : ((l0.length : Int) == (l1.length : Int)) = true := beq_iff_eq.mpr c3
    have c3b1 : ((l0.length : Int) != (l1.length : Int)) = false := bne_eq_false_iff_eq.mpr c3
    have c3b2 : (l0.length == l1.length) = true := by first | simpa using c3 | (simp at c3 ⊢; omega)
    clear c3
    have H' := Aside0.mk H
    clear H
    go_enter Try.func22, Try.ntmps22
    go_wp2
    repeat (go_quiet (fail); try go_wp2)
    go_loopg [5] k (fun kq v5 w' => ∃ (x5_1 : Int), v5 = .int .i64 x5_1 ∧ Aside0 (drovewaylaw09_same.l0 kq l0 l1 x5_1 = some r) ∧ Aside0 (kq ≤ k) ∧ Drawn0 w w')
    case atStart => exact ⟨(0), (by first | rfl | (simp; done) | (simp [*]; done)), H', ⟨Nat.le_refl _⟩, by repeat (first | exact Drawn0.refl _ | apply Drawn0.step)⟩
    case round =>
      clear H'
      try clear c1
      try clear c2
      try clear p2
      try clear c3
      try clear c3b0
      try clear c3b1
      try clear c3b2
      obtain ⟨x5_1, rfl, HA, HK1, ⟨m1, rfl⟩⟩ := hrel
      cases gk with
      | zero => exact absurd HA.out (by simp [drovewaylaw09_same.l0])
      | succ k1 =>
        have H := HA.out
        clear HA
        simp only [drovewaylaw09_same.l0] at H
        by_cases c4 : x5_1 < (l0.length : Int)
        · rw [if_pos c4] at H
          have c4b0 : decide (x5_1 < (l0.length : Int)) = true := decide_eq_true c4
          clear c4
          by_cases c5 : 0 ≤ x5_1
          · rw [if_pos c5] at H
            have c5b0 : decide (0 ≤ x5_1) = true := decide_eq_true c5
            clear c5
            by_cases c6 : x5_1 < (l1.length : Int)
            · rw [if_pos c6] at H
              have c6b0 : decide (x5_1 < (l1.length : Int)) = true := decide_eq_true c6
              clear c6
              by_cases c7 : (rd l0 x5_1) = (rd l1 x5_1)
              · rw [if_pos c7] at H
                have c7b0 : ((rd l0 x5_1) == (rd l1 x5_1)) = true := beq_iff_eq.mpr c7
                have c7b1 : ((rd l0 x5_1) != (rd l1 x5_1)) = false := bne_eq_false_iff_eq.mpr c7
                clear c7
                have H' := Aside0.mk H
                clear H
                have p101 : 0 ≤ (x5_1 : Int) := of_decide_eq_true (by first | (with_reducible assumption) | assumption)
                have q101 : x5_1 < (l0.length : Int) := of_decide_eq_true (by first | (with_reducible assumption) | assumption)
                obtain ⟨ad101, e101, hx101_0⟩ := Kd.at_int HR0.out x5_1 p101 q101
                cases e101
                replace p101 := eq_true p101
                replace q101 := eq_true q101
                have p102 : 0 ≤ (x5_1 : Int) := of_decide_eq_true (by first | (with_reducible assumption) | assumption)
                have q102 : x5_1 < (l1.length : Int) := of_decide_eq_true (by first | (with_reducible assumption) | assumption)
                obtain ⟨ad102, e102, hx102_0⟩ := Kd.at_int HR1.out x5_1 p102 q102
                cases e102
                replace p102 := eq_true p102
                replace q102 := eq_true q102
                go_wp2
                repeat (go_quiet (fail); try go_wp2)
                go_roundg k1
                case measure => have := HK1.out; omega
                case rel => exact ⟨(wrap64 (x5_1 + 1)), (by first | rfl | (simp; done) | (simp [*]; done)), H', ⟨by have := HK1.out; omega⟩, by repeat (first | exact Drawn0.refl _ | apply Drawn0.step)⟩
              · rw [if_neg c7] at H
                have c7b0 : ((rd l0 x5_1) == (rd l1 x5_1)) = false := beq_eq_false_iff_ne.mpr c7
                have c7b1 : ((rd l0 x5_1) != (rd l1 x5_1)) = true := bne_iff_ne.mpr c7
                obtain rfl := Option.some.inj H
                have p101 : 0 ≤ (x5_1 : Int) := of_decide_eq_true (by first | (with_reducible assumption) | assumption)
                have q101 : x5_1 < (l0.length : Int) := of_decide_eq_true (by first | (with_reducible assumption) | assumption)
                obtain ⟨ad101, e101, hx101_0⟩ := Kd.at_int HR0.out x5_1 p101 q101
                cases e101
                replace p101 := eq_true p101
                replace q101 := eq_true q101
                have p102 : 0 ≤ (x5_1 : Int) := of_decide_eq_true (by first | (with_reducible assumption) | assumption)
                have q102 : x5_1 < (l1.length : Int) := of_decide_eq_true (by first | (with_reducible assumption) | assumption)
                obtain ⟨ad102, e102, hx102_0⟩ := Kd.at_int HR1.out x5_1 p102 q102
                cases e102
                replace p102 := eq_true p102
                replace q102 := eq_true q102
                go_wp2
                repeat (go_quiet (fail); try go_wp2)
                go_ret
                exact ⟨by first | rfl | (simp; done) | (simp [*]; done), by repeat (first | exact Drawn0.refl _ | apply Drawn0.step)⟩
            · rw [if_neg c6] at H
              exact absurd H (by simp)
          · rw [if_neg c5] at H
            exact absurd H (by simp)
        · rw [if_neg c4] at H
          have c4b0 : decide (x5_1 < (l0.length : Int)) = false := decide_eq_false c4
          clear c4
          obtain rfl := Option.some.inj H
          go_wp2
          repeat (go_quiet (fail); try go_wp2)
          go_ret
          exact ⟨by first | rfl | (simp; done) | (simp [*]; done), by repeat (first | exact Drawn0.refl _ | apply Drawn0.step)⟩
  · rw [if_neg c3] at H
    have c3b0 : ((l0.length : Int) == (l1.length : Int)) = false := beq_eq_false_iff_ne.mpr c3
    have c3b1 : ((l0.length : Int) != (l1.length : Int)) = true := bne_iff_ne.mpr c3
    have c3b2 : (l0.length == l1.length) = false := by first | simpa using c3 | (simp at c3 ⊢; omega)
    obtain rfl := Option.some.inj H
    go_enter Try.func22, Try.ntmps22
    go_wp2
    repeat (go_quiet (fail); try go_wp2)
    go_ret
    exact ⟨by first | rfl | (simp; done) | (simp [*]; done), by repeat (first | exact Drawn0.refl _ | apply Drawn0.step)⟩

-- by hand: function 25 (feuds_Least)

-- by hand: function 26 (feuds_Clans)

-- by hand: function 32 (feuds_Classes)

/-! ### drovewaylaw09_three: function 45 -/
def drovewaylaw09_three.f  : Option ((List (S39))) := some (([(⟨0, 1, true⟩ : S39), (⟨0, 2, true⟩ : S39), (⟨1, 2, true⟩ : S39)] : List (S39)))
set_option maxHeartbeats 8000000 in
set_option maxRecDepth 100000 in
theorem drovewaylaw09_three.calls  (r : List (S39)) (w : World) (h : drovewaylaw09_three.f  = some r) :
    Calls Try.prog 45 #[] w fun e w' => ∃ v0_ : Value, e = .returned (v0_) ∧ Kd.R k39 39 w' w.heap.size (fun _ => True) v0_ r ∧ Below w.heap.size w w' := by
  have hu39 := Try.underlying39
  have HB := Aside0.mk (Below.refl w.heap.size w)
  have H : (some (([(⟨0, 1, true⟩ : S39), (⟨0, 2, true⟩ : S39), (⟨1, 2, true⟩ : S39)] : List (S39)))) = some r := h
  clear h
  obtain ⟨y103, hy103⟩ : ∃ y_ : List (S39), y_ = (([(⟨0, 1, true⟩ : S39), (⟨0, 2, true⟩ : S39), (⟨1, 2, true⟩ : S39)] : List (S39))) := ⟨_, rfl⟩
  replace H : (some y103) = some r := by first | (rw [hy103]; with_reducible exact H) | (have H2_ := (Option.bind_some _ _).symm.trans H; rw [hy103]; with_reducible exact H2_) | (have H2_ := (Option.bind_some _ _).symm.trans H; with_reducible exact H2_) | with_reducible exact H | (rw [hy103]; exact H) | exact H
  have Ny103 := Aside0.mk hy103
  clear hy103
  obtain rfl := Option.some.inj H
  go_enter Try.func45, Try.ntmps45
  go_wp2_with (first | ((with_reducible refine gate_dst (N := 4) rfl ?_); refine Kd.R_lit k39 _ 39 ?hg (N := 4) ?hd (xs := ([(⟨0, 1, true⟩ : S39), (⟨0, 2, true⟩ : S39), (⟨1, 2, true⟩ : S39)] : List (S39))) (inner := [.int .i64 0, .int .i64 1, .bool true, .int .i64 0, .int .i64 2, .bool true, .int .i64 1, .int .i64 2, .bool true]) (ok := fun _ => True) (okp := fun _ => True) ?hr ?hp (fun _ hk => hk) trivial (Below.refl _ _) (Nat.le_refl _) (by simp) ?_; (case hd => rfl); (case hg => rfl); (case hr => first | (go_simp; done) | (go_simp; rfl)); (case hp => exact (Reps.c3 (show Kd.M k39 _ _ _ (⟨0, 1, true⟩ : S39) [.int .i64 0, .int .i64 1, .bool true] from (k39_mkM _ _ _ (⟨0, 1, true⟩ : S39) )) (Reps.c3 (show Kd.M k39 _ _ _ (⟨0, 2, true⟩ : S39) [.int .i64 0, .int .i64 2, .bool true] from (k39_mkM _ _ _ (⟨0, 2, true⟩ : S39) )) (Reps.c3 (show Kd.M k39 _ _ _ (⟨1, 2, true⟩ : S39) [.int .i64 1, .int .i64 2, .bool true] from (k39_mkM _ _ _ (⟨1, 2, true⟩ : S39) )) (Reps.none _ _))))); intro v104 w1 ho2 hb hg_ hnew_; clear hg_ hnew_; (first | rw [← Ny103.out] at ho2 | (simp only [Int.reduceToNat] at ho2; rw [← Ny103.out] at ho2)); have n0_ := Aside0.mk (Kd.R_lower ho2 (below_size (by repeat (first | (with_reducible first | exact HB.out | apply below_alloc | apply pw_below_drewN | apply below_drew1) | exact HB.out)))); have n1_ := Aside0.mk (below_step (by repeat (first | (with_reducible first | exact HB.out | apply below_alloc | apply pw_below_drewN | apply below_drew1) | exact HB.out)) hb); clear HB; have HO105 := n0_; have HB := n1_; clear n0_ n1_; clear hb ho2))
  go_ret
  exact ⟨_, by first | rfl | (simp [errW_none, errW_some] <;> rfl) | (simp [*, errW_none, errW_some] <;> rfl), by (with_reducible repeat (first | apply Kd.R_alloc | apply Kd.R_drewN | apply Kd.R_drew)); exact HO105.out, by repeat (first | (with_reducible first | exact HB.out | apply below_alloc | apply pw_below_drewN | apply below_drew1) | exact HB.out)⟩

-- NOT PRINTED: function 17 (drovewaylaw09_alive)

-- by hand: function 30 (feuds_Same)

/-! ### drovewayref09_Ties: function 24 -/
mutual
def drovewayref09_Ties.j0 : Nat → Int → List (S39) → Bool → Option (Int)
  | 0, _, _, _ => none
  | k + 1, x0, x1, x12 => if x12 = true then (some 2) else (if (x1.length : Int) > 20 then (some 3) else (drovewayref09_Ties.l0 k x0 x1 0))
def drovewayref09_Ties.l0 : Nat → Int → List (S39) → Int → Option (Int)
  | 0, _, _, _ => none
  | k + 1, x0, x1, x5 => if x5 < (x1.length : Int) then (if 0 ≤ x5 then (if ((rd_T39 x1 x5).f0) < 0 then (drovewayref09_Ties.j2 k x0 x1 x5 true) else (if ((rd_T39 x1 x5).f0) ≥ ((rd_T39 x1 x5).f1) then (drovewayref09_Ties.j2 k x0 x1 x5 true) else (drovewayref09_Ties.j2 k x0 x1 x5 (decide (((rd_T39 x1 x5).f1) ≥ x0))))) else (none)) else (some 0)
def drovewayref09_Ties.j2 : Nat → Int → List (S39) → Int → Bool → Option (Int)
  | 0, _, _, _, _ => none
  | k + 1, x0, x1, x5, x49 => if x49 = true then (some 2) else (drovewayref09_Ties.l1 k x0 x1 x5 0)
def drovewayref09_Ties.l1 : Nat → Int → List (S39) → Int → Int → Option (Int)
  | 0, _, _, _, _ => none
  | k + 1, x0, x1, x5, x6 => if x6 < x5 then (if 0 ≤ x6 then (if x6 < (x1.length : Int) then (if 0 ≤ x5 then (if x5 < (x1.length : Int) then (if ((rd_T39 x1 x6).f0) = ((rd_T39 x1 x5).f0) then (if ((rd_T39 x1 x6).f1) = ((rd_T39 x1 x5).f1) then (some 2) else (drovewayref09_Ties.l1 k x0 x1 x5 (wrap64 (x6 + 1)))) else (drovewayref09_Ties.l1 k x0 x1 x5 (wrap64 (x6 + 1)))) else (none)) else (none)) else (none)) else (none)) else (drovewayref09_Ties.l0 k x0 x1 (wrap64 (x5 + 1)))
end
def drovewayref09_Ties.f (k : Nat) (a0 : Int) (l1 : List (S39)) : Option (Int) := if a0 < 1 then (drovewayref09_Ties.j0 k a0 l1 true) else (drovewayref09_Ties.j0 k a0 l1 (decide (a0 > 8)))
theorem drovewayref09_Ties.mono_l : ∀ k, (∀ y0 y1 y2, LeO (drovewayref09_Ties.j0 k y0 y1 y2) (drovewayref09_Ties.j0 (k + 1) y0 y1 y2)) ∧ (∀ y0 y1 y2, LeO (drovewayref09_Ties.l0 k y0 y1 y2) (drovewayref09_Ties.l0 (k + 1) y0 y1 y2)) ∧ (∀ y0 y1 y2 y3, LeO (drovewayref09_Ties.j2 k y0 y1 y2 y3) (drovewayref09_Ties.j2 (k + 1) y0 y1 y2 y3)) ∧ (∀ y0 y1 y2 y3, LeO (drovewayref09_Ties.l1 k y0 y1 y2 y3) (drovewayref09_Ties.l1 (k + 1) y0 y1 y2 y3))
  | 0 => ⟨fun _ _ _ r h => by simp [drovewayref09_Ties.j0] at h, fun _ _ _ r h => by simp [drovewayref09_Ties.l0] at h, fun _ _ _ _ r h => by simp [drovewayref09_Ties.j2] at h, fun _ _ _ _ r h => by simp [drovewayref09_Ties.l1] at h⟩
  | k + 1 => by
    obtain ⟨ih0, ih1, ih2, ih3⟩ := drovewayref09_Ties.mono_l k
    refine ⟨?_, ?_, ?_, ?_⟩
    · intro y0 y1 y2
      unfold drovewayref09_Ties.j0
      repeat' first
      | (with_reducible exact ih0 _ _ _)
      | (with_reducible exact ih1 _ _ _)
      | (with_reducible exact ih2 _ _ _ _)
      | (with_reducible exact ih3 _ _ _ _)
      | (with_reducible exact LeO.refl _)
      | (with_reducible exact LeO.none _)
      | (with_reducible refine LeO.ite ?_ ?_)
      | (with_reducible refine LeO.bind ?_ (fun _ => ?_))
      | exact ih0 _ _ _
      | exact ih1 _ _ _
      | exact ih2 _ _ _ _
      | exact ih3 _ _ _ _
      | exact LeO.none _
      | refine LeO.ite ?_ ?_
      | refine LeO.bind ?_ (fun _ => ?_)
    · intro y0 y1 y2
      unfold drovewayref09_Ties.l0
      repeat' first
      | (with_reducible exact ih0 _ _ _)
      | (with_reducible exact ih1 _ _ _)
      | (with_reducible exact ih2 _ _ _ _)
      | (with_reducible exact ih3 _ _ _ _)
      | (with_reducible exact LeO.refl _)
      | (with_reducible exact LeO.none _)
      | (with_reducible refine LeO.ite ?_ ?_)
      | (with_reducible refine LeO.bind ?_ (fun _ => ?_))
      | exact ih0 _ _ _
      | exact ih1 _ _ _
      | exact ih2 _ _ _ _
      | exact ih3 _ _ _ _
      | exact LeO.none _
      | refine LeO.ite ?_ ?_
      | refine LeO.bind ?_ (fun _ => ?_)
    · intro y0 y1 y2 y3
      unfold drovewayref09_Ties.j2
      repeat' first
      | (with_reducible exact ih0 _ _ _)
      | (with_reducible exact ih1 _ _ _)
      | (with_reducible exact ih2 _ _ _ _)
      | (with_reducible exact ih3 _ _ _ _)
      | (with_reducible exact LeO.refl _)
      | (with_reducible exact LeO.none _)
      | (with_reducible refine LeO.ite ?_ ?_)
      | (with_reducible refine LeO.bind ?_ (fun _ => ?_))
      | exact ih0 _ _ _
      | exact ih1 _ _ _
      | exact ih2 _ _ _ _
      | exact ih3 _ _ _ _
      | exact LeO.none _
      | refine LeO.ite ?_ ?_
      | refine LeO.bind ?_ (fun _ => ?_)
    · intro y0 y1 y2 y3
      unfold drovewayref09_Ties.l1
      repeat' first
      | (with_reducible exact ih0 _ _ _)
      | (with_reducible exact ih1 _ _ _)
      | (with_reducible exact ih2 _ _ _ _)
      | (with_reducible exact ih3 _ _ _ _)
      | (with_reducible exact LeO.refl _)
      | (with_reducible exact LeO.none _)
      | (with_reducible refine LeO.ite ?_ ?_)
      | (with_reducible refine LeO.bind ?_ (fun _ => ?_))
      | exact ih0 _ _ _
      | exact ih1 _ _ _
      | exact ih2 _ _ _ _
      | exact ih3 _ _ _ _
      | exact LeO.none _
      | refine LeO.ite ?_ ?_
      | refine LeO.bind ?_ (fun _ => ?_)
theorem drovewayref09_Ties.mono : ∀ a0 a1 k, LeO (drovewayref09_Ties.f k a0 a1) (drovewayref09_Ties.f (k + 1) a0 a1) := by
  intro a0 a1 k
  obtain ⟨ih0, ih1, ih2, ih3⟩ := drovewayref09_Ties.mono_l k
  unfold drovewayref09_Ties.f
  repeat' first
      | (with_reducible exact ih0 _ _ _)
      | (with_reducible exact ih1 _ _ _)
      | (with_reducible exact ih2 _ _ _ _)
      | (with_reducible exact ih3 _ _ _ _)
      | (with_reducible exact LeO.refl _)
      | (with_reducible exact LeO.none _)
      | (with_reducible refine LeO.ite ?_ ?_)
      | (with_reducible refine LeO.bind ?_ (fun _ => ?_))
      | exact ih0 _ _ _
      | exact ih1 _ _ _
      | exact ih2 _ _ _ _
      | exact ih3 _ _ _ _
      | exact LeO.none _
      | refine LeO.ite ?_ ?_
      | refine LeO.bind ?_ (fun _ => ?_)
set_option maxHeartbeats 8000000 in
set_option maxRecDepth 100000 in
theorem drovewayref09_Ties.calls (k : Nat) (a0 : Int) (A1 : Option Addr) (c1 : Nat) (l1 : List (S39)) (r : Int) (w : World) (hr1 : Kd.C k39 w A1 l1.length l1) (hc1 : l1.length ≤ c1) (h : drovewayref09_Ties.f k a0 l1 = some r) :
    Calls Try.prog 24 #[.int .i64 a0, .slice A1 l1.length c1] w fun e w' => e = .returned (.int .i64 r) ∧ Drawn0 w w' := by
  have HR1 := Aside0.mk hr1
  have HC1 := Aside0.mk hc1
  clear hr1 hc1
  have H : (if a0 < 1 then (drovewayref09_Ties.j0 k a0 l1 true) else (drovewayref09_Ties.j0 k a0 l1 (decide (a0 > 8)))) = some r := h
  clear h
  have HC3 := Aside0.mk H
  clear H
  go_enter Try.func24, Try.ntmps24
  go_upto_region 1 with (fail)
  repeat (go_quiet (fail); go_upto_region 1 with (fail))
  go_cut [12] (fun v12 wc => ∃ (kq : Nat) (x12_2 : Bool), v12 = .bool x12_2 ∧ Aside0 (drovewayref09_Ties.j0 kq a0 l1 x12_2 = some r) ∧ Aside0 (kq ≤ k) ∧ Drawn0 w wc)
  case first =>
    have H := HC3.out
    clear HC3
    by_cases c4 : a0 < 1
    · rw [if_pos c4] at H
      have c4b0 : decide (a0 < 1) = true := decide_eq_true c4
      clear c4
      (first | rw [c4b0] | (simp only [i64_w, i32_w]; rw [c4b0]) | skip)
      have H' := Aside0.mk H
      clear H
      go_wp2
      repeat (go_quiet (fail); try go_wp2)
      go_meet
      case rel => exact ⟨_, (true), (by first | rfl | (simp; done) | (simp [*]; done)), H', ⟨by first | omega | exact Nat.le_refl _⟩, by repeat (first | exact Drawn0.refl _ | apply Drawn0.step)⟩
    · rw [if_neg c4] at H
      have c4b0 : decide (a0 < 1) = false := decide_eq_false c4
      clear c4
      (first | rw [c4b0] | (simp only [i64_w, i32_w]; rw [c4b0]) | skip)
      have H' := Aside0.mk H
      clear H
      go_wp2
      repeat (go_quiet (fail); try go_wp2)
      go_meet
      case rel => exact ⟨_, (decide (a0 > 8)), (by first | rfl | (simp; done) | (simp [*]; done)), H', ⟨by first | omega | exact Nat.le_refl _⟩, by repeat (first | exact Drawn0.refl _ | apply Drawn0.step)⟩
  case rest =>
    clear HC3
    try clear c1
    try clear c2
    try clear p2
    try clear c4
    try clear c4b0
    obtain ⟨kq, x12_2, rfl, HA, HJ2, ⟨mc2, rfl⟩⟩ := hcut
    cases kq with
    | zero => exact absurd HA.out (by simp [drovewayref09_Ties.j0])
    | succ kj2 =>
      have H := HA.out
      clear HA
      simp only [drovewayref09_Ties.j0] at H
      by_cases c5 : x12_2 = true
      · subst c5
        have H1 : (some 2) = some r := by rw [if_pos rfl] at H; exact H
        clear H
        have H := H1
        clear H1
        obtain rfl := Option.some.inj H
        go_wp2
        repeat (go_quiet (fail); try go_wp2)
        go_ret
        exact ⟨by first | rfl | (simp; done) | (simp [*]; done), by repeat (first | exact Drawn0.refl _ | apply Drawn0.step)⟩
      · replace c5 := Bool.eq_false_iff.mpr c5
        subst c5
        have H1 : (if (l1.length : Int) > 20 then (some 3) else (drovewayref09_Ties.l0 kj2 a0 l1 0)) = some r := by rw [if_neg (show ¬ (false = true) by decide)] at H; exact H
        clear H
        have H := H1
        clear H1
        by_cases c6 : (l1.length : Int) > 20
        · rw [if_pos c6] at H
          have c6b0 : decide (20 < (l1.length : Int)) = true := decide_eq_true c6
          have c6b1 : decide (20 < l1.length) = true := decide_eq_true (by omega)
          clear c6
          obtain rfl := Option.some.inj H
          go_wp2
          repeat (go_quiet (fail); try go_wp2)
          go_ret
          exact ⟨by first | rfl | (simp; done) | (simp [*]; done), by repeat (first | exact Drawn0.refl _ | apply Drawn0.step)⟩
        · rw [if_neg c6] at H
          have c6b0 : decide (20 < (l1.length : Int)) = false := decide_eq_false c6
          have c6b1 : decide (20 < l1.length) = false := decide_eq_false (by omega)
          clear c6
          have H' := Aside0.mk H
          clear H
          go_wp2
          repeat (go_quiet (fail); try go_wp2)
          go_loopg [5] kj2 (fun kq v5 w' => ∃ (x5_2 : Int), v5 = .int .i64 x5_2 ∧ Aside0 (drovewayref09_Ties.l0 kq a0 l1 x5_2 = some r) ∧ Aside0 (kq ≤ kj2) ∧ Drawn0 w w')
          case atStart => exact ⟨(0), (by first | rfl | (simp; done) | (simp [*]; done)), H', ⟨Nat.le_refl _⟩, by repeat (first | exact Drawn0.refl _ | apply Drawn0.step)⟩
          case round =>
            clear H'
            try clear c1
            try clear c2
            try clear p2
            try clear c4
            try clear c4b0
            try clear c5
            try clear c6
            try clear c6b0
            try clear c6b1
            try clear p2
            obtain ⟨x5_2, rfl, HA, HK2, ⟨m2, rfl⟩⟩ := hrel
            cases gk with
            | zero => exact absurd HA.out (by simp [drovewayref09_Ties.l0])
            | succ k2 =>
              have H := HA.out
              clear HA
              simp only [drovewayref09_Ties.l0] at H
              by_cases c7 : x5_2 < (l1.length : Int)
              · rw [if_pos c7] at H
                have c7b0 : decide (x5_2 < (l1.length : Int)) = true := decide_eq_true c7
                clear c7
                have HC8 := Aside0.mk H
                clear H
                go_upto_region 8 with (fail)
                repeat (go_quiet (fail); go_upto_region 8 with (fail))
                go_cut [49] (fun v49 wc => ∃ (kq : Nat) (x49_7 : Bool), v49 = .bool x49_7 ∧ Aside0 (drovewayref09_Ties.j2 kq a0 l1 x5_2 x49_7 = some r) ∧ Aside0 (kq ≤ k2) ∧ Drawn0 w wc)
                case first =>
                  have H := HC8.out
                  clear HC8
                  by_cases c9 : 0 ≤ x5_2
                  · rw [if_pos c9] at H
                    have c9b0 : decide (0 ≤ x5_2) = true := decide_eq_true c9
                    clear c9
                    (first | rw [c9b0] | (simp only [i64_w, i32_w]; rw [c9b0]) | skip)
                    by_cases c10 : ((rd_T39 l1 x5_2).f0) < 0
                    · rw [if_pos c10] at H
                      have c10b0 : decide (((rd_T39 l1 x5_2).f0) < 0) = true := decide_eq_true c10
                      clear c10
                      have H' := Aside0.mk H
                      clear H
                      have p155 : 0 ≤ (x5_2 : Int) := of_decide_eq_true (by first | (with_reducible assumption) | assumption)
                      have q155 : x5_2 < (l1.length : Int) := of_decide_eq_true (by first | (with_reducible assumption) | assumption)
                      obtain ⟨ad155, e155, hx155_0, hx155_1, hx155_2⟩ := at_T39 HR1.out x5_2 p155 q155
                      cases e155
                      replace p155 := eq_true p155
                      replace q155 := eq_true q155
                      go_wp2
                      repeat (go_quiet (fail); try go_wp2)
                      go_meet
                      case rel => exact ⟨_, (true), (by first | rfl | (simp; done) | (simp [*]; done)), H', ⟨by have := HJ2.out; have := HK2.out; first | omega | exact Nat.le_refl _⟩, by repeat (first | exact Drawn0.refl _ | apply Drawn0.step)⟩
                    · rw [if_neg c10] at H
                      have c10b0 : decide (((rd_T39 l1 x5_2).f0) < 0) = false := decide_eq_false c10
                      clear c10
                      by_cases c11 : ((rd_T39 l1 x5_2).f0) ≥ ((rd_T39 l1 x5_2).f1)
                      · rw [if_pos c11] at H
                        have c11b0 : decide (((rd_T39 l1 x5_2).f1) ≤ ((rd_T39 l1 x5_2).f0)) = true := decide_eq_true c11
                        clear c11
                        have H' := Aside0.mk H
                        clear H
                        have p155 : 0 ≤ (x5_2 : Int) := of_decide_eq_true (by first | (with_reducible assumption) | assumption)
                        have q155 : x5_2 < (l1.length : Int) := of_decide_eq_true (by first | (with_reducible assumption) | assumption)
                        obtain ⟨ad155, e155, hx155_0, hx155_1, hx155_2⟩ := at_T39 HR1.out x5_2 p155 q155
                        cases e155
                        replace p155 := eq_true p155
                        replace q155 := eq_true q155
                        have p156 : 0 ≤ (x5_2 : Int) := of_decide_eq_true (by first | (with_reducible assumption) | assumption)
                        have q156 : x5_2 < (l1.length : Int) := of_decide_eq_true (by first | (with_reducible assumption) | assumption)
                        obtain ⟨ad156, e156, hx156_0, hx156_1, hx156_2⟩ := at_T39 HR1.out x5_2 p156 q156
                        obtain rfl : ad155 = ad156 := (by injection e156)
                        replace p156 := eq_true p156
                        replace q156 := eq_true q156
                        have p157 : 0 ≤ (x5_2 : Int) := of_decide_eq_true (by first | (with_reducible assumption) | assumption)
                        have q157 : x5_2 < (l1.length : Int) := of_decide_eq_true (by first | (with_reducible assumption) | assumption)
                        obtain ⟨ad157, e157, hx157_0, hx157_1, hx157_2⟩ := at_T39 HR1.out x5_2 p157 q157
                        obtain rfl : ad155 = ad157 := (by injection e157)
                        replace p157 := eq_true p157
                        replace q157 := eq_true q157
                        go_wp2
                        repeat (go_quiet (fail); try go_wp2)
                        go_meet
                        case rel => exact ⟨_, (true), (by first | rfl | (simp; done) | (simp [*]; done)), H', ⟨by have := HJ2.out; have := HK2.out; first | omega | exact Nat.le_refl _⟩, by repeat (first | exact Drawn0.refl _ | apply Drawn0.step)⟩
                      · rw [if_neg c11] at H
                        have c11b0 : decide (((rd_T39 l1 x5_2).f1) ≤ ((rd_T39 l1 x5_2).f0)) = false := decide_eq_false c11
                        clear c11
                        have H' := Aside0.mk H
                        clear H
                        have p155 : 0 ≤ (x5_2 : Int) := of_decide_eq_true (by first | (with_reducible assumption) | assumption)
                        have q155 : x5_2 < (l1.length : Int) := of_decide_eq_true (by first | (with_reducible assumption) | assumption)
                        obtain ⟨ad155, e155, hx155_0, hx155_1, hx155_2⟩ := at_T39 HR1.out x5_2 p155 q155
                        cases e155
                        replace p155 := eq_true p155
                        replace q155 := eq_true q155
                        have p156 : 0 ≤ (x5_2 : Int) := of_decide_eq_true (by first | (with_reducible assumption) | assumption)
                        have q156 : x5_2 < (l1.length : Int) := of_decide_eq_true (by first | (with_reducible assumption) | assumption)
                        obtain ⟨ad156, e156, hx156_0, hx156_1, hx156_2⟩ := at_T39 HR1.out x5_2 p156 q156
                        obtain rfl : ad155 = ad156 := (by injection e156)
                        replace p156 := eq_true p156
                        replace q156 := eq_true q156
                        have p157 : 0 ≤ (x5_2 : Int) := of_decide_eq_true (by first | (with_reducible assumption) | assumption)
                        have q157 : x5_2 < (l1.length : Int) := of_decide_eq_true (by first | (with_reducible assumption) | assumption)
                        obtain ⟨ad157, e157, hx157_0, hx157_1, hx157_2⟩ := at_T39 HR1.out x5_2 p157 q157
                        obtain rfl : ad155 = ad157 := (by injection e157)
                        replace p157 := eq_true p157
                        replace q157 := eq_true q157
                        have p158 : 0 ≤ (x5_2 : Int) := of_decide_eq_true (by first | (with_reducible assumption) | assumption)
                        have q158 : x5_2 < (l1.length : Int) := of_decide_eq_true (by first | (with_reducible assumption) | assumption)
                        obtain ⟨ad158, e158, hx158_0, hx158_1, hx158_2⟩ := at_T39 HR1.out x5_2 p158 q158
                        obtain rfl : ad155 = ad158 := (by injection e158)
                        replace p158 := eq_true p158
                        replace q158 := eq_true q158
                        go_wp2
                        repeat (go_quiet (fail); try go_wp2)
                        go_meet
                        case rel => exact ⟨_, (decide (((rd_T39 l1 x5_2).f1) ≥ a0)), (by first | rfl | (simp; done) | (simp [*]; done)), H', ⟨by have := HJ2.out; have := HK2.out; first | omega | exact Nat.le_refl _⟩, by repeat (first | exact Drawn0.refl _ | apply Drawn0.step)⟩
                  · rw [if_neg c9] at H
                    exact absurd H (by simp)
                case rest =>
                  clear HC8
                  try clear c1
                  try clear p1
                  try clear q1
                  try clear hx1
                  try clear c2
                  try clear p2
                  try clear c4
                  try clear c4b0
                  try clear c5
                  try clear c6
                  try clear c6b0
                  try clear c6b1
                  try clear c7
                  try clear c7b0
                  try clear c9
                  try clear c9b0
                  try clear c10
                  try clear c10b0
                  try clear c11
                  try clear c11b0
                  try clear hx155_0
                  try clear hx155_1
                  try clear hx155_2
                  try clear hx156_0
                  try clear hx156_1
                  try clear hx156_2
                  try clear hx157_0
                  try clear hx157_1
                  try clear hx157_2
                  try clear hx158_0
                  try clear hx158_1
                  try clear hx158_2
                  try clear p155
                  try clear p156
                  try clear p157
                  try clear p158
                  try clear p2
                  try clear q155
                  try clear q156
                  try clear q157
                  try clear q158
                  obtain ⟨kq, x49_7, rfl, HA, HJ7, ⟨mc7, rfl⟩⟩ := hcut
                  cases kq with
                  | zero => exact absurd HA.out (by simp [drovewayref09_Ties.j2])
                  | succ kj7 =>
                    have H := HA.out
                    clear HA
                    simp only [drovewayref09_Ties.j2] at H
                    by_cases c12 : x49_7 = true
                    · subst c12
                      have H1 : (some 2) = some r := by rw [if_pos rfl] at H; exact H
                      clear H
                      have H := H1
                      clear H1
                      obtain rfl := Option.some.inj H
                      go_wp2
                      repeat (go_quiet (fail); try go_wp2)
                      go_ret
                      exact ⟨by first | rfl | (simp; done) | (simp [*]; done), by repeat (first | exact Drawn0.refl _ | apply Drawn0.step)⟩
                    · replace c12 := Bool.eq_false_iff.mpr c12
                      subst c12
                      have H1 : (drovewayref09_Ties.l1 kj7 a0 l1 x5_2 0) = some r := by rw [if_neg (show ¬ (false = true) by decide)] at H; exact H
                      clear H
                      have H := H1
                      clear H1
                      have H' := Aside0.mk H
                      clear H
                      go_wp2
                      repeat (go_quiet (fail); try go_wp2)
                      go_loopg [6] kj7 (fun kq v6 w' => ∃ (x6_4 : Int), v6 = .int .i64 x6_4 ∧ Aside0 (drovewayref09_Ties.l1 kq a0 l1 x5_2 x6_4 = some r) ∧ Aside0 (kq ≤ kj7) ∧ Drawn0 w w')
                      case atStart => exact ⟨(0), (by first | rfl | (simp; done) | (simp [*]; done)), H', ⟨Nat.le_refl _⟩, by repeat (first | exact Drawn0.refl _ | apply Drawn0.step)⟩
                      case round =>
                        clear H'
                        try clear c1
                        try clear p1
                        try clear q1
                        try clear hx1
                        try clear c2
                        try clear p2
                        try clear c4
                        try clear c4b0
                        try clear c5
                        try clear c6
                        try clear c6b0
                        try clear c6b1
                        try clear c7
                        try clear c7b0
                        try clear c9
                        try clear c9b0
                        try clear c10
                        try clear c10b0
                        try clear c11
                        try clear c11b0
                        try clear c12
                        try clear hx155_0
                        try clear hx155_1
                        try clear hx155_2
                        try clear hx156_0
                        try clear hx156_1
                        try clear hx156_2
                        try clear hx157_0
                        try clear hx157_1
                        try clear hx157_2
                        try clear hx158_0
                        try clear hx158_1
                        try clear hx158_2
                        try clear p1
                        try clear p155
                        try clear p156
                        try clear p157
                        try clear p158
                        try clear p2
                        try clear q1
                        try clear q155
                        try clear q156
                        try clear q157
                        try clear q158
                        obtain ⟨x6_4, rfl, HA, HK4, ⟨m4, rfl⟩⟩ := hrel
                        cases gk with
                        | zero => exact absurd HA.out (by simp [drovewayref09_Ties.l1])
                        | succ k4 =>
                          have H := HA.out
                          clear HA
                          simp only [drovewayref09_Ties.l1] at H
                          by_cases c13 : x6_4 < x5_2
                          · rw [if_pos c13] at H
                            have c13b0 : decide (x6_4 < x5_2) = true := decide_eq_true c13
                            clear c13
                            by_cases c14 : 0 ≤ x6_4
                            · rw [if_pos c14] at H
                              have c14b0 : decide (0 ≤ x6_4) = true := decide_eq_true c14
                              clear c14
                              by_cases c15 : x6_4 < (l1.length : Int)
                              · rw [if_pos c15] at H
                                have c15b0 : decide (x6_4 < (l1.length : Int)) = true := decide_eq_true c15
                                clear c15
                                by_cases c16 : 0 ≤ x5_2
                                · rw [if_pos c16] at H
                                  have c16b0 : decide (0 ≤ x5_2) = true := decide_eq_true c16
                                  clear c16
                                  by_cases c17 : x5_2 < (l1.length : Int)
                                  · rw [if_pos c17] at H
                                    have c17b0 : decide (x5_2 < (l1.length : Int)) = true := decide_eq_true c17
                                    clear c17
                                    by_cases c18 : ((rd_T39 l1 x6_4).f0) = ((rd_T39 l1 x5_2).f0)
                                    · rw [if_pos c18] at H
                                      have c18b0 : (((rd_T39 l1 x6_4).f0) == ((rd_T39 l1 x5_2).f0)) = true := beq_iff_eq.mpr c18
                                      have c18b1 : (((rd_T39 l1 x6_4).f0) != ((rd_T39 l1 x5_2).f0)) = false := bne_eq_false_iff_eq.mpr c18
                                      clear c18
                                      by_cases c19 : ((rd_T39 l1 x6_4).f1) = ((rd_T39 l1 x5_2).f1)
                                      · rw [if_pos c19] at H
                                        have c19b0 : (((rd_T39 l1 x6_4).f1) == ((rd_T39 l1 x5_2).f1)) = true := beq_iff_eq.mpr c19
                                        have c19b1 : (((rd_T39 l1 x6_4).f1) != ((rd_T39 l1 x5_2).f1)) = false := bne_eq_false_iff_eq.mpr c19
                                        clear c19
                                        obtain rfl := Option.some.inj H
                                        have p159 : 0 ≤ (x6_4 : Int) := of_decide_eq_true (by first | (with_reducible assumption) | assumption)
                                        have q159 : x6_4 < (l1.length : Int) := of_decide_eq_true (by first | (with_reducible assumption) | assumption)
                                        obtain ⟨ad159, e159, hx159_0, hx159_1, hx159_2⟩ := at_T39 HR1.out x6_4 p159 q159
                                        cases e159
                                        replace p159 := eq_true p159
                                        replace q159 := eq_true q159
                                        have p160 : 0 ≤ (x5_2 : Int) := of_decide_eq_true (by first | (with_reducible assumption) | assumption)
                                        have q160 : x5_2 < (l1.length : Int) := of_decide_eq_true (by first | (with_reducible assumption) | assumption)
                                        obtain ⟨ad160, e160, hx160_0, hx160_1, hx160_2⟩ := at_T39 HR1.out x5_2 p160 q160
                                        obtain rfl : ad159 = ad160 := (by injection e160)
                                        replace p160 := eq_true p160
                                        replace q160 := eq_true q160
                                        have p161 : 0 ≤ (x6_4 : Int) := of_decide_eq_true (by first | (with_reducible assumption) | assumption)
                                        have q161 : x6_4 < (l1.length : Int) := of_decide_eq_true (by first | (with_reducible assumption) | assumption)
                                        obtain ⟨ad161, e161, hx161_0, hx161_1, hx161_2⟩ := at_T39 HR1.out x6_4 p161 q161
                                        obtain rfl : ad159 = ad161 := (by injection e161)
                                        replace p161 := eq_true p161
                                        replace q161 := eq_true q161
                                        have p162 : 0 ≤ (x5_2 : Int) := of_decide_eq_true (by first | (with_reducible assumption) | assumption)
                                        have q162 : x5_2 < (l1.length : Int) := of_decide_eq_true (by first | (with_reducible assumption) | assumption)
                                        obtain ⟨ad162, e162, hx162_0, hx162_1, hx162_2⟩ := at_T39 HR1.out x5_2 p162 q162
                                        obtain rfl : ad159 = ad162 := (by injection e162)
                                        replace p162 := eq_true p162
                                        replace q162 := eq_true q162
                                        go_wp2
                                        repeat (go_quiet (fail); try go_wp2)
                                        go_ret
                                        exact ⟨by first | rfl | (simp; done) | (simp [*]; done), by repeat (first | exact Drawn0.refl _ | apply Drawn0.step)⟩
                                      · rw [if_neg c19] at H
                                        have c19b0 : (((rd_T39 l1 x6_4).f1) == ((rd_T39 l1 x5_2).f1)) = false := beq_eq_false_iff_ne.mpr c19
                                        have c19b1 : (((rd_T39 l1 x6_4).f1) != ((rd_T39 l1 x5_2).f1)) = true := bne_iff_ne.mpr c19
                                        have H' := Aside0.mk H
                                        clear H
                                        have p159 : 0 ≤ (x6_4 : Int) := of_decide_eq_true (by first | (with_reducible assumption) | assumption)
                                        have q159 : x6_4 < (l1.length : Int) := of_decide_eq_true (by first | (with_reducible assumption) | assumption)
                                        obtain ⟨ad159, e159, hx159_0, hx159_1, hx159_2⟩ := at_T39 HR1.out x6_4 p159 q159
                                        cases e159
                                        replace p159 := eq_true p159
                                        replace q159 := eq_true q159
                                        have p160 : 0 ≤ (x5_2 : Int) := of_decide_eq_true (by first | (with_reducible assumption) | assumption)
                                        have q160 : x5_2 < (l1.length : Int) := of_decide_eq_true (by first | (with_reducible assumption) | assumption)
                                        obtain ⟨ad160, e160, hx160_0, hx160_1, hx160_2⟩ := at_T39 HR1.out x5_2 p160 q160
                                        obtain rfl : ad159 = ad160 := (by injection e160)
                                        replace p160 := eq_true p160
                                        replace q160 := eq_true q160
                                        have p161 : 0 ≤ (x6_4 : Int) := of_decide_eq_true (by first | (with_reducible assumption) | assumption)
                                        have q161 : x6_4 < (l1.length : Int) := of_decide_eq_true (by first | (with_reducible assumption) | assumption)
                                        obtain ⟨ad161, e161, hx161_0, hx161_1, hx161_2⟩ := at_T39 HR1.out x6_4 p161 q161
                                        obtain rfl : ad159 = ad161 := (by injection e161)
                                        replace p161 := eq_true p161
                                        replace q161 := eq_true q161
                                        have p162 : 0 ≤ (x5_2 : Int) := of_decide_eq_true (by first | (with_reducible assumption) | assumption)
                                        have q162 : x5_2 < (l1.length : Int) := of_decide_eq_true (by first | (with_reducible assumption) | assumption)
                                        obtain ⟨ad162, e162, hx162_0, hx162_1, hx162_2⟩ := at_T39 HR1.out x5_2 p162 q162
                                        obtain rfl : ad159 = ad162 := (by injection e162)
                                        replace p162 := eq_true p162
                                        replace q162 := eq_true q162
                                        go_wp2
                                        repeat (go_quiet (fail); try go_wp2)
                                        go_roundg k4
                                        case measure => have := HJ2.out; have := HK2.out; have := HJ7.out; have := HK4.out; omega
                                        case rel => exact ⟨(wrap64 (x6_4 + 1)), (by first | rfl | (simp; done) | (simp [*]; done)), H', ⟨by have := HJ2.out; have := HK2.out; have := HJ7.out; have := HK4.out; omega⟩, by repeat (first | exact Drawn0.refl _ | apply Drawn0.step)⟩
                                    · rw [if_neg c18] at H
                                      have c18b0 : (((rd_T39 l1 x6_4).f0) == ((rd_T39 l1 x5_2).f0)) = false := beq_eq_false_iff_ne.mpr c18
                                      have c18b1 : (((rd_T39 l1 x6_4).f0) != ((rd_T39 l1 x5_2).f0)) = true := bne_iff_ne.mpr c18
                                      have H' := Aside0.mk H
                                      clear H
                                      have p159 : 0 ≤ (x6_4 : Int) := of_decide_eq_true (by first | (with_reducible assumption) | assumption)
                                      have q159 : x6_4 < (l1.length : Int) := of_decide_eq_true (by first | (with_reducible assumption) | assumption)
                                      obtain ⟨ad159, e159, hx159_0, hx159_1, hx159_2⟩ := at_T39 HR1.out x6_4 p159 q159
                                      cases e159
                                      replace p159 := eq_true p159
                                      replace q159 := eq_true q159
                                      have p160 : 0 ≤ (x5_2 : Int) := of_decide_eq_true (by first | (with_reducible assumption) | assumption)
                                      have q160 : x5_2 < (l1.length : Int) := of_decide_eq_true (by first | (with_reducible assumption) | assumption)
                                      obtain ⟨ad160, e160, hx160_0, hx160_1, hx160_2⟩ := at_T39 HR1.out x5_2 p160 q160
                                      obtain rfl : ad159 = ad160 := (by injection e160)
                                      replace p160 := eq_true p160
                                      replace q160 := eq_true q160
                                      go_wp2
                                      repeat (go_quiet (fail); try go_wp2)
                                      go_roundg k4
                                      case measure => have := HJ2.out; have := HK2.out; have := HJ7.out; have := HK4.out; omega
                                      case rel => exact ⟨(wrap64 (x6_4 + 1)), (by first | rfl | (simp; done) | (simp [*]; done)), H', ⟨by have := HJ2.out; have := HK2.out; have := HJ7.out; have := HK4.out; omega⟩, by repeat (first | exact Drawn0.refl _ | apply Drawn0.step)⟩
                                  · rw [if_neg c17] at H
                                    exact absurd H (by simp)
                                · rw [if_neg c16] at H
                                  exact absurd H (by simp)
                              · rw [if_neg c15] at H
                                exact absurd H (by simp)
                            · rw [if_neg c14] at H
                              exact absurd H (by simp)
                          · rw [if_neg c13] at H
                            have c13b0 : decide (x6_4 < x5_2) = false := decide_eq_false c13
                            clear c13
                            have H' := Aside0.mk H
                            clear H
                            go_wp2
                            repeat (go_quiet (fail); try go_wp2)
                            go_roundg k4
                            case measure => have := HJ2.out; have := HK2.out; have := HJ7.out; have := HK4.out; omega
                            case rel => exact ⟨(wrap64 (x5_2 + 1)), (by first | rfl | (simp; done) | (simp [*]; done)), H', ⟨by have := HJ2.out; have := HK2.out; have := HJ7.out; have := HK4.out; omega⟩, by repeat (first | exact Drawn0.refl _ | apply Drawn0.step)⟩
              · rw [if_neg c7] at H
                have c7b0 : decide (x5_2 < (l1.length : Int)) = false := decide_eq_false c7
                clear c7
                obtain rfl := Option.some.inj H
                go_wp2
                repeat (go_quiet (fail); try go_wp2)
                go_ret
                exact ⟨by first | rfl | (simp; done) | (simp [*]; done), by repeat (first | exact Drawn0.refl _ | apply Drawn0.step)⟩

end
end Go.Proofs.Ytaegldcifhgnmaa.B

/- alive: what every right program knows of three drovers. -/
namespace Go.Proofs.Ytaegldcifhgnmaa.B
open Go.Proofs.Ytaegldcifhgnmaa.A
open Go.RowKit Go.Proofs.YtaegldcifhgnmaaW.PrintWords Go.Proofs.YtaegldcifhgnmaaW.PrintMore

theorem same_calls {A : Option Addr} {c : Nat} {l : List Int} {A2 : Option Addr} {c2 : Nat} {l2 : List Int} {w : World} (hr : Kd.C (Kd.int .i64) w A l.length l) (hc : l.length ≤ c) (hr2 : Kd.C (Kd.int .i64) w A2 l2.length l2) (hc2 : l2.length ≤ c2) {r : Bool} (h : drovewaylaw09_same.f 10 l l2 = some r) :
    Calls Try.prog 22 #[.slice A l.length c, .slice A2 l2.length c2] w fun e w' => e = .returned (.bool r) ∧ Below w.heap.size w w' :=
  (drovewaylaw09_same.calls 10 A c l A2 c2 l2 r w hr hc hr2 hc2 h).mono fun _ _ ⟨a, b⟩ => ⟨a, b.below⟩

theorem three_calls (w : World) : Calls Try.prog 45 #[] w fun e w' => ∃ A c, e = .returned (.slice A 3 c) ∧ 3 ≤ c ∧ Kd.C k39 w' A 3 threeL ∧ Below w.heap.size w w' :=
  (drovewaylaw09_three.calls threeL w rfl).mono fun _ _ ⟨v, h1, h2, h3⟩ => by
    obtain ⟨A, c, rfl, hc, hC⟩ := Kd.R_reads h2
    exact ⟨A, c, h1, hc, hC, h3⟩

def drovewaylaw09_alive.f : Option Bool := some true
theorem two_reads (W : World) : Kd.C k39 (W.alloc (.cells #[.int .i64 0, .int .i64 1, .bool false, .int .i64 0, .int .i64 2, .bool true] 39)) (some ⟨W.heap.size, 0, none⟩) 2 twoL := by
  refine ⟨rfl, by decide, fun _ => ⟨_, rfl, fun j p hj => ?_⟩⟩
  have hb := heap_alloc_new W (.cells #[.int .i64 0, .int .i64 1, .bool false, .int .i64 0, .int .i64 2, .bool true] 39)
  refine ⟨_, rfl, k39_mk _ p, fun i u hu => ?_⟩
  rw [add_plain, blk_cell hb]
  match j, hj, i, hu with
  | 0, hj, 0, hu => cases hj; exact hu
  | 0, hj, 1, hu => cases hj; exact hu
  | 0, hj, 2, hu => cases hj; exact hu
  | 1, hj, 0, hu => cases hj; exact hu
  | 1, hj, 1, hu => cases hj; exact hu
  | 1, hj, 2, hu => cases hj; exact hu

theorem lit_reads (W : World) (l : List Int) (hl : l.length ≤ 1000) : Kd.C (Kd.int .i64) (W.alloc (.cells (l.map fun x => Value.int .i64 x).toArray 3)) (some ⟨W.heap.size, 0, none⟩) l.length l := by
  have hb := heap_alloc_new W (.cells (l.map fun x => Value.int .i64 x).toArray 3)
  refine ⟨rfl, by omega, fun _ => ⟨_, rfl, fun j p hj => ⟨[.int .i64 p], rfl, rfl, fun i u hu => ?_⟩⟩⟩
  rw [add_plain, blk_cell hb]
  match i, hu with
  | 0, hu =>
    cases hu
    show (l.map fun x => Value.int .i64 x).toArray[j * 1 + 0]? = _
    rw [Nat.mul_one, Nat.add_zero, List.getElem?_toArray, List.getElem?_map, hj]; rfl

set_option maxRecDepth 100000 in
set_option maxHeartbeats 3200000 in
theorem alive_calls (w : World) : Calls Try.prog 17 #[] w fun e w' => e = .returned (.bool true) ∧ Below w.heap.size w w' := by
  have HB := Aside0.mk (Below.refl w.heap.size w)
  go_enter Try.func17, Try.ntmps17
  go_wp2_with fail
  refine (three_calls _).mono ?_
  rintro e w1a ⟨A1, c1, rfl, hc1, hC1, hb⟩
  have HC1 := Aside0.mk hC1; have Hc1 := Aside0.mk hc1; have HB1 := Aside0.mk (below_then HB.out HB.out.size hb); clear hC1 hc1 hb
  go_wp2_with fail
  refine (feuds_Sides.calls 3 A1 c1 threeL 0 10 _ HC1.out Hc1.out three_Sides).mono ?_
  rintro e w1b ⟨rfl, hb⟩; have HB2 := Aside0.mk (below_then HB1.out HB1.out.size hb); clear hb HC1 Hc1
  go_wp2_with fail
  refine (three_calls _).mono ?_
  rintro e w2a ⟨A2, c2, rfl, hc2, hC2, hb⟩
  have HC2 := Aside0.mk hC2; have Hc2 := Aside0.mk hc2; have HB3 := Aside0.mk (below_then HB2.out HB2.out.size hb); clear hC2 hc2 hb
  go_wp2_with fail
  refine (feuds_Ring.calls 3 A2 c2 threeL [0, 1, 2] 0 _ HC2.out Hc2.out three_Ring).mono ?_
  rintro e w2b ⟨v, rfl, hr, hb⟩; obtain ⟨AR, cR, rfl, hcR, hRR⟩ := Kd.R_reads hr; have HcR := Aside0.mk hcR; have HRR := Aside0.mk hRR; have HB4 := Aside0.mk (below_then HB3.out HB3.out.size hb); clear hb HC2 Hc2 hr hcR hRR
  go_wp2_with fail
  refine (three_calls _).mono ?_
  rintro e w3a ⟨A3, c3, rfl, hc3, hC3, hb⟩
  have HC3 := Aside0.mk hC3; have Hc3 := Aside0.mk hc3; have HB5 := Aside0.mk (below_then HB4.out HB4.out.size hb); have HRR' := Aside0.mk (Kd.C_below HRR.out hb); clear HRR; have HRR := HRR'; clear HRR'; clear hC3 hc3 hb
  go_wp2_with fail
  refine (feuds_Least.calls 3 A3 c3 threeL 1 [2] 0 _ HC3.out Hc3.out three_Least).mono ?_
  rintro e w3b ⟨v, rfl, hr, hb⟩; obtain ⟨AL, cL, rfl, hcL, hLL⟩ := Kd.R_reads hr; have HcL := Aside0.mk hcL; have HLL := Aside0.mk hLL; have HB6 := Aside0.mk (below_then HB5.out HB5.out.size hb); have HRR' := Aside0.mk (Kd.C_below HRR.out hb); clear HRR; have HRR := HRR'; clear HRR'; clear hb HC3 Hc3 hr hcL hLL
  go_wp2_with fail
  refine (three_calls _).mono ?_
  rintro e w4a ⟨A4, c4, rfl, hc4, hC4, hb⟩
  have HC4 := Aside0.mk hC4; have Hc4 := Aside0.mk hc4; have HB7 := Aside0.mk (below_then HB6.out HB6.out.size hb); have HRR' := Aside0.mk (Kd.C_below HRR.out hb); clear HRR; have HRR := HRR'; clear HRR'; have HLL' := Aside0.mk (Kd.C_below HLL.out hb); clear HLL; have HLL := HLL'; clear HLL'; clear hC4 hc4 hb
  go_wp2_with fail
  refine (feuds_Clans.calls 3 A4 c4 threeL [1, 2, 4] 0 _ HC4.out Hc4.out three_Clans).mono ?_
  rintro e w4b ⟨v, rfl, hr, hb⟩; obtain ⟨AC, cC, rfl, hcC, hCC⟩ := Kd.R_reads hr; have HcC := Aside0.mk hcC; have HCC := Aside0.mk hCC; have HB8 := Aside0.mk (below_then HB7.out HB7.out.size hb); have HRR' := Aside0.mk (Kd.C_below HRR.out hb); clear HRR; have HRR := HRR'; clear HRR'; have HLL' := Aside0.mk (Kd.C_below HLL.out hb); clear HLL; have HLL := HLL'; clear HLL'; clear hb HC4 Hc4 hr hcC hCC
  go_wp2_with fail
  refine (three_calls _).mono ?_
  rintro e w5a ⟨A5, c5, rfl, hc5, hC5, hb⟩
  have HC5 := Aside0.mk hC5; have Hc5 := Aside0.mk hc5; have HB9 := Aside0.mk (below_then HB8.out HB8.out.size hb); have HRR' := Aside0.mk (Kd.C_below HRR.out hb); clear HRR; have HRR := HRR'; clear HRR'; have HLL' := Aside0.mk (Kd.C_below HLL.out hb); clear HLL; have HLL := HLL'; clear HLL'; have HCC' := Aside0.mk (Kd.C_below HCC.out hb); clear HCC; have HCC := HCC'; clear HCC'; clear hC5 hc5 hb
  go_wp2_with fail
  refine (feuds_Classes.calls 3 A5 c5 threeL 2 0 _ HC5.out Hc5.out three_Classes).mono ?_
  rintro e w5b ⟨rfl, hb⟩; have HB10 := Aside0.mk (below_then HB9.out HB9.out.size hb); have HRR' := Aside0.mk (Kd.C_below HRR.out hb); clear HRR; have HRR := HRR'; clear HRR'; have HLL' := Aside0.mk (Kd.C_below HLL.out hb); clear HLL; have HLL := HLL'; clear HLL'; have HCC' := Aside0.mk (Kd.C_below HCC.out hb); clear HCC; have HCC := HCC'; clear HCC'; clear hb HC5 Hc5
  go_wp2_with fail
  refine (feuds_Sides.calls 3 _ 2 twoL 3 0 _ (two_reads w5b) (Nat.le_refl 2) two_Sides).mono ?_
  rintro e w6b ⟨rfl, hb0⟩; have hb := below_then (below_alloc (Below.refl w5b.heap.size w5b) (.cells #[.int .i64 0, .int .i64 1, .bool false, .int .i64 0, .int .i64 2, .bool true] 39)) (below_alloc (Below.refl w5b.heap.size w5b) (.cells #[.int .i64 0, .int .i64 1, .bool false, .int .i64 0, .int .i64 2, .bool true] 39)).size hb0; have HB11 := Aside0.mk (below_then HB10.out HB10.out.size hb); have HRR' := Aside0.mk (Kd.C_below HRR.out hb); clear HRR; have HRR := HRR'; clear HRR'; have HLL' := Aside0.mk (Kd.C_below HLL.out hb); clear HLL; have HLL := HLL'; clear HLL'; have HCC' := Aside0.mk (Kd.C_below HCC.out hb); clear HCC; have HCC := HCC'; clear HCC'; clear hb hb0
  go_wp2_with fail
  have hlit := lit_reads w6b [0, 1, 2] (by decide)
  refine (same_calls (l := [0, 1, 2]) (l2 := [0, 1, 2]) (Kd.C_below HRR.out (below_alloc (Below.refl _ _) _)) HcR.out hlit (Nat.le_refl _) (r := true) (by kernel_rfl)).mono ?_
  rintro e w7b ⟨rfl, hb0⟩; have hb := below_then (below_alloc (Below.refl w6b.heap.size w6b) (.cells #[.int .i64 0, .int .i64 1, .int .i64 2] 3)) (below_alloc (Below.refl w6b.heap.size w6b) (.cells #[.int .i64 0, .int .i64 1, .int .i64 2] 3)).size hb0; have HB12 := Aside0.mk (below_then HB11.out HB11.out.size hb); have HRR' := Aside0.mk (Kd.C_below HRR.out hb); clear HRR; have HRR := HRR'; clear HRR'; have HLL' := Aside0.mk (Kd.C_below HLL.out hb); clear HLL; have HLL := HLL'; clear HLL'; have HCC' := Aside0.mk (Kd.C_below HCC.out hb); clear HCC; have HCC := HCC'; clear HCC'; clear hb hb0 hlit
  go_wp2_with fail
  have hlit := lit_reads w7b [2] (by decide)
  refine (same_calls (l := [2]) (l2 := [2]) (Kd.C_below HLL.out (below_alloc (Below.refl _ _) _)) HcL.out hlit (Nat.le_refl _) (r := true) (by kernel_rfl)).mono ?_
  rintro e w8b ⟨rfl, hb0⟩; have hb := below_then (below_alloc (Below.refl w7b.heap.size w7b) (.cells #[.int .i64 2] 3)) (below_alloc (Below.refl w7b.heap.size w7b) (.cells #[.int .i64 2] 3)).size hb0; have HB13 := Aside0.mk (below_then HB12.out HB12.out.size hb); have HLL' := Aside0.mk (Kd.C_below HLL.out hb); clear HLL; have HLL := HLL'; clear HLL'; have HCC' := Aside0.mk (Kd.C_below HCC.out hb); clear HCC; have HCC := HCC'; clear HCC'; clear hb hb0 hlit
  go_wp2_with fail
  have hlit := lit_reads w8b [1, 2, 4] (by decide)
  refine (same_calls (l := [1, 2, 4]) (l2 := [1, 2, 4]) (Kd.C_below HCC.out (below_alloc (Below.refl _ _) _)) HcC.out hlit (Nat.le_refl _) (r := true) (by kernel_rfl)).mono ?_
  rintro e w9b ⟨rfl, hb0⟩; have hb := below_then (below_alloc (Below.refl w8b.heap.size w8b) (.cells #[.int .i64 1, .int .i64 2, .int .i64 4] 3)) (below_alloc (Below.refl w8b.heap.size w8b) (.cells #[.int .i64 1, .int .i64 2, .int .i64 4] 3)).size hb0; have HB14 := Aside0.mk (below_then HB13.out HB13.out.size hb); have HLL' := Aside0.mk (Kd.C_below HLL.out hb); clear HLL; have HLL := HLL'; clear HLL'; have HCC' := Aside0.mk (Kd.C_below HCC.out hb); clear HCC; have HCC := HCC'; clear HCC'; clear hb hb0 hlit
  go_wp2_with fail
  go_ret
  exact ⟨rfl, HB14.out⟩
theorem drovewaylaw09_alive.calls (r : Bool) (w : World) (h : drovewaylaw09_alive.f = some r) : Calls Try.prog 17 #[] w fun e w' => e = .returned (.bool r) ∧ Below w.heap.size w w' := by
  cases h
  exact alive_calls w
end Go.Proofs.Ytaegldcifhgnmaa.B

/- What the law package's own small functions and the reference's Ties compute (plain). -/
namespace Go.Proofs.Ytaegldcifhgnmaa.B
open Go.Proofs.Ytaegldcifhgnmaa.A
open Go.RowKit Go.Proofs.YtaegldcifhgnmaaW.PrintWords Go.Proofs.YtaegldcifhgnmaaW.PrintMore

theorem few_eq (l : List S39) (r : List Int) : drovewaylaw09_few.f l r = some (decide (l.length ≤ 60 ∧ r.length ≤ 60)) := by
  unfold drovewaylaw09_few.f
  by_cases h1 : (l.length : Int) ≤ 60
  · rw [if_pos h1]
    congr 1
    rw [decide_eq_decide]
    omega
  · rw [if_neg h1]
    congr 1
    symm
    rw [decide_eq_false_iff_not]
    omega
theorem wrapS {i n : Nat} (h : i < n) (hn : n ≤ 140737488351232) : wrap64 ((i : Int) + 1) = ((i + 1 : Nat) : Int) := by rw [wrap64_id] <;> omega

/-! ### same -/
theorem same_l0 (l : List Int) (hl : l.length ≤ 140737488351232) : ∀ n i, l.length - i = n → i ≤ l.length → Ev (fun k => drovewaylaw09_same.l0 k l l (i : Int)) true := by
  intro n
  induction n with
  | zero =>
    intro i hn hi
    refine Ev.step (f := fun _ => some true) (fun k => ?_) (Ev.now _)
    rw [drovewaylaw09_same.l0, if_neg (by omega)]
  | succ n ih =>
    intro i hn hi
    refine Ev.step (fun k => ?_) (ih (i + 1) (by omega) (by omega))
    rw [drovewaylaw09_same.l0, if_pos (by omega), if_pos (by omega), if_pos (by omega), if_pos rfl, wrapS (show i < l.length by omega) hl]
theorem same_ev {l l' : List Int} (hl : l.length ≤ 140737488351232) (h : l = l') : Ev (fun k => drovewaylaw09_same.f k l l') true := by
  subst h
  refine Ev.congr (fun k => ?_) (same_l0 l hl _ 0 rfl (Nat.zero_le _))
  unfold drovewaylaw09_same.f
  rw [if_pos rfl]
  rfl

/-! ### Ties -/
theorem rdT (l : List S39) (i : Nat) : rd_T39 l (i : Int) = l.getD i z39 := by simp [rd_T39]

section
variable {n : Int} {l : List S39}
theorem ties_l1_ok (hl : l.length ≤ 1000) {i : Nat} (hi : i < l.length) {r : Int} (h : Ev (fun k => drovewayref09_Ties.l0 k n l ((i + 1 : Nat) : Int)) r) (hp : ∀ j, j < i → pairT (l.getD j z39) ≠ pairT (l.getD i z39)) : ∀ m j, i - j = m → j ≤ i → Ev (fun k => drovewayref09_Ties.l1 k n l (i : Int) (j : Int)) r := by
  intro m
  induction m with
  | zero =>
    intro j hm hj
    refine Ev.step (fun k => ?_) h
    rw [drovewayref09_Ties.l1, if_neg (by omega), wrapS hi (by omega)]
  | succ m ih =>
    intro j hm hj
    refine Ev.step (fun k => ?_) (ih (j + 1) (by omega) (by omega))
    have hne := hp j (by omega)
    rw [drovewayref09_Ties.l1, if_pos (by omega), if_pos (by omega), if_pos (by omega), if_pos (by omega), if_pos (by omega), rdT, rdT, wrapS (show j < l.length by omega) (by omega)]
    by_cases h0 : (l.getD j z39).f0 = (l.getD i z39).f0
    · rw [if_pos h0, if_neg (fun h1 => hne (by unfold pairT; rw [h0, h1]))]
    · rw [if_neg h0]
theorem ties_l1_bad (hl : l.length ≤ 1000) {i q : Nat} (hi : i < l.length) (hq : q < i) (he : pairT (l.getD q z39) = pairT (l.getD i z39)) : ∀ m j, q - j = m → j ≤ q → Ev (fun k => drovewayref09_Ties.l1 k n l (i : Int) (j : Int)) 2 := by
  intro m
  induction m with
  | zero =>
    intro j hm hj
    obtain rfl : j = q := by omega
    unfold pairT at he
    rw [Prod.mk.injEq] at he
    refine Ev.step (f := fun _ => some 2) (fun k => ?_) (Ev.now _)
    rw [drovewayref09_Ties.l1, if_pos (by omega), if_pos (by omega), if_pos (by omega), if_pos (by omega), if_pos (by omega), rdT, rdT, if_pos he.1, if_pos he.2]
  | succ m ih =>
    intro j hm hj
    have h2 := ih (j + 1) (by omega) (by omega)
    by_cases h : pairT (l.getD j z39) = pairT (l.getD i z39)
    · unfold pairT at h
      rw [Prod.mk.injEq] at h
      refine Ev.step (f := fun _ => some 2) (fun k => ?_) (Ev.now _)
      rw [drovewayref09_Ties.l1, if_pos (by omega), if_pos (by omega), if_pos (by omega), if_pos (by omega), if_pos (by omega), rdT, rdT, if_pos h.1, if_pos h.2]
    · refine Ev.step (fun k => ?_) h2
      rw [drovewayref09_Ties.l1, if_pos (by omega), if_pos (by omega), if_pos (by omega), if_pos (by omega), if_pos (by omega), rdT, rdT, wrapS (show j < l.length by omega) (by omega)]
      by_cases h0 : (l.getD j z39).f0 = (l.getD i z39).f0
      · rw [if_pos h0, if_neg (fun h1 => h (by unfold pairT; rw [h0, h1]))]
      · rw [if_neg h0]
theorem ties_l0_in {i : Nat} (hi : i < l.length) (k : Nat) : drovewayref09_Ties.l0 (k + 1) n l (i : Int) = drovewayref09_Ties.j2 k n l (i : Int) (!okT n (l.getD i z39)) := by
  rw [drovewayref09_Ties.l0, if_pos (by omega), if_pos (by omega), rdT]
  unfold okT
  by_cases h0 : (l.getD i z39).f0 < 0
  · rw [if_pos h0]
    congr 1
    rw [decide_eq_false (by omega)]; rfl
  · rw [if_neg h0]
    by_cases h1 : (l.getD i z39).f0 ≥ (l.getD i z39).f1
    · rw [if_pos h1]
      congr 1
      rw [decide_eq_false (p := (l.getD i z39).f0 < (l.getD i z39).f1) (by omega), Bool.and_false]; rfl
    · rw [if_neg h1]
      congr 1
      rw [decide_eq_true (p := 0 ≤ (l.getD i z39).f0) (by omega), decide_eq_true (p := (l.getD i z39).f0 < (l.getD i z39).f1) (by omega), Bool.true_and, Bool.true_and, ← decide_not, decide_eq_decide]
      omega
theorem ties_step (hl : l.length ≤ 1000) {i : Nat} (hi : i < l.length) (hok : okAt n l i = true) {r : Int} (h : Ev (fun k => drovewayref09_Ties.l0 k n l ((i + 1 : Nat) : Int)) r) : Ev (fun k => drovewayref09_Ties.l0 k n l (i : Int)) r := by
  refine Ev.step (f := fun k => drovewayref09_Ties.j2 k n l (i : Int) (!okT n (l.getD i z39))) (fun k => ties_l0_in hi k) ?_
  unfold okAt at hok
  rw [Bool.and_eq_true] at hok
  rw [hok.1]
  have hp : ∀ j, j < i → pairT (l.getD j z39) ≠ pairT (l.getD i z39) := by
    intro j hj e
    have h2 := hok.2
    rw [Bool.not_eq_true', List.contains_eq_mem, decide_eq_false_iff_not] at h2
    apply h2
    rw [← e]
    refine List.mem_map.2 ⟨l.getD j z39, ?_, rfl⟩
    rw [List.mem_iff_getElem]
    exact ⟨j, by rw [List.length_take]; omega, by rw [List.getElem_take, List.getD_eq_getElem?_getD, List.getElem?_eq_getElem (by omega)]; rfl⟩
  refine Ev.step (fun k => ?_) (ties_l1_ok hl hi h hp i 0 (by omega) (Nat.zero_le _))
  rw [drovewayref09_Ties.j2]
  rfl
theorem ties_stop (hl : l.length ≤ 1000) {i : Nat} (hi : i < l.length) (hok : okAt n l i = false) : Ev (fun k => drovewayref09_Ties.l0 k n l (i : Int)) 2 := by
  refine Ev.step (f := fun k => drovewayref09_Ties.j2 k n l (i : Int) (!okT n (l.getD i z39))) (fun k => ties_l0_in hi k) ?_
  unfold okAt at hok
  cases ho : okT n (l.getD i z39) with
  | false =>
    exact Ev.step (f := fun _ => some 2) (fun k => by rw [drovewayref09_Ties.j2]; rfl) (Ev.now _)
  | true =>
    rw [ho, Bool.true_and, Bool.not_eq_false', List.contains_eq_mem, decide_eq_true_iff] at hok
    obtain ⟨t, ht, e⟩ := List.mem_map.1 hok
    obtain ⟨q, hq, rfl⟩ := List.mem_iff_getElem.1 ht
    rw [List.length_take] at hq
    rw [List.getElem_take] at e
    have e2 : pairT (l.getD q z39) = pairT (l.getD i z39) := by rw [← e, List.getD_eq_getElem?_getD, List.getElem?_eq_getElem (by omega)]; rfl
    refine Ev.step (fun k => ?_) (ties_l1_bad (n := n) hl hi (show q < i by omega) e2 q 0 (by omega) (Nat.zero_le _))
    rw [drovewayref09_Ties.j2]
    rfl
theorem ties_l0 (hl : l.length ≤ 1000) : ∀ m i, l.length - i = m → i ≤ l.length → (∀ j, j < i → okAt n l j = true) → Ev (fun k => drovewayref09_Ties.l0 k n l (i : Int)) (if okTies n l = true then 0 else 2) := by
  intro m
  induction m with
  | zero =>
    intro i hm hi hall
    refine Ev.step (f := fun _ => some 0) (fun k => ?_) ?_
    · rw [drovewayref09_Ties.l0, if_neg (by omega)]
    · rw [if_pos (okTies_yes fun j hj => hall j (by omega))]
      exact Ev.now _
  | succ m ih =>
    intro i hm hi hall
    cases hok : okAt n l i with
    | true =>
      refine ties_step hl (by omega) hok (ih (i + 1) (by omega) (by omega) fun j hj => ?_)
      by_cases e : j = i
      · rw [e]; exact hok
      · exact hall j (by omega)
    | false =>
      have := okTies_no (show i < l.length by omega) hok
      rw [this]
      exact ties_stop hl (by omega) hok
theorem Ties_ev (hl : l.length ≤ 1000) : Ev (fun k => drovewayref09_Ties.f k n l) (tiesE n l) := by
  have h0 := ties_l0 (n := n) hl l.length 0 (by omega) (Nat.zero_le _) (fun j hj => absurd hj (Nat.not_lt_zero _))
  unfold tiesE
  by_cases h1 : n < 1 ∨ 8 < n
  · rw [if_pos h1]
    refine Ev.congr (g := fun k => drovewayref09_Ties.f k n l) (f := fun k => drovewayref09_Ties.j0 k n l true) (fun k => ?_) (Ev.step (f := fun _ => some 2) (fun k => by rw [drovewayref09_Ties.j0]; rfl) (Ev.now _))
    unfold drovewayref09_Ties.f
    by_cases h2 : n < 1
    · rw [if_pos h2]
    · rw [if_neg h2, decide_eq_true (by omega)]
  · rw [if_neg h1]
    refine Ev.congr (g := fun k => drovewayref09_Ties.f k n l) (f := fun k => drovewayref09_Ties.j0 k n l false) (fun k => ?_) ?_
    · unfold drovewayref09_Ties.f
      rw [if_neg (by omega), decide_eq_false (by omega)]
    · by_cases h2 : 20 < l.length
      · rw [if_pos h2]
        refine Ev.step (f := fun _ => some 3) (fun k => ?_) (Ev.now _)
        rw [drovewayref09_Ties.j0, if_neg (by decide), if_pos (by omega)]
      · rw [if_neg h2]
        refine Ev.step (fun k => ?_) h0
        rw [drovewayref09_Ties.j0, if_neg (by decide), if_neg (by omega)]
        rfl
end
end Go.Proofs.Ytaegldcifhgnmaa.B

/- Shifts of bits, plain. -/
namespace Go.Proofs.Ytaegldcifhgnmaa.B
open Go.Proofs.Ytaegldcifhgnmaa.A
open Go.RowKit Go.Proofs.YtaegldcifhgnmaaW.PrintWords Go.Proofs.YtaegldcifhgnmaaW.PrintMore

theorem shr_mod (y k : Nat) (hk : k ≤ 60) : Int.tmod (shr .i64 (y : Int) (k : Int)) 2 = if y.testBit k = true then 1 else 0 := by
  rw [shr_nat y k hk, Nat.testBit_eq_decide_div_mod_eq]
  have h : Int.tmod ((y / 2 ^ k : Nat) : Int) 2 = ((y / 2 ^ k % 2 : Nat) : Int) := by
    rw [Int.tmod_eq_emod_of_nonneg (Int.natCast_nonneg _)]; rfl
  rw [h]
  by_cases q : y / 2 ^ k % 2 = 1
  · rw [if_pos (by simpa using q), q]; rfl
  · rw [if_neg (by simpa using q)]
    have : y / 2 ^ k % 2 = 0 := by omega
    rw [this]; rfl
theorem shl_one {m : Nat} (h : m ≤ 60) : shl .i64 1 (m : Int) = ((2 ^ m : Nat) : Int) := by
  unfold shl
  have : min ((m : Int)).toNat IntKind.i64.bits = m := by
    have : IntKind.i64.bits = 64 := rfl
    omega
  rw [this, Int.one_mul, pow_cast]
  exact wrap64_nat _ (Int.natCast_nonneg _) (by exact_mod_cast two_lt (show m < 62 by omega))
end Go.Proofs.Ytaegldcifhgnmaa.B

/- Ties of the same drovers; what Least's ties are the fewest of (plain). -/
namespace Go.Proofs.Ytaegldcifhgnmaa.A
open Go.RowKit Go.Proofs.YtaegldcifhgnmaaW.PrintWords Go.Proofs.YtaegldcifhgnmaaW.PrintMore

theorem getD_map {l : List S39} {i : Nat} (hi : i < l.length) : (l.map pairT).getD i (0, 0) = pairT (l.getD i z39) := by
  rw [List.getD_eq_getElem?_getD, List.getD_eq_getElem?_getD, List.getElem?_map, List.getElem?_eq_getElem hi]; rfl
theorem pairs_get {l l' : List S39} (h : l'.map pairT = l.map pairT) {i : Nat} (hi : i < l.length) : pairT (l'.getD i z39) = pairT (l.getD i z39) := by
  have hl : l'.length = l.length := by have := congrArg List.length h; simpa using this
  rw [← getD_map hi, ← getD_map (show i < l'.length by omega), h]
theorem okT_pair {n : Int} {t t' : S39} (h : pairT t' = pairT t) : okT n t' = okT n t := by
  unfold pairT at h
  rw [Prod.mk.injEq] at h
  unfold okT
  rw [h.1, h.2]
theorem okAt_pairs {n : Int} {l l' : List S39} (h : l'.map pairT = l.map pairT) {i : Nat} (hi : i < l.length) : okAt n l' i = okAt n l i := by
  unfold okAt
  rw [okT_pair (pairs_get h hi), pairs_get h hi, List.map_take, List.map_take, h]
theorem okTies_pairs {n : Int} {l l' : List S39} (h : l'.map pairT = l.map pairT) : okTies n l' = okTies n l := by
  have hl : l'.length = l.length := by have := congrArg List.length h; simpa using this
  unfold okTies
  rw [hl, Bool.eq_iff_iff, List.all_eq_true, List.all_eq_true]
  constructor
  · intro q i hi
    rw [← okAt_pairs h (List.mem_range.1 hi)]; exact q i hi
  · intro q i hi
    rw [okAt_pairs h (List.mem_range.1 hi)]; exact q i hi
theorem tiesE_pairs {n : Int} {l l' : List S39} (h : l'.map pairT = l.map pairT) : tiesE n l' = tiesE n l := by
  have hl : l'.length = l.length := by have := congrArg List.length h; simpa using this
  unfold tiesE
  rw [hl, okTies_pairs h]
theorem cross_pair {t t' : S39} (h : pairT t' = pairT t) (s : Nat) : crossB t' s = crossB t s := by
  unfold pairT at h
  rw [Prod.mk.injEq] at h
  unfold crossB
  rw [h.1, h.2]

/-- Do two ties differ? -/
def difB (a b : S39) : Bool := !(a.f0 == b.f0) || (!(a.f1 == b.f1) || !(a.f2 == b.f2))
theorem difB_no {a b : S39} (h : difB a b = false) : a = b := by
  obtain ⟨a0, a1, a2⟩ := a
  obtain ⟨b0, b1, b2⟩ := b
  simp [difB] at h
  obtain ⟨rfl, rfl, rfl⟩ := h
  rfl
/-- How many of the first k ties differ. -/
def difK (l l' : List S39) (k : Nat) : Nat := ((List.range k).filter fun i => difB (l'.getD i z39) (l.getD i z39)).length
theorem difK_succ (l l' : List S39) (k : Nat) : difK l l' (k + 1) = if difB (l'.getD k z39) (l.getD k z39) = true then difK l l' k + 1 else difK l l' k := by
  unfold difK
  rw [List.range_succ, List.filter_append, List.length_append]
  cases h : difB (l'.getD k z39) (l.getD k z39)
  · rw [List.filter_cons, h]; simp
  · rw [List.filter_cons, h]; simp
theorem filter_len_le {α : Type} {p q : α → Bool} : ∀ l : List α, (∀ x ∈ l, p x = true → q x = true) → (l.filter p).length ≤ (l.filter q).length
  | [], _ => Nat.le_refl _
  | x :: xs, h => by
    have ih := filter_len_le xs fun y hy => h y (List.mem_cons_of_mem _ hy)
    rw [List.filter_cons, List.filter_cons]
    by_cases hp : p x = true
    · rw [if_pos hp, if_pos (h x (List.mem_cons_self) hp)]
      simp only [List.length_cons]; omega
    · rw [if_neg hp]
      split
      · simp only [List.length_cons]; omega
      · exact ih

theorem wrongF_nil {l : List S39} {s : Nat} (h : (wrongF l s).isEmpty = true) {i : Nat} (hi : i < l.length) : wrB (l.getD i z39) s = false := by
  rw [List.isEmpty_iff] at h
  unfold wrongF wrongK at h
  rw [List.map_eq_nil_iff, List.filter_eq_nil_iff] at h
  have := h i (List.mem_range.2 hi)
  simpa using this
theorem wrongF_empty {l : List S39} {s : Nat} (h : ∀ i, i < l.length → wrB (l.getD i z39) s = false) : (wrongF l s).isEmpty = true := by
  rw [List.isEmpty_iff]
  unfold wrongF wrongK
  rw [List.map_eq_nil_iff, List.filter_eq_nil_iff]
  intro i hi
  rw [h i (List.mem_range.1 hi)]; simp
/-- Where the changed ties are calm with a set, the set has at most as many wrong ties as were changed. -/
theorem wrong_le {l l' : List S39} {s : Nat} (hp : l'.map pairT = l.map pairT) (h : (wrongF l' s).isEmpty = true) : (wrongF l s).length ≤ difK l l' l.length := by
  have hl : l'.length = l.length := by have := congrArg List.length hp; simpa using this
  unfold wrongF wrongK difK
  rw [List.length_map]
  refine filter_len_le _ fun i hi hw => ?_
  have hi := List.mem_range.1 hi
  have h0 := wrongF_nil h (show i < l'.length by omega)
  cases hd : difB (l'.getD i z39) (l.getD i z39) with
  | true => rfl
  | false =>
    rw [difB_no hd] at h0
    rw [h0] at hw
    cases hw
theorem leastK_le (l : List S39) : ∀ k s, s < k → (leastK l k).2.length ≤ (wrongF l s).length
  | 0, s, h => absurd h (Nat.not_lt_zero _)
  | k + 1, s, h => by
    rw [leastK]
    by_cases hs : s = k
    · subst hs
      split
      · exact Nat.le_refl _
      · omega
    · have := leastK_le l k s (by omega)
      split
      · have : (wrongF l k).length < (leastK l k).2.length := by assumption
        show (wrongF l k).length ≤ _
        omega
      · exact this
theorem leastK_spec (l : List S39) : ∀ k, 0 < k → (leastK l k).1 < k ∧ (leastK l k).2 = wrongF l (leastK l k).1 ∧ ∀ s, s < (leastK l k).1 → (leastK l k).2.length < (wrongF l s).length
  | 0, h => absurd h (Nat.lt_irrefl _)
  | k + 1, _ => by
    rw [leastK]
    by_cases h0 : k = 0
    · subst h0
      have e : leastK l 0 = (0, wrongF l 0) := rfl
      rw [e]
      rw [if_neg (Nat.lt_irrefl _)]
      exact ⟨Nat.zero_lt_one, rfl, fun s hs => absurd hs (Nat.not_lt_zero _)⟩
    · obtain ⟨i1, i2, i3⟩ := leastK_spec l k (by omega)
      split
      · rename_i hlt
        refine ⟨Nat.lt_succ_self _, rfl, fun s hs => ?_⟩
        have := leastK_le l k s hs
        show (wrongF l k).length < _
        omega
      · exact ⟨by omega, i2, i3⟩
theorem sidesN_some {m : Nat} {l : List S39} {s : Nat} (h : sidesN m l = some s) : s < 2 ^ m ∧ (wrongF l s).isEmpty = true := by
  unfold sidesN at h
  rw [List.find?_range_eq_some] at h
  exact ⟨List.mem_range.1 h.2.1, h.1⟩
theorem sidesN_none {m : Nat} {l : List S39} (h : sidesN m l = none) (s : Nat) (hs : s < 2 ^ m) : (wrongF l s).isEmpty = false := by
  unfold sidesN at h
  rw [List.find?_range_eq_none] at h
  simpa using h s hs
/-- The law of fewer changes. -/
theorem fewer_main {n : Int} {l l' : List S39} (h : tiesE n l = 0) (hp : l'.map pairT = l.map pairT) : (leastK l (2 ^ n.toNat)).2.length ≤ difK l l' l.length ∨ (sidesF n l').2 = 10 := by
  unfold sidesF
  rw [if_pos (by rw [tiesE_pairs hp]; exact h)]
  cases hs : sidesN n.toNat l' with
  | none => exact .inr rfl
  | some s =>
    obtain ⟨h1, h2⟩ := sidesN_some hs
    have a1 := leastK_le l (2 ^ n.toNat) s h1
    have a2 := wrong_le hp h2
    exact .inl (by omega)
end Go.Proofs.Ytaegldcifhgnmaa.A

/- The reference's wrong ties and Sides, as the kit's print writes them. -/
namespace Go.Proofs.Ytaegldcifhgnmaa.B
open Go.Proofs.Ytaegldcifhgnmaa.A
open Go.RowKit Go.Proofs.YtaegldcifhgnmaaW.PrintWords Go.Proofs.YtaegldcifhgnmaaW.PrintLast Go.Proofs.YtaegldcifhgnmaaW.PrintMore
section
attribute [local go_sem] max2_int min2_int max_two min_two max_three min_three max_four min_four   -- for this text's walks alone
set_option linter.unusedVariables false
set_option linter.unusedSimpArgs false
/-! ### drovewayref09_Across: function 75 -/
def drovewayref09_Across.f (a0_0 : Int) (a0_1 : Int) (a0_2 : Bool) (a1 : Int) : Option (Bool) := if 0 ≤ a0_0 then (if 0 ≤ a0_1 then (some ((Int.tmod (shr .i64 a1 a0_0) 2) != (Int.tmod (shr .i64 a1 a0_1) 2))) else (none)) else (none)
set_option maxHeartbeats 8000000 in
set_option maxRecDepth 100000 in
theorem drovewayref09_Across.calls (a0_0 : Int) (a0_1 : Int) (a0_2 : Bool) (a1 : Int) (r : Bool) (w : World) (h : drovewayref09_Across.f a0_0 a0_1 a0_2 a1 = some r) :
    Calls Try.prog 75 #[.agg #[.int .i64 a0_0, .int .i64 a0_1, .bool a0_2], .int .i64 a1] w fun e w' => e = .returned (.bool r) ∧ Below w.heap.size w w' := by
  have hu39 := Try.underlying39
  have HB := Aside0.mk (Below.refl w.heap.size w)
  have H : (if 0 ≤ a0_0 then (if 0 ≤ a0_1 then (some ((Int.tmod (shr .i64 a1 a0_0) 2) != (Int.tmod (shr .i64 a1 a0_1) 2))) else (none)) else (none)) = some r := h
  clear h
  by_cases c3 : 0 ≤ a0_0
  · rw [if_pos c3] at H
    have c3b0 := eq_true c3
    have c3b1 : decide (0 ≤ a0_0) = true := decide_eq_true c3
    clear c3
    obtain ⟨ji4, hji4⟩ : ∃ j_ : Int, (shr .i64 a1 a0_0) = j_ := ⟨_, rfl⟩
    replace H : (if 0 ≤ a0_1 then (some ((Int.tmod (ji4) 2) != (Int.tmod (shr .i64 a1 a0_1) 2))) else (none)) = some r := by first | (rw [hji4] at H; exact H) | (simp only [hji4] at H ⊢; exact H)
    have hji4_ : (a1 / 2 ^ min a0_0.toNat 64) = ji4 := hji4
    have hji4z : a0_0 ≤ 64 → (a1 / 2 ^ a0_0.toNat) = ji4 := shr_small hji4
    by_cases c5 : 0 ≤ a0_1
    · rw [if_pos c5] at H
      have c5b0 := eq_true c5
      have c5b1 : decide (0 ≤ a0_1) = true := decide_eq_true c5
      clear c5
      obtain ⟨ji6, hji6⟩ : ∃ j_ : Int, (shr .i64 a1 a0_1) = j_ := ⟨_, rfl⟩
      replace H : (some ((Int.tmod (ji4) 2) != (Int.tmod (ji6) 2))) = some r := by first | (rw [hji6] at H; exact H) | (simp only [hji6] at H ⊢; exact H)
      have hji6_ : (a1 / 2 ^ min a0_1.toNat 64) = ji6 := hji6
      have hji6z : a0_1 ≤ 64 → (a1 / 2 ^ a0_1.toNat) = ji6 := shr_small hji6
      obtain rfl := Option.some.inj H
      go_enter Try.func75, Try.ntmps75
      go_wp2_with (first | ((with_reducible refine gate_dst (N := 2) rfl ?_); refine box_event ?hg (N := 2) ?hd (cs := #[.int .i64 a0_0, .int .i64 a0_1, .bool a0_2]) (t := 39) ?hr ?_; (case hd => rfl); (case hg => rfl); (case hr => first | (go_simp; done) | (go_simp; rfl)); intro gb163 hg w7 hbox hb; have n0_ := Aside0.mk (below_step (by repeat (first | (with_reducible first | exact HB.out | apply below_alloc | apply pw_below_drewN | apply below_drew1) | exact HB.out)) hb); have n1_ := Aside0.mk (hbox); have n2_ := Aside0.mk ((by rw [hg]; exact (below_size (by repeat (first | (with_reducible first | exact HB.out | apply below_alloc | apply pw_below_drewN | apply below_drew1) | exact HB.out))) : w.heap.size ≤ gb163)); have n3_ := Aside0.mk ((by rw [hg]; exact (below_size (by repeat (first | (with_reducible first | exact HB.out | apply below_alloc | apply pw_below_drewN | apply below_drew1) | exact HB.out))) : w.heap.size ≤ gb163)); clear HB; have HB := n0_; have BK163 := n1_; have GW163 := n2_; have GE163 := n3_; clear n0_ n1_ n2_ n3_; clear hb hbox hg; have hcz8_0 : w7.cell? ⟨gb163, 0, none⟩ = some (.int .i64 a0_0) := (blk_cell BK163.out 0).trans rfl; have hcz8_1 : w7.cell? ⟨gb163, 1, none⟩ = some (.int .i64 a0_1) := (blk_cell BK163.out 1).trans rfl; have hcz8_2 : w7.cell? ⟨gb163, 2, none⟩ = some (.bool a0_2) := (blk_cell BK163.out 2).trans rfl; have hfz8_0 := blk_frozen BK163.out 0; have hfz8_1 := blk_frozen BK163.out 1; have hfz8_2 := blk_frozen BK163.out 2))
      repeat (go_quiet (first | ((with_reducible refine gate_dst (N := 2) rfl ?_); refine box_event ?hg (N := 2) ?hd (cs := #[.int .i64 a0_0, .int .i64 a0_1, .bool a0_2]) (t := 39) ?hr ?_; (case hd => rfl); (case hg => rfl); (case hr => first | (go_simp; done) | (go_simp; rfl)); intro gb163 hg w7 hbox hb; have n0_ := Aside0.mk (below_step (by repeat (first | (with_reducible first | exact HB.out | apply below_alloc | apply pw_below_drewN | apply below_drew1) | exact HB.out)) hb); have n1_ := Aside0.mk (hbox); have n2_ := Aside0.mk ((by rw [hg]; exact (below_size (by repeat (first | (with_reducible first | exact HB.out | apply below_alloc | apply pw_below_drewN | apply below_drew1) | exact HB.out))) : w.heap.size ≤ gb163)); have n3_ := Aside0.mk ((by rw [hg]; exact (below_size (by repeat (first | (with_reducible first | exact HB.out | apply below_alloc | apply pw_below_drewN | apply below_drew1) | exact HB.out))) : w.heap.size ≤ gb163)); clear HB; have HB := n0_; have BK163 := n1_; have GW163 := n2_; have GE163 := n3_; clear n0_ n1_ n2_ n3_; clear hb hbox hg; have hcz8_0 : w7.cell? ⟨gb163, 0, none⟩ = some (.int .i64 a0_0) := (blk_cell BK163.out 0).trans rfl; have hcz8_1 : w7.cell? ⟨gb163, 1, none⟩ = some (.int .i64 a0_1) := (blk_cell BK163.out 1).trans rfl; have hcz8_2 : w7.cell? ⟨gb163, 2, none⟩ = some (.bool a0_2) := (blk_cell BK163.out 2).trans rfl; have hfz8_0 := blk_frozen BK163.out 0; have hfz8_1 := blk_frozen BK163.out 1; have hfz8_2 := blk_frozen BK163.out 2)); try go_wp2_with (first | ((with_reducible refine gate_dst (N := 2) rfl ?_); refine box_event ?hg (N := 2) ?hd (cs := #[.int .i64 a0_0, .int .i64 a0_1, .bool a0_2]) (t := 39) ?hr ?_; (case hd => rfl); (case hg => rfl); (case hr => first | (go_simp; done) | (go_simp; rfl)); intro gb163 hg w7 hbox hb; have n0_ := Aside0.mk (below_step (by repeat (first | (with_reducible first | exact HB.out | apply below_alloc | apply pw_below_drewN | apply below_drew1) | exact HB.out)) hb); have n1_ := Aside0.mk (hbox); have n2_ := Aside0.mk ((by rw [hg]; exact (below_size (by repeat (first | (with_reducible first | exact HB.out | apply below_alloc | apply pw_below_drewN | apply below_drew1) | exact HB.out))) : w.heap.size ≤ gb163)); have n3_ := Aside0.mk ((by rw [hg]; exact (below_size (by repeat (first | (with_reducible first | exact HB.out | apply below_alloc | apply pw_below_drewN | apply below_drew1) | exact HB.out))) : w.heap.size ≤ gb163)); clear HB; have HB := n0_; have BK163 := n1_; have GW163 := n2_; have GE163 := n3_; clear n0_ n1_ n2_ n3_; clear hb hbox hg; have hcz8_0 : w7.cell? ⟨gb163, 0, none⟩ = some (.int .i64 a0_0) := (blk_cell BK163.out 0).trans rfl; have hcz8_1 : w7.cell? ⟨gb163, 1, none⟩ = some (.int .i64 a0_1) := (blk_cell BK163.out 1).trans rfl; have hcz8_2 : w7.cell? ⟨gb163, 2, none⟩ = some (.bool a0_2) := (blk_cell BK163.out 2).trans rfl; have hfz8_0 := blk_frozen BK163.out 0; have hfz8_1 := blk_frozen BK163.out 1; have hfz8_2 := blk_frozen BK163.out 2)))
      go_ret
      exact ⟨by first | rfl | (simp [errW_none, errW_some] <;> rfl) | (simp only [← hji4, ← hji6]; first | rfl | (simp [errW_none, errW_some] <;> rfl)) | (simp [*, errW_none, errW_some] <;> rfl), by repeat (first | (with_reducible first | exact HB.out | apply below_alloc | apply pw_below_drewN | apply below_drew1 | refine below_set ?_ GE163.out) | exact HB.out)⟩
    · rw [if_neg c5] at H
      exact absurd H (by simp)
  · rw [if_neg c3] at H
    exact absurd H (by simp)

/-! ### drovewayref09_wrong: function 48 -/
def drovewayref09_wrong.l0 : Nat → List (S39) → Int → List Int → Int → Option (List Int)
  | 0, _, _, _, _ => none
  | k + 1, x0, x1, x5, x6 => if x6 < (x0.length : Int) then (if 0 ≤ x6 then ((drovewayref09_Across.f ((rd_T39 x0 x6).f0) ((rd_T39 x0 x6).f1) ((rd_T39 x0 x6).f2) x1).bind fun t165 => (if (t165 != ((rd_T39 x0 x6).f2)) = true then (if x5.length < 17592186044416 then (drovewayref09_wrong.l0 k x0 x1 (x5 ++ [x6]) (wrap64 (x6 + 1))) else (none)) else (drovewayref09_wrong.l0 k x0 x1 x5 (wrap64 (x6 + 1))))) else (none)) else (some x5)
def drovewayref09_wrong.f (k : Nat) (l0 : List (S39)) (a1 : Int) : Option (List Int) := drovewayref09_wrong.l0 k l0 a1 ([] : List Int) 0
theorem drovewayref09_wrong.mono_l : ∀ k, (∀ y0 y1 y2 y3, LeO (drovewayref09_wrong.l0 k y0 y1 y2 y3) (drovewayref09_wrong.l0 (k + 1) y0 y1 y2 y3))
  | 0 => fun _ _ _ _ r h => by simp [drovewayref09_wrong.l0] at h
  | k + 1 => by
    have ih0 := drovewayref09_wrong.mono_l k
    · intro y0 y1 y2 y3
      unfold drovewayref09_wrong.l0
      repeat' first
      | (with_reducible exact ih0 _ _ _ _)
      | (with_reducible exact LeO.refl _)
      | (with_reducible exact LeO.none _)
      | (with_reducible refine LeO.ite ?_ ?_)
      | (with_reducible refine LeO.bind ?_ (fun _ => ?_))
      | exact ih0 _ _ _ _
      | exact LeO.none _
      | refine LeO.ite ?_ ?_
      | refine LeO.bind ?_ (fun _ => ?_)
theorem drovewayref09_wrong.mono : ∀ a0 a1 k, LeO (drovewayref09_wrong.f k a0 a1) (drovewayref09_wrong.f (k + 1) a0 a1) := by
  intro a0 a1 k
  have ih0 := drovewayref09_wrong.mono_l k
  unfold drovewayref09_wrong.f
  repeat' first
      | (with_reducible exact ih0 _ _ _ _)
      | (with_reducible exact LeO.refl _)
      | (with_reducible exact LeO.none _)
      | (with_reducible refine LeO.ite ?_ ?_)
      | (with_reducible refine LeO.bind ?_ (fun _ => ?_))
      | exact ih0 _ _ _ _
      | exact LeO.none _
      | refine LeO.ite ?_ ?_
      | refine LeO.bind ?_ (fun _ => ?_)
def drovewayref09_wrong.T5 : Bool × List (List Nat × List Nat) := (true, [([], []), ([], []), ([0, 1], [0, 1]), ([2], [2]), ([], []), ([3, 4], [3, 4]), ([], []), ([], []), ([6, 7], [6, 7]), ([8], [8]), ([9], [9]), ([5, 10], [5, 10])])
def drovewayref09_wrong.B5 : List Nat := [0, 0, 3, 7, 0, 31, 0, 0, 192, 448, 960, 2047]
theorem drovewayref09_wrong.tab5 : rtab .any (opsOf Try.f48 5) = drovewayref09_wrong.T5 := by kernel_rfl
theorem drovewayref09_wrong.bits5 : waitsOk drovewayref09_wrong.T5.2 drovewayref09_wrong.B5 = true := by kernel_rfl
set_option maxHeartbeats 8000000 in
set_option maxRecDepth 100000 in
theorem drovewayref09_wrong.calls (k : Nat) (A0 : Option Addr) (c0 : Nat) (l0 : List (S39)) (a1 : Int) (r : List Int) (w : World) (hr0 : Kd.C k39 w A0 l0.length l0) (hc0 : l0.length ≤ c0) (h : drovewayref09_wrong.f k l0 a1 = some r) :
    Calls Try.prog 48 #[.slice A0 l0.length c0, .int .i64 a1] w fun e w' => ∃ v0_ : Value, e = .returned (v0_) ∧ Kd.R (Kd.int .i64) 3 w' w.heap.size (fun _ => True) v0_ r ∧ Below w.heap.size w w' := by
  have hu39 := Try.underlying39
  have HR0 := Aside0.mk hr0
  have HC0 := Aside0.mk hc0
  clear hr0 hc0
  have HB := Aside0.mk (Below.refl w.heap.size w)
  have H : (drovewayref09_wrong.l0 k l0 a1 ([] : List Int) 0) = some r := h
  clear h
  have H' := Aside0.mk H
  clear H
  go_enter Try.func48, Try.ntmps48
  go_wp2
  go_loopg [5, 6] k (fun kq v5 v6 w' => ∃ (x5_1 : List Int) (x6_1 : Int), v6 = .int .i64 x6_1 ∧ Aside0 (drovewayref09_wrong.l0 kq l0 a1 x5_1 x6_1 = some r) ∧ Aside0 (kq ≤ k) ∧ Aside0 (Kd.R (Kd.int .i64) 3 w' w.heap.size (fun _ => True) v5 x5_1) ∧ Aside0 (Below w.heap.size w w'))
  case atStart => exact ⟨(([] : List Int)), (0), (by first | rfl | (simp; done) | (simp [*]; done)), H', ⟨Nat.le_refl _⟩, ⟨by first | exact Kd.R_nil _ _ _ _ _ | exact Kd.N_nil _ _ _ _ _ | exact Kd.V_nil _ _ _ _ _ | exact Kd.Q_nil _ _ _ _ _ | exact Kd.S_nil _ _ _ _ _⟩, ⟨by repeat (first | (with_reducible first | exact HB.out | apply below_alloc | apply pw_below_drewN | apply below_drew1) | exact HB.out)⟩⟩
  case round =>
    clear H'
    try clear p2
    obtain ⟨x5_1, x6_1, rfl, HA, HK1, HO_5, HB⟩ := hrel
    cases gk with
    | zero => exact absurd HA.out (by simp [drovewayref09_wrong.l0])
    | succ k1 =>
      have H := HA.out
      clear HA
      simp only [drovewayref09_wrong.l0] at H
      by_cases c3 : x6_1 < (l0.length : Int)
      · rw [if_pos c3] at H
        have c3b0 : decide (x6_1 < (l0.length : Int)) = true := decide_eq_true c3
        clear c3
        by_cases c4 : 0 ≤ x6_1
        · rw [if_pos c4] at H
          have c4b0 : decide (0 ≤ x6_1) = true := decide_eq_true c4
          clear c4
          replace H := Option.bind_eq_some_iff.mp H
          obtain ⟨t165, A50, H⟩ := H
          replace H : (if (t165 != ((rd_T39 l0 x6_1).f2)) = true then (if x5_1.length < 17592186044416 then (drovewayref09_wrong.l0 k1 l0 a1 (x5_1 ++ [x6_1]) (wrap64 (x6_1 + 1))) else (none)) else (drovewayref09_wrong.l0 k1 l0 a1 x5_1 (wrap64 (x6_1 + 1)))) = some r := H
          have A5 := Aside0.mk A50
          clear A50
          by_cases c6 : (t165 != ((rd_T39 l0 x6_1).f2)) = true
          · rw [if_pos c6] at H
            have c6b0 : (t165 != ((rd_T39 l0 x6_1).f2)) = true := c6
            (try (have c6b1 : decide (t165 = ((rd_T39 l0 x6_1).f2)) = false := by simpa using c6))
            (try (have c6b2 : (t165 == ((rd_T39 l0 x6_1).f2)) = false := by simpa using c6))
            (try (have c6b3 : ¬ (t165 = ((rd_T39 l0 x6_1).f2)) := by simpa using c6))
            clear c6
            by_cases c7 : x5_1.length < 17592186044416
            · rw [if_pos c7] at H
              have LMc7 := Aside0.mk c7
              clear c7
              obtain ⟨y167, hy167⟩ : ∃ y_ : List Int, y_ = (x5_1 ++ [x6_1]) := ⟨_, rfl⟩
              replace H : (drovewayref09_wrong.l0 k1 l0 a1 y167 (wrap64 (x6_1 + 1))) = some r := by first | (rw [hy167]; with_reducible exact H) | (have H2_ := (Option.bind_some _ _).symm.trans H; rw [hy167]; with_reducible exact H2_) | (have H2_ := (Option.bind_some _ _).symm.trans H; with_reducible exact H2_) | with_reducible exact H | (rw [hy167]; exact H) | exact H
              have Ny167 := Aside0.mk hy167
              clear hy167
              have H' := Aside0.mk H
              clear H
              try go_wp2
              have n0_ := Aside0.mk (Kd.R_drew HO_5.out)
              have n1_ := Aside0.mk (below_drew1 HB.out)
              clear HO_5
              clear HB
              have HO_5 := n0_
              have HB := n1_
              clear n0_ n1_
              have p164 : 0 ≤ (x6_1 : Int) := of_decide_eq_true (by first | (with_reducible assumption) | assumption)
              have q164 : x6_1 < (l0.length : Int) := of_decide_eq_true (by first | (with_reducible assumption) | assumption)
              obtain ⟨ad164, e164, hx164_0, hx164_1, hx164_2⟩ := at_T39 HR0.out x6_1 p164 q164
              have hw164_2 := hx164_2
              have hw164_1 := hx164_1
              have hw164_0 := hx164_0
              cases e164
              replace hx164_0 := (HB.out.cell (World.block_lt_of_cell? w _ hx164_0)).trans hx164_0
              replace hx164_1 := (HB.out.cell (World.block_lt_of_cell? w _ hx164_1)).trans hx164_1
              replace hx164_2 := (HB.out.cell (World.block_lt_of_cell? w _ hx164_2)).trans hx164_2
              replace p164 := eq_true p164
              replace q164 := eq_true q164
              have p166 : 0 ≤ (x6_1 : Int) := of_decide_eq_true (by first | (with_reducible assumption) | assumption)
              have q166 : x6_1 < (l0.length : Int) := of_decide_eq_true (by first | (with_reducible assumption) | assumption)
              obtain ⟨ad166, e166, hx166_0, hx166_1, hx166_2⟩ := at_T39 HR0.out x6_1 p166 q166
              have hw166_2 := hx166_2
              have hw166_1 := hx166_1
              have hw166_0 := hx166_0
              obtain rfl : ad164 = ad166 := (by injection e166)
              replace hx166_0 := (HB.out.cell (World.block_lt_of_cell? w _ hx166_0)).trans hx166_0
              replace hx166_1 := (HB.out.cell (World.block_lt_of_cell? w _ hx166_1)).trans hx166_1
              replace hx166_2 := (HB.out.cell (World.block_lt_of_cell? w _ hx166_2)).trans hx166_2
              replace p166 := eq_true p166
              replace q166 := eq_true q166
              refine start_ (n := 12) (S := fun w' => w'.cell? (ad164.add ((x6_1).toNat * 3)) = some (.int .i64 ((rd_T39 l0 x6_1).f0)) ∧ w'.cell? ⟨(ad164.add ((x6_1).toNat * 3)).block, (ad164.add ((x6_1).toNat * 3)).off + 1, none⟩ = some (.int .i64 ((rd_T39 l0 x6_1).f1)) ∧ w'.cell? ⟨(ad164.add ((x6_1).toNat * 3)).block, (ad164.add ((x6_1).toNat * 3)).off + 2, none⟩ = some (.bool ((rd_T39 l0 x6_1).f2)) ∧ w'.cell? (ad164.add ((x6_1).toNat * 3)) = some (.int .i64 ((rd_T39 l0 x6_1).f0)) ∧ w'.cell? ⟨(ad164.add ((x6_1).toNat * 3)).block, (ad164.add ((x6_1).toNat * 3)).off + 1, none⟩ = some (.int .i64 ((rd_T39 l0 x6_1).f1)) ∧ w'.cell? ⟨(ad164.add ((x6_1).toNat * 3)).block, (ad164.add ((x6_1).toNat * 3)).off + 2, none⟩ = some (.bool ((rd_T39 l0 x6_1).f2))) (ds := []) #[false, false, false, false, false, false, false, false, false, false, false, false] (by kernel_rfl) rfl rfl ⟨((HB.out.cell (World.block_lt_of_cell? w _ hw164_0)).trans hw164_0), ((HB.out.cell (World.block_lt_of_cell? w _ hw164_1)).trans hw164_1), ((HB.out.cell (World.block_lt_of_cell? w _ hw164_2)).trans hw164_2), ((HB.out.cell (World.block_lt_of_cell? w _ hw166_0)).trans hw166_0), ((HB.out.cell (World.block_lt_of_cell? w _ hw166_1)).trans hw166_1), ((HB.out.cell (World.block_lt_of_cell? w _ hw166_2)).trans hw166_2)⟩ (fun hHeld => ?_); refine with_tabW drovewayref09_wrong.tab5 drovewayref09_wrong.bits5 (fun HT_ HW_ => ?_)
              generalize wr.drew = w8 at HO_5 HB hx164_0 hx164_1 hx164_2 hx166_0 hx166_1 hx166_2 hHeld ⊢
              refine pure_ (i := 0) (N := some 13) (v := ?_) (a' := ?_) #[true, false, false, false, false, false, false, false, false, false, false, false] rfl rfl (any_of HT_.out (by kernel_rfl)) (fun _ _ _ h => h) (Or.inl ⟨by rfl, ?_⟩) ?_ ?_
              rotate_left
              · intro w'
                go_simp
                with_reducible rfl
              rotate_left
              · simp only [Act.put, List.setIfInBounds_toArray, List.set_cons_zero, List.set_cons_succ, i64_w, i32_w]
                rfl
              refine pure_ (i := 1) (N := some 14) (v := ?_) (a' := ?_) #[true, true, false, false, false, false, false, false, false, false, false, false] rfl rfl (any_of HT_.out (by kernel_rfl)) (fun _ _ _ h => h) (Or.inl ⟨by rfl, ?_⟩) ?_ ?_
              rotate_left
              · intro w'
                go_simp
                with_reducible rfl
              rotate_left
              · simp only [Act.put, List.setIfInBounds_toArray, List.set_cons_zero, List.set_cons_succ, i64_w, i32_w]
                rfl
              refine pure_ (i := 2) (N := some 15) (v := ?_) (a' := ?_) #[true, true, true, false, false, false, false, false, false, false, false, false] rfl rfl (any_of HT_.out (by kernel_rfl)) (fun _ _ _ h => h) (Or.inl ⟨by rfl, ?_⟩) ?_ ?_
              rotate_left
              · intro w'
                go_simp
                with_reducible rfl
              rotate_left
              · simp only [Act.put, List.setIfInBounds_toArray, List.set_cons_zero, List.set_cons_succ, i64_w, i32_w]
                rfl
              refine pure_ (i := 4) (N := some 17) (v := ?_) (a' := ?_) #[true, true, true, false, true, false, false, false, false, false, false, false] rfl rfl (any_of HT_.out (by kernel_rfl)) (fun _ _ _ h => h) (Or.inl ⟨by rfl, ?_⟩) ?_ ?_
              rotate_left
              · intro w'
                go_simp
                with_reducible rfl
              rotate_left
              · simp only [Act.put, List.setIfInBounds_toArray, List.set_cons_zero, List.set_cons_succ, i64_w, i32_w]
                rfl
              refine pure_ (i := 6) (N := some 19) (v := ?_) (a' := ?_) #[true, true, true, false, true, false, true, false, false, false, false, false] rfl rfl (any_of HT_.out (by kernel_rfl)) (fun _ _ _ h => h) (Or.inl ⟨by rfl, ?_⟩) ?_ ?_
              rotate_left
              · intro w'
                go_simp
                with_reducible rfl
              rotate_left
              · simp only [Act.put, List.setIfInBounds_toArray, List.set_cons_zero, List.set_cons_succ, i64_w, i32_w]
                rfl
              refine pure_ (i := 7) (N := some 20) (v := ?_) (a' := ?_) #[true, true, true, false, true, false, true, true, false, false, false, false] rfl rfl (any_of HT_.out (by kernel_rfl)) (fun _ _ _ h => h) (Or.inl ⟨by rfl, ?_⟩) ?_ ?_
              rotate_left
              · intro w'
                go_simp
                with_reducible rfl
              rotate_left
              · simp only [Act.put, List.setIfInBounds_toArray, List.set_cons_zero, List.set_cons_succ, i64_w, i32_w]
                rfl
              refine pure_ (i := 8) (N := some 21) (v := ?_) (a' := ?_) #[true, true, true, false, true, false, true, true, true, false, false, false] rfl rfl (any_of HT_.out (by kernel_rfl)) (fun _ _ _ h => h) (Or.inl ⟨by rfl, ?_⟩) ?_ ?_
              rotate_left
              · intro w'
                go_simp
                with_reducible rfl
              rotate_left
              · simp only [Act.put, List.setIfInBounds_toArray, List.set_cons_zero, List.set_cons_succ, i64_w, i32_w]
                rfl
              refine pure_ (i := 9) (N := some 22) (v := ?_) (a' := ?_) #[true, true, true, false, true, false, true, true, true, true, false, false] rfl rfl (any_of HT_.out (by kernel_rfl)) (fun _ _ _ h => h) (Or.inl ⟨by rfl, ?_⟩) ?_ ?_
              rotate_left
              · intro w'
                go_simp
                with_reducible rfl
              rotate_left
              · simp only [Act.put, List.setIfInBounds_toArray, List.set_cons_zero, List.set_cons_succ, i64_w, i32_w]
                rfl
              refine take_ (i := 3) (N := some 16) (v := ?_) (a' := ?_) #[true, true, true, true, true, false, true, true, true, true, false, false] rfl rfl (take_ofW HT_.out HW_.out (by kernel_rfl)) (fun _ _ _ h => h) (Or.inl ⟨by rfl, ?_⟩) hHeld ?_ ?_
              rotate_left
              · rintro w' ⟨s0, s1, s2, s3, s4, s5⟩
                go_simp
                with_reducible rfl
              rotate_left
              · simp only [Act.put, List.setIfInBounds_toArray, List.set_cons_zero, List.set_cons_succ, i64_w, i32_w]
                rfl
              refine take_ (i := 10) (N := some 23) (v := ?_) (a' := ?_) #[true, true, true, true, true, false, true, true, true, true, true, false] rfl rfl (take_ofW HT_.out HW_.out (by kernel_rfl)) (fun _ _ _ h => h) (Or.inl ⟨by rfl, ?_⟩) hHeld ?_ ?_
              rotate_left
              · rintro w' ⟨s0, s1, s2, s3, s4, s5⟩
                go_simp
                with_reducible rfl
              rotate_left
              · simp only [Act.put, List.setIfInBounds_toArray, List.set_cons_zero, List.set_cons_succ, i64_w, i32_w]
                rfl
              refine one_ (i := 5) (N := some 18) #[true, true, true, true, true, true, true, true, true, true, true, false] rfl rfl (one_of HT_.out (by kernel_rfl)) (by decide) (fun K hK => ?_)
              refine goes_ Try.func75 (by kernel_rfl) rfl #[.agg #[.int .i64 ((rd_T39 l0 x6_1).f0), .int .i64 ((rd_T39 l0 x6_1).f1), .bool ((rd_T39 l0 x6_1).f2)], .int .i64 a1] (by rfl) rfl rfl (by (try simp only [List.map_toArray, List.map_cons, List.map_nil]); first | done | rfl | (simp only [List.length_drop, List.length_take]; rfl)) ?_
              with_reducible refine (drovewayref09_Across.calls ((rd_T39 l0 x6_1).f0) ((rd_T39 l0 x6_1).f1) ((rd_T39 l0 x6_1).f2) a1 t165 _ A5.out).mono ?_
              rintro e w9 ⟨rfl, hb⟩
              refine ⟨_, rfl, ?_⟩
              have n0_ := Aside0.mk (Kd.R_below (by (with_reducible repeat (first | apply Kd.R_alloc | apply Kd.R_drewN | apply Kd.R_drew)); exact HO_5.out) hb)
              have n1_ := Aside0.mk (below_step (by repeat (first | (with_reducible first | exact HB.out | apply below_alloc | apply pw_below_drewN | apply below_drew1) | exact HB.out)) hb)
              clear HO_5
              clear HB
              have HO_5 := n0_
              have HB := n1_
              clear n0_ n1_
              (try clear hb)
              (try clear hb2)
              (try clear hk)
              (try clear hi)
              refine hK.out _ _ ⟨((HB.out.cell (World.block_lt_of_cell? w _ hw164_0)).trans hw164_0), ((HB.out.cell (World.block_lt_of_cell? w _ hw164_1)).trans hw164_1), ((HB.out.cell (World.block_lt_of_cell? w _ hw164_2)).trans hw164_2), ((HB.out.cell (World.block_lt_of_cell? w _ hw166_0)).trans hw166_0), ((HB.out.cell (World.block_lt_of_cell? w _ hw166_1)).trans hw166_1), ((HB.out.cell (World.block_lt_of_cell? w _ hw166_2)).trans hw166_2)⟩ (fun hHeld => ?_)
              clear hK K
              refine norm_ (a' := ?_) ?_ ?_
              rotate_left
              · show Act.put _ (some 18) _ = _
                simp only [Act.put, List.setIfInBounds_toArray, List.set_cons_zero, List.set_cons_succ, i64_w, i32_w]
                rfl
              refine pure_ (i := 11) (N := some 24) (v := ?_) (a' := ?_) #[true, true, true, true, true, true, true, true, true, true, true, true] rfl rfl (any_of HT_.out (by kernel_rfl)) (fun _ _ _ h => h) (Or.inl ⟨by rfl, ?_⟩) ?_ ?_
              rotate_left
              · intro w'
                go_simp
                with_reducible rfl
              rotate_left
              · simp only [Act.put, List.setIfInBounds_toArray, List.set_cons_zero, List.set_cons_succ, i64_w, i32_w]
                rfl
              refine done_ (done_of HT_.out (by kernel_rfl)) ?_
              try go_wp2_with (first | ((with_reducible refine gate_builtin (b := .append) (xs := #[.tmp 25, .tmp 27]) rfl ?_); at_builtin; refine Kd.R_append (Kd.int .i64) (w0 := w) w.heap.size rfl (.tmp 25) (.tmp 27) 28 3 (.int .i64 0) 8 rfl Try.underlying28 info3 rfl (by decide) (by omega) u5 x5_1 x6_1 [.int .i64 x6_1] (fun _ => True) (fun _ => False) rfl rfl ?aP (fun _ hk => hk.elim) ?aF ?aO ?aB ?aS ?aL ?_; (case aP => exact rfl); (case aB => exact (by repeat (first | (with_reducible first | exact HB.out | apply below_alloc | apply pw_below_drewN | apply below_drew1) | exact HB.out))); (case aF => exact (fun _ _ => trivial)); (case aO => exact (by (with_reducible repeat (first | apply Kd.R_alloc | apply Kd.R_drewN | apply Kd.R_drew)); exact HO_5.out)); (case aS => exact (below_size (by repeat (first | (with_reducible first | exact HB.out | apply below_alloc | apply pw_below_drewN | apply below_drew1) | exact HB.out)))); (case aL => have := LMc7.out; omega); intro v168 w10 ho hb hg hat; rw [← Ny167.out] at ho; have n0_ := Aside0.mk (hb); have n1_ := Aside0.mk (ho); clear HB; clear HO_5; have HB := n0_; have HO169 := n1_; clear n0_ n1_; clear ho hb hg hat))
              go_roundg k1
              case measure => have := HK1.out; omega
              case rel => exact ⟨(y167), (wrap64 (x6_1 + 1)), (by first | rfl | (simp; done) | (simp [*]; done)), H', ⟨by have := HK1.out; omega⟩, ⟨by (with_reducible repeat (first | apply Kd.R_alloc | apply Kd.R_drewN | apply Kd.R_drew)); exact HO169.out⟩, ⟨by repeat (first | (with_reducible first | exact HB.out | apply below_alloc | apply pw_below_drewN | apply below_drew1) | exact HB.out)⟩⟩
            · rw [if_neg c7] at H
              exact absurd H (by simp)
          · rw [if_neg c6] at H
            have c6b0 : (t165 != ((rd_T39 l0 x6_1).f2)) = false := by simpa using c6
            (try (have c6b1 : decide (t165 = ((rd_T39 l0 x6_1).f2)) = true := by simpa using c6))
            (try (have c6b2 : (t165 == ((rd_T39 l0 x6_1).f2)) = true := by simpa using c6))
            clear c6
            have H' := Aside0.mk H
            clear H
            try go_wp2
            have n0_ := Aside0.mk (Kd.R_drew HO_5.out)
            have n1_ := Aside0.mk (below_drew1 HB.out)
            clear HO_5
            clear HB
            have HO_5 := n0_
            have HB := n1_
            clear n0_ n1_
            have p164 : 0 ≤ (x6_1 : Int) := of_decide_eq_true (by first | (with_reducible assumption) | assumption)
            have q164 : x6_1 < (l0.length : Int) := of_decide_eq_true (by first | (with_reducible assumption) | assumption)
            obtain ⟨ad164, e164, hx164_0, hx164_1, hx164_2⟩ := at_T39 HR0.out x6_1 p164 q164
            have hw164_2 := hx164_2
            have hw164_1 := hx164_1
            have hw164_0 := hx164_0
            cases e164
            replace hx164_0 := (HB.out.cell (World.block_lt_of_cell? w _ hx164_0)).trans hx164_0
            replace hx164_1 := (HB.out.cell (World.block_lt_of_cell? w _ hx164_1)).trans hx164_1
            replace hx164_2 := (HB.out.cell (World.block_lt_of_cell? w _ hx164_2)).trans hx164_2
            replace p164 := eq_true p164
            replace q164 := eq_true q164
            have p166 : 0 ≤ (x6_1 : Int) := of_decide_eq_true (by first | (with_reducible assumption) | assumption)
            have q166 : x6_1 < (l0.length : Int) := of_decide_eq_true (by first | (with_reducible assumption) | assumption)
            obtain ⟨ad166, e166, hx166_0, hx166_1, hx166_2⟩ := at_T39 HR0.out x6_1 p166 q166
            have hw166_2 := hx166_2
            have hw166_1 := hx166_1
            have hw166_0 := hx166_0
            obtain rfl : ad164 = ad166 := (by injection e166)
            replace hx166_0 := (HB.out.cell (World.block_lt_of_cell? w _ hx166_0)).trans hx166_0
            replace hx166_1 := (HB.out.cell (World.block_lt_of_cell? w _ hx166_1)).trans hx166_1
            replace hx166_2 := (HB.out.cell (World.block_lt_of_cell? w _ hx166_2)).trans hx166_2
            replace p166 := eq_true p166
            replace q166 := eq_true q166
            refine start_ (n := 12) (S := fun w' => w'.cell? (ad164.add ((x6_1).toNat * 3)) = some (.int .i64 ((rd_T39 l0 x6_1).f0)) ∧ w'.cell? ⟨(ad164.add ((x6_1).toNat * 3)).block, (ad164.add ((x6_1).toNat * 3)).off + 1, none⟩ = some (.int .i64 ((rd_T39 l0 x6_1).f1)) ∧ w'.cell? ⟨(ad164.add ((x6_1).toNat * 3)).block, (ad164.add ((x6_1).toNat * 3)).off + 2, none⟩ = some (.bool ((rd_T39 l0 x6_1).f2)) ∧ w'.cell? (ad164.add ((x6_1).toNat * 3)) = some (.int .i64 ((rd_T39 l0 x6_1).f0)) ∧ w'.cell? ⟨(ad164.add ((x6_1).toNat * 3)).block, (ad164.add ((x6_1).toNat * 3)).off + 1, none⟩ = some (.int .i64 ((rd_T39 l0 x6_1).f1)) ∧ w'.cell? ⟨(ad164.add ((x6_1).toNat * 3)).block, (ad164.add ((x6_1).toNat * 3)).off + 2, none⟩ = some (.bool ((rd_T39 l0 x6_1).f2))) (ds := []) #[false, false, false, false, false, false, false, false, false, false, false, false] (by kernel_rfl) rfl rfl ⟨((HB.out.cell (World.block_lt_of_cell? w _ hw164_0)).trans hw164_0), ((HB.out.cell (World.block_lt_of_cell? w _ hw164_1)).trans hw164_1), ((HB.out.cell (World.block_lt_of_cell? w _ hw164_2)).trans hw164_2), ((HB.out.cell (World.block_lt_of_cell? w _ hw166_0)).trans hw166_0), ((HB.out.cell (World.block_lt_of_cell? w _ hw166_1)).trans hw166_1), ((HB.out.cell (World.block_lt_of_cell? w _ hw166_2)).trans hw166_2)⟩ (fun hHeld => ?_); refine with_tabW drovewayref09_wrong.tab5 drovewayref09_wrong.bits5 (fun HT_ HW_ => ?_)
            generalize wr.drew = w11 at HO_5 HB hx164_0 hx164_1 hx164_2 hx166_0 hx166_1 hx166_2 hHeld ⊢
            refine pure_ (i := 0) (N := some 13) (v := ?_) (a' := ?_) #[true, false, false, false, false, false, false, false, false, false, false, false] rfl rfl (any_of HT_.out (by kernel_rfl)) (fun _ _ _ h => h) (Or.inl ⟨by rfl, ?_⟩) ?_ ?_
            rotate_left
            · intro w'
              go_simp
              with_reducible rfl
            rotate_left
            · simp only [Act.put, List.setIfInBounds_toArray, List.set_cons_zero, List.set_cons_succ, i64_w, i32_w]
              rfl
            refine pure_ (i := 1) (N := some 14) (v := ?_) (a' := ?_) #[true, true, false, false, false, false, false, false, false, false, false, false] rfl rfl (any_of HT_.out (by kernel_rfl)) (fun _ _ _ h => h) (Or.inl ⟨by rfl, ?_⟩) ?_ ?_
            rotate_left
            · intro w'
              go_simp
              with_reducible rfl
            rotate_left
            · simp only [Act.put, List.setIfInBounds_toArray, List.set_cons_zero, List.set_cons_succ, i64_w, i32_w]
              rfl
            refine pure_ (i := 2) (N := some 15) (v := ?_) (a' := ?_) #[true, true, true, false, false, false, false, false, false, false, false, false] rfl rfl (any_of HT_.out (by kernel_rfl)) (fun _ _ _ h => h) (Or.inl ⟨by rfl, ?_⟩) ?_ ?_
            rotate_left
            · intro w'
              go_simp
              with_reducible rfl
            rotate_left
            · simp only [Act.put, List.setIfInBounds_toArray, List.set_cons_zero, List.set_cons_succ, i64_w, i32_w]
              rfl
            refine pure_ (i := 4) (N := some 17) (v := ?_) (a' := ?_) #[true, true, true, false, true, false, false, false, false, false, false, false] rfl rfl (any_of HT_.out (by kernel_rfl)) (fun _ _ _ h => h) (Or.inl ⟨by rfl, ?_⟩) ?_ ?_
            rotate_left
            · intro w'
              go_simp
              with_reducible rfl
            rotate_left
            · simp only [Act.put, List.setIfInBounds_toArray, List.set_cons_zero, List.set_cons_succ, i64_w, i32_w]
              rfl
            refine pure_ (i := 6) (N := some 19) (v := ?_) (a' := ?_) #[true, true, true, false, true, false, true, false, false, false, false, false] rfl rfl (any_of HT_.out (by kernel_rfl)) (fun _ _ _ h => h) (Or.inl ⟨by rfl, ?_⟩) ?_ ?_
            rotate_left
            · intro w'
              go_simp
              with_reducible rfl
            rotate_left
            · simp only [Act.put, List.setIfInBounds_toArray, List.set_cons_zero, List.set_cons_succ, i64_w, i32_w]
              rfl
            refine pure_ (i := 7) (N := some 20) (v := ?_) (a' := ?_) #[true, true, true, false, true, false, true, true, false, false, false, false] rfl rfl (any_of HT_.out (by kernel_rfl)) (fun _ _ _ h => h) (Or.inl ⟨by rfl, ?_⟩) ?_ ?_
            rotate_left
            · intro w'
              go_simp
              with_reducible rfl
            rotate_left
            · simp only [Act.put, List.setIfInBounds_toArray, List.set_cons_zero, List.set_cons_succ, i64_w, i32_w]
              rfl
            refine pure_ (i := 8) (N := some 21) (v := ?_) (a' := ?_) #[true, true, true, false, true, false, true, true, true, false, false, false] rfl rfl (any_of HT_.out (by kernel_rfl)) (fun _ _ _ h => h) (Or.inl ⟨by rfl, ?_⟩) ?_ ?_
            rotate_left
            · intro w'
              go_simp
              with_reducible rfl
            rotate_left
            · simp only [Act.put, List.setIfInBounds_toArray, List.set_cons_zero, List.set_cons_succ, i64_w, i32_w]
              rfl
            refine pure_ (i := 9) (N := some 22) (v := ?_) (a' := ?_) #[true, true, true, false, true, false, true, true, true, true, false, false] rfl rfl (any_of HT_.out (by kernel_rfl)) (fun _ _ _ h => h) (Or.inl ⟨by rfl, ?_⟩) ?_ ?_
            rotate_left
            · intro w'
              go_simp
              with_reducible rfl
            rotate_left
            · simp only [Act.put, List.setIfInBounds_toArray, List.set_cons_zero, List.set_cons_succ, i64_w, i32_w]
              rfl
            refine take_ (i := 3) (N := some 16) (v := ?_) (a' := ?_) #[true, true, true, true, true, false, true, true, true, true, false, false] rfl rfl (take_ofW HT_.out HW_.out (by kernel_rfl)) (fun _ _ _ h => h) (Or.inl ⟨by rfl, ?_⟩) hHeld ?_ ?_
            rotate_left
            · rintro w' ⟨s0, s1, s2, s3, s4, s5⟩
              go_simp
              with_reducible rfl
            rotate_left
            · simp only [Act.put, List.setIfInBounds_toArray, List.set_cons_zero, List.set_cons_succ, i64_w, i32_w]
              rfl
            refine take_ (i := 10) (N := some 23) (v := ?_) (a' := ?_) #[true, true, true, true, true, false, true, true, true, true, true, false] rfl rfl (take_ofW HT_.out HW_.out (by kernel_rfl)) (fun _ _ _ h => h) (Or.inl ⟨by rfl, ?_⟩) hHeld ?_ ?_
            rotate_left
            · rintro w' ⟨s0, s1, s2, s3, s4, s5⟩
              go_simp
              with_reducible rfl
            rotate_left
            · simp only [Act.put, List.setIfInBounds_toArray, List.set_cons_zero, List.set_cons_succ, i64_w, i32_w]
              rfl
            refine one_ (i := 5) (N := some 18) #[true, true, true, true, true, true, true, true, true, true, true, false] rfl rfl (one_of HT_.out (by kernel_rfl)) (by decide) (fun K hK => ?_)
            refine goes_ Try.func75 (by kernel_rfl) rfl #[.agg #[.int .i64 ((rd_T39 l0 x6_1).f0), .int .i64 ((rd_T39 l0 x6_1).f1), .bool ((rd_T39 l0 x6_1).f2)], .int .i64 a1] (by rfl) rfl rfl (by (try simp only [List.map_toArray, List.map_cons, List.map_nil]); first | done | rfl | (simp only [List.length_drop, List.length_take]; rfl)) ?_
            with_reducible refine (drovewayref09_Across.calls ((rd_T39 l0 x6_1).f0) ((rd_T39 l0 x6_1).f1) ((rd_T39 l0 x6_1).f2) a1 t165 _ A5.out).mono ?_
            rintro e w12 ⟨rfl, hb⟩
            refine ⟨_, rfl, ?_⟩
            have n0_ := Aside0.mk (Kd.R_below (by (with_reducible repeat (first | apply Kd.R_alloc | apply Kd.R_drewN | apply Kd.R_drew)); exact HO_5.out) hb)
            have n1_ := Aside0.mk (below_step (by repeat (first | (with_reducible first | exact HB.out | apply below_alloc | apply pw_below_drewN | apply below_drew1) | exact HB.out)) hb)
            clear HO_5
            clear HB
            have HO_5 := n0_
            have HB := n1_
            clear n0_ n1_
            (try clear hb)
            (try clear hb2)
            (try clear hk)
            (try clear hi)
            refine hK.out _ _ ⟨((HB.out.cell (World.block_lt_of_cell? w _ hw164_0)).trans hw164_0), ((HB.out.cell (World.block_lt_of_cell? w _ hw164_1)).trans hw164_1), ((HB.out.cell (World.block_lt_of_cell? w _ hw164_2)).trans hw164_2), ((HB.out.cell (World.block_lt_of_cell? w _ hw166_0)).trans hw166_0), ((HB.out.cell (World.block_lt_of_cell? w _ hw166_1)).trans hw166_1), ((HB.out.cell (World.block_lt_of_cell? w _ hw166_2)).trans hw166_2)⟩ (fun hHeld => ?_)
            clear hK K
            refine norm_ (a' := ?_) ?_ ?_
            rotate_left
            · show Act.put _ (some 18) _ = _
              simp only [Act.put, List.setIfInBounds_toArray, List.set_cons_zero, List.set_cons_succ, i64_w, i32_w]
              rfl
            refine pure_ (i := 11) (N := some 24) (v := ?_) (a' := ?_) #[true, true, true, true, true, true, true, true, true, true, true, true] rfl rfl (any_of HT_.out (by kernel_rfl)) (fun _ _ _ h => h) (Or.inl ⟨by rfl, ?_⟩) ?_ ?_
            rotate_left
            · intro w'
              go_simp
              with_reducible rfl
            rotate_left
            · simp only [Act.put, List.setIfInBounds_toArray, List.set_cons_zero, List.set_cons_succ, i64_w, i32_w]
              rfl
            refine done_ (done_of HT_.out (by kernel_rfl)) ?_
            try go_wp2
            go_roundg k1
            case measure => have := HK1.out; omega
            case rel => exact ⟨(x5_1), (wrap64 (x6_1 + 1)), (by first | rfl | (simp; done) | (simp [*]; done)), H', ⟨by have := HK1.out; omega⟩, ⟨by (with_reducible repeat (first | apply Kd.R_alloc | apply Kd.R_drewN | apply Kd.R_drew)); exact HO_5.out⟩, ⟨by repeat (first | (with_reducible first | exact HB.out | apply below_alloc | apply pw_below_drewN | apply below_drew1) | exact HB.out)⟩⟩
        · rw [if_neg c4] at H
          exact absurd H (by simp)
      · rw [if_neg c3] at H
        have c3b0 : decide (x6_1 < (l0.length : Int)) = false := decide_eq_false c3
        clear c3
        obtain rfl := Option.some.inj H
        go_wp2
        go_ret
        exact ⟨_, by first | rfl | (simp [errW_none, errW_some] <;> rfl) | (simp [*, errW_none, errW_some] <;> rfl), by (with_reducible repeat (first | apply Kd.R_alloc | apply Kd.R_drewN | apply Kd.R_drew)); exact HO_5.out, by repeat (first | (with_reducible first | exact HB.out | apply below_alloc | apply pw_below_drewN | apply below_drew1) | exact HB.out)⟩

/-! ### drovewayref09_Sides: function 19 -/
def drovewayref09_Sides.l0 : Nat → Int → List (S39) → Int → Option (Int × Int)
  | 0, _, _, _ => none
  | k + 1, x0, x1, x7 => if 0 ≤ x0 then (if x7 < (shl .i64 1 x0) then ((drovewayref09_wrong.f k x1 x7).bind fun t171 => (if (t171.length : Int) = 0 then (some (x7, 0)) else (drovewayref09_Sides.l0 k x0 x1 (wrap64 (x7 + 1))))) else (some (0, 10))) else (none)
def drovewayref09_Sides.f (k : Nat) (a0 : Int) (l1 : List (S39)) : Option (Int × Int) := (drovewayref09_Ties.f k a0 l1).bind fun t170 => (if t170 = 0 then (drovewayref09_Sides.l0 k a0 l1 0) else (some (0, t170)))
theorem drovewayref09_Sides.mono_l : ∀ k, (∀ y0 y1 y2, LeO (drovewayref09_Sides.l0 k y0 y1 y2) (drovewayref09_Sides.l0 (k + 1) y0 y1 y2))
  | 0 => fun _ _ _ r h => by simp [drovewayref09_Sides.l0] at h
  | k + 1 => by
    have ih0 := drovewayref09_Sides.mono_l k
    · intro y0 y1 y2
      unfold drovewayref09_Sides.l0
      repeat' first
      | (with_reducible exact ih0 _ _ _)
      | (with_reducible exact drovewayref09_Ties.mono _ _ _)
      | (with_reducible exact drovewayref09_wrong.mono _ _ _)
      | (with_reducible exact LeO.refl _)
      | (with_reducible exact LeO.none _)
      | (with_reducible refine LeO.ite ?_ ?_)
      | (with_reducible refine LeO.bind ?_ (fun _ => ?_))
      | exact ih0 _ _ _
      | exact drovewayref09_Ties.mono _ _ _
      | exact drovewayref09_wrong.mono _ _ _
      | exact LeO.none _
      | refine LeO.ite ?_ ?_
      | refine LeO.bind ?_ (fun _ => ?_)
theorem drovewayref09_Sides.mono : ∀ a0 a1 k, LeO (drovewayref09_Sides.f k a0 a1) (drovewayref09_Sides.f (k + 1) a0 a1) := by
  intro a0 a1 k
  have ih0 := drovewayref09_Sides.mono_l k
  unfold drovewayref09_Sides.f
  repeat' first
      | (with_reducible exact ih0 _ _ _)
      | (with_reducible exact drovewayref09_Ties.mono _ _ _)
      | (with_reducible exact drovewayref09_wrong.mono _ _ _)
      | (with_reducible exact LeO.refl _)
      | (with_reducible exact LeO.none _)
      | (with_reducible refine LeO.ite ?_ ?_)
      | (with_reducible refine LeO.bind ?_ (fun _ => ?_))
      | exact ih0 _ _ _
      | exact drovewayref09_Ties.mono _ _ _
      | exact drovewayref09_wrong.mono _ _ _
      | exact LeO.none _
      | refine LeO.ite ?_ ?_
      | refine LeO.bind ?_ (fun _ => ?_)
set_option maxHeartbeats 8000000 in
set_option maxRecDepth 100000 in
theorem drovewayref09_Sides.calls (k : Nat) (a0 : Int) (A1 : Option Addr) (c1 : Nat) (l1 : List (S39)) (r1 : Int) (r2 : Int) (w : World) (hr1 : Kd.C k39 w A1 l1.length l1) (hc1 : l1.length ≤ c1) (h : drovewayref09_Sides.f k a0 l1 = some (r1, r2)) :
    Calls Try.prog 19 #[.int .i64 a0, .slice A1 l1.length c1] w fun e w' => e = .returned (.tuple #[.int .i64 r1, .int .i64 r2]) ∧ Below w.heap.size w w' := by
  have HR1 := Aside0.mk hr1
  have HC1 := Aside0.mk hc1
  clear hr1 hc1
  have HB := Aside0.mk (Below.refl w.heap.size w)
  have H : ((drovewayref09_Ties.f k a0 l1).bind fun t170 => (if t170 = 0 then (drovewayref09_Sides.l0 k a0 l1 0) else (some (0, t170)))) = some (r1, r2) := h
  clear h
  replace H := Option.bind_eq_some_iff.mp H
  obtain ⟨t170, A30, H⟩ := H
  replace H : (if t170 = 0 then (drovewayref09_Sides.l0 k a0 l1 0) else (some (0, t170))) = some (r1, r2) := H
  have A3 := Aside0.mk A30
  clear A30
  by_cases c4 : t170 = 0
  · rw [if_pos c4] at H
    have c4b0 : (t170 == 0) = true := beq_iff_eq.mpr c4
    have c4b1 : (t170 != 0) = false := bne_eq_false_iff_eq.mpr c4
    clear c4
    have H' := Aside0.mk H
    clear H
    go_enter Try.func19, Try.ntmps19
    go_wp2_with (first | ((with_reducible refine gate_callee (f := 24) rfl ?_); refine goesL_ (some 10) rfl rfl Try.func24 (by kernel_rfl) rfl #[.int .i64 a0, .slice A1 l1.length c1] rfl (by (try simp only [List.map_toArray, List.map_cons, List.map_nil]); first | done | rfl | (simp only [List.length_drop, List.length_take]; rfl)) ?_; (with_reducible refine (drovewayref09_Ties.calls k a0 _ _ l1 t170 _ ?side1 ?side2 A3.out).mono ?_); (case side1 => repeat (first | exact HR1.out | (with_reducible refine Kd.C_alloc ?_ _) | (with_reducible refine Kd.C_drewN ?_ _) | (with_reducible refine Kd.C_drew ?_))); (case side2 => exact HC1.out); rintro e w' ⟨rfl, ⟨nd, rfl⟩⟩; refine ⟨_, rfl, ?_⟩))
    go_loopg [7] k (fun kq v7 w' => ∃ (x7_1 : Int), v7 = .int .i64 x7_1 ∧ Aside0 (drovewayref09_Sides.l0 kq a0 l1 x7_1 = some (r1, r2)) ∧ Aside0 (kq ≤ k) ∧ Aside0 (Below w.heap.size w w'))
    case atStart => exact ⟨(0), (by first | rfl | (simp; done) | (simp [*]; done)), H', ⟨Nat.le_refl _⟩, ⟨by repeat (first | (with_reducible first | exact HB.out | apply below_alloc | apply pw_below_drewN | apply below_drew1) | exact HB.out)⟩⟩
    case round =>
      clear H'
      try clear c1
      try clear c2
      try clear p2
      try clear c4
      try clear c4b0
      try clear c4b1
      obtain ⟨x7_1, rfl, HA, HK1, HB⟩ := hrel
      cases gk with
      | zero => exact absurd HA.out (by simp [drovewayref09_Sides.l0])
      | succ k1 =>
        have H := HA.out
        clear HA
        simp only [drovewayref09_Sides.l0] at H
        by_cases c5 : 0 ≤ a0
        · rw [if_pos c5] at H
          have c5b0 := eq_true c5
          have c5b1 : decide (0 ≤ a0) = true := decide_eq_true c5
          clear c5
          obtain ⟨ji6, hji6⟩ : ∃ j_ : Int, (shl .i64 1 a0) = j_ := ⟨_, rfl⟩
          replace H : (if x7_1 < (ji6) then ((drovewayref09_wrong.f k1 l1 x7_1).bind fun t171 => (if (t171.length : Int) = 0 then (some (x7_1, 0)) else (drovewayref09_Sides.l0 k1 a0 l1 (wrap64 (x7_1 + 1))))) else (some (0, 10))) = some (r1, r2) := by first | (rw [hji6] at H; exact H) | (simp only [hji6] at H ⊢; exact H)
          have hji6_ : (IntKind.i64.wrap (1 * 2 ^ min a0.toNat 64)) = ji6 := hji6
          have hji6z : a0 ≤ 64 → (IntKind.i64.wrap (1 * 2 ^ a0.toNat)) = ji6 := shl_small hji6
          have hji6u : (IntKind.i64.wrap (2 ^ min a0.toNat 64)) = ji6 := by have h_ := hji6_; rw [Int.one_mul] at h_; exact h_
          have hji6v : a0 ≤ 64 → (IntKind.i64.wrap (2 ^ a0.toNat)) = ji6 := fun hle_ => by have h_ := hji6z hle_; rw [Int.one_mul] at h_; exact h_
          have hji6y : (wrap64 (1 * 2 ^ min a0.toNat 64)) = ji6 := (i64_w _).symm.trans hji6_
          have hji6x : a0 ≤ 64 → (wrap64 (1 * 2 ^ a0.toNat)) = ji6 := fun h_ => (i64_w _).symm.trans (hji6z h_)
          by_cases c7 : x7_1 < (ji6)
          · rw [if_pos c7] at H
            have c7b0 : decide (x7_1 < (ji6)) = true := decide_eq_true c7
            clear c7
            replace H := Option.bind_eq_some_iff.mp H
            obtain ⟨t171, A80, H⟩ := H
            replace H : (if (t171.length : Int) = 0 then (some (x7_1, 0)) else (drovewayref09_Sides.l0 k1 a0 l1 (wrap64 (x7_1 + 1)))) = some (r1, r2) := H
            have A8 := Aside0.mk A80
            clear A80
            by_cases c9 : (t171.length : Int) = 0
            · rw [if_pos c9] at H
              have c9b0 : ((t171.length : Int) == 0) = true := beq_iff_eq.mpr c9
              have c9b1 : ((t171.length : Int) != 0) = false := bne_eq_false_iff_eq.mpr c9
              clear c9
              simp only [Option.some.injEq, Prod.mk.injEq] at H
              obtain ⟨rfl, rfl⟩ := H
              go_wp2_with (first | ((with_reducible refine gate_callee (f := 48) rfl ?_); refine goesL_ (some 22) rfl rfl Try.func48 (by kernel_rfl) rfl #[.slice A1 l1.length c1, .int .i64 x7_1] rfl (by (try simp only [List.map_toArray, List.map_cons, List.map_nil]); first | done | rfl | (simp only [List.length_drop, List.length_take]; rfl)) ?_; (with_reducible refine (drovewayref09_wrong.calls k1 _ _ l1 x7_1 t171 _ ?side1 ?side2 A8.out).mono ?_); (case side1 => repeat (first | exact (Kd.C_below HR1.out HB.out) | (with_reducible refine Kd.C_alloc ?_ _) | (with_reducible refine Kd.C_drewN ?_ _) | (with_reducible refine Kd.C_drew ?_))); (case side2 => exact HC1.out); rintro e w10 ⟨v172, rfl, ho0, hb⟩; refine ⟨_, rfl, ?_⟩; have n0_ := Aside0.mk (Kd.R_lower ho0 (below_size (by repeat (first | (with_reducible first | exact HB.out | apply below_alloc | apply pw_below_drewN | apply below_drew1) | exact HB.out)))); have n1_ := Aside0.mk (below_step (by repeat (first | (with_reducible first | exact HB.out | apply below_alloc | apply pw_below_drewN | apply below_drew1) | exact HB.out)) hb); clear HB; have HO173 := n0_; have HB := n1_; clear n0_ n1_; (try clear hb); (try clear hb2); (try clear hk); (try clear hi); (try clear ho0); obtain ⟨Ao11, co11, eo11⟩ := Kd.R_slice HO173.out; subst eo11))
              go_ret2
              exact ⟨by first | rfl | (simp [errW_none, errW_some] <;> rfl) | (simp only [← hji6]; first | rfl | (simp [errW_none, errW_some] <;> rfl)) | (simp [*, errW_none, errW_some] <;> rfl), by repeat (first | (with_reducible first | exact HB.out | apply below_alloc | apply pw_below_drewN | apply below_drew1) | exact HB.out)⟩
            · rw [if_neg c9] at H
              have c9b0 : ((t171.length : Int) == 0) = false := beq_eq_false_iff_ne.mpr c9
              have c9b1 : ((t171.length : Int) != 0) = true := bne_iff_ne.mpr c9
              have c9b2 : ¬ (t171 = []) := fun h_ => c9 (by rw [h_]; rfl)
              have H' := Aside0.mk H
              clear H
              go_wp2_with (first | ((with_reducible refine gate_callee (f := 48) rfl ?_); refine goesL_ (some 22) rfl rfl Try.func48 (by kernel_rfl) rfl #[.slice A1 l1.length c1, .int .i64 x7_1] rfl (by (try simp only [List.map_toArray, List.map_cons, List.map_nil]); first | done | rfl | (simp only [List.length_drop, List.length_take]; rfl)) ?_; (with_reducible refine (drovewayref09_wrong.calls k1 _ _ l1 x7_1 t171 _ ?side1 ?side2 A8.out).mono ?_); (case side1 => repeat (first | exact (Kd.C_below HR1.out HB.out) | (with_reducible refine Kd.C_alloc ?_ _) | (with_reducible refine Kd.C_drewN ?_ _) | (with_reducible refine Kd.C_drew ?_))); (case side2 => exact HC1.out); rintro e w12 ⟨v172, rfl, ho0, hb⟩; refine ⟨_, rfl, ?_⟩; have n0_ := Aside0.mk (Kd.R_lower ho0 (below_size (by repeat (first | (with_reducible first | exact HB.out | apply below_alloc | apply pw_below_drewN | apply below_drew1) | exact HB.out)))); have n1_ := Aside0.mk (below_step (by repeat (first | (with_reducible first | exact HB.out | apply below_alloc | apply pw_below_drewN | apply below_drew1) | exact HB.out)) hb); clear HB; have HO173 := n0_; have HB := n1_; clear n0_ n1_; (try clear hb); (try clear hb2); (try clear hk); (try clear hi); (try clear ho0); obtain ⟨Ao13, co13, eo13⟩ := Kd.R_slice HO173.out; subst eo13))
              go_roundg k1
              case measure => have := HK1.out; omega
              case rel => exact ⟨(wrap64 (x7_1 + 1)), (by first | rfl | (simp; done) | (simp [*]; done)), H', ⟨by have := HK1.out; omega⟩, ⟨by repeat (first | (with_reducible first | exact HB.out | apply below_alloc | apply pw_below_drewN | apply below_drew1) | exact HB.out)⟩⟩
          · rw [if_neg c7] at H
            have c7b0 : decide (x7_1 < (ji6)) = false := decide_eq_false c7
            clear c7
            simp only [Option.some.injEq, Prod.mk.injEq] at H
            obtain ⟨rfl, rfl⟩ := H
            go_wp2
            go_ret2
            exact ⟨by first | rfl | (simp [errW_none, errW_some] <;> rfl) | (simp only [← hji6]; first | rfl | (simp [errW_none, errW_some] <;> rfl)) | (simp [*, errW_none, errW_some] <;> rfl), by repeat (first | (with_reducible first | exact HB.out | apply below_alloc | apply pw_below_drewN | apply below_drew1) | exact HB.out)⟩
        · rw [if_neg c5] at H
          exact absurd H (by simp)
  · rw [if_neg c4] at H
    have c4b0 : (t170 == 0) = false := beq_eq_false_iff_ne.mpr c4
    have c4b1 : (t170 != 0) = true := bne_iff_ne.mpr c4
    simp only [Option.some.injEq, Prod.mk.injEq] at H
    obtain ⟨rfl, rfl⟩ := H
    go_enter Try.func19, Try.ntmps19
    go_wp2_with (first | ((with_reducible refine gate_callee (f := 24) rfl ?_); refine goesL_ (some 10) rfl rfl Try.func24 (by kernel_rfl) rfl #[.int .i64 a0, .slice A1 l1.length c1] rfl (by (try simp only [List.map_toArray, List.map_cons, List.map_nil]); first | done | rfl | (simp only [List.length_drop, List.length_take]; rfl)) ?_; (with_reducible refine (drovewayref09_Ties.calls k a0 _ _ l1 t170 _ ?side1 ?side2 A3.out).mono ?_); (case side1 => repeat (first | exact HR1.out | (with_reducible refine Kd.C_alloc ?_ _) | (with_reducible refine Kd.C_drewN ?_ _) | (with_reducible refine Kd.C_drew ?_))); (case side2 => exact HC1.out); rintro e w' ⟨rfl, ⟨nd, rfl⟩⟩; refine ⟨_, rfl, ?_⟩))
    go_ret2
    exact ⟨by first | rfl | (simp [errW_none, errW_some] <;> rfl) | (simp [*, errW_none, errW_some] <;> rfl), by repeat (first | (with_reducible first | exact HB.out | apply below_alloc | apply pw_below_drewN | apply below_drew1) | exact HB.out)⟩

end
end Go.Proofs.Ytaegldcifhgnmaa.B

/- The reference's Switch, Wrong, Least and Same, as the kit's print writes them. -/
namespace Go.Proofs.Ytaegldcifhgnmaa.B
open Go.Proofs.Ytaegldcifhgnmaa.A
open Go.RowKit Go.Proofs.YtaegldcifhgnmaaW.PrintWords Go.Proofs.YtaegldcifhgnmaaW.PrintLast Go.Proofs.YtaegldcifhgnmaaW.PrintMore
section
attribute [local go_sem] max2_int min2_int max_two min_two max_three min_three max_four min_four   -- for this text's walks alone
set_option linter.unusedVariables false
set_option linter.unusedSimpArgs false
/-! ### drovewayref09_Switched: function 59 -/
def drovewayref09_Switched.l0 : Nat → List (S39) → Int → List (S39) → Int → Option ((List (S39)))
  | 0, _, _, _, _ => none
  | k + 1, x0, x1, x5, x6 => if x6 < (x0.length : Int) then (if 0 ≤ x6 then ((drovewayref09_Across.f ((rd_T39 x0 x6).f0) ((rd_T39 x0 x6).f1) ((rd_T39 x0 x6).f2) x1).bind fun t160 => (if x5.length < 5864062014805 then (drovewayref09_Switched.l0 k x0 x1 (x5 ++ [(⟨(rd_T39 x0 x6).f0, (rd_T39 x0 x6).f1, (((rd_T39 x0 x6).f2) != t160)⟩ : S39)]) (wrap64 (x6 + 1))) else (none))) else (none)) else (some x5)
def drovewayref09_Switched.f (k : Nat) (l0 : List (S39)) (a1 : Int) : Option ((List (S39))) := drovewayref09_Switched.l0 k l0 a1 ([] : List (S39)) 0
theorem drovewayref09_Switched.mono_l : ∀ k, (∀ y0 y1 y2 y3, LeO (drovewayref09_Switched.l0 k y0 y1 y2 y3) (drovewayref09_Switched.l0 (k + 1) y0 y1 y2 y3))
  | 0 => fun _ _ _ _ r h => by simp [drovewayref09_Switched.l0] at h
  | k + 1 => by
    have ih0 := drovewayref09_Switched.mono_l k
    · intro y0 y1 y2 y3
      unfold drovewayref09_Switched.l0
      repeat' first
      | (with_reducible exact ih0 _ _ _ _)
      | (with_reducible exact LeO.refl _)
      | (with_reducible exact LeO.none _)
      | (with_reducible refine LeO.ite ?_ ?_)
      | (with_reducible refine LeO.bind ?_ (fun _ => ?_))
      | exact ih0 _ _ _ _
      | exact LeO.none _
      | refine LeO.ite ?_ ?_
      | refine LeO.bind ?_ (fun _ => ?_)
theorem drovewayref09_Switched.mono : ∀ a0 a1 k, LeO (drovewayref09_Switched.f k a0 a1) (drovewayref09_Switched.f (k + 1) a0 a1) := by
  intro a0 a1 k
  have ih0 := drovewayref09_Switched.mono_l k
  unfold drovewayref09_Switched.f
  repeat' first
      | (with_reducible exact ih0 _ _ _ _)
      | (with_reducible exact LeO.refl _)
      | (with_reducible exact LeO.none _)
      | (with_reducible refine LeO.ite ?_ ?_)
      | (with_reducible refine LeO.bind ?_ (fun _ => ?_))
      | exact ih0 _ _ _ _
      | exact LeO.none _
      | refine LeO.ite ?_ ?_
      | refine LeO.bind ?_ (fun _ => ?_)
def drovewayref09_Switched.T6 : Bool × List (List Nat × List Nat) := (true, [([], []), ([0], [0]), ([], []), ([], []), ([2, 3], [2, 3]), ([1, 4], [1, 4]), ([0, 1, 2, 3, 4, 5], []), ([6, 5, 4, 0, 1, 2, 3, 4, 5], [5, 6])])
def drovewayref09_Switched.B6 : List Nat := [0, 1, 0, 0, 12, 31, 63, 127]
theorem drovewayref09_Switched.tab6 : rtab .any (opsOf Try.f59 6) = drovewayref09_Switched.T6 := by kernel_rfl
theorem drovewayref09_Switched.bits6 : waitsOk drovewayref09_Switched.T6.2 drovewayref09_Switched.B6 = true := by kernel_rfl
set_option maxHeartbeats 8000000 in
set_option maxRecDepth 100000 in
theorem drovewayref09_Switched.calls (k : Nat) (A0 : Option Addr) (c0 : Nat) (l0 : List (S39)) (a1 : Int) (r : List (S39)) (w : World) (hr0 : Kd.C k39 w A0 l0.length l0) (hc0 : l0.length ≤ c0) (h : drovewayref09_Switched.f k l0 a1 = some r) :
    Calls Try.prog 59 #[.slice A0 l0.length c0, .int .i64 a1] w fun e w' => ∃ v0_ : Value, e = .returned (v0_) ∧ Kd.R k39 39 w' w.heap.size (fun _ => True) v0_ r ∧ Below w.heap.size w w' := by
  have hu39 := Try.underlying39
  have HR0 := Aside0.mk hr0
  have HC0 := Aside0.mk hc0
  clear hr0 hc0
  have HB := Aside0.mk (Below.refl w.heap.size w)
  have H : (drovewayref09_Switched.l0 k l0 a1 ([] : List (S39)) 0) = some r := h
  clear h
  have H' := Aside0.mk H
  clear H
  go_enter Try.func59, Try.ntmps59
  go_wp2
  go_loopg [5, 6] k (fun kq v5 v6 w' => ∃ (x5_1 : List (S39)) (x6_1 : Int), v6 = .int .i64 x6_1 ∧ Aside0 (drovewayref09_Switched.l0 kq l0 a1 x5_1 x6_1 = some r) ∧ Aside0 (kq ≤ k) ∧ Aside0 (Kd.R k39 39 w' w.heap.size (fun _ => True) v5 x5_1) ∧ Aside0 (Below w.heap.size w w'))
  case atStart => exact ⟨(([] : List (S39))), (0), (by first | rfl | (simp; done) | (simp [*]; done)), H', ⟨Nat.le_refl _⟩, ⟨by first | exact Kd.R_nil _ _ _ _ _ | exact Kd.N_nil _ _ _ _ _ | exact Kd.V_nil _ _ _ _ _ | exact Kd.Q_nil _ _ _ _ _ | exact Kd.S_nil _ _ _ _ _⟩, ⟨by repeat (first | (with_reducible first | exact HB.out | apply below_alloc | apply pw_below_drewN | apply below_drew1) | exact HB.out)⟩⟩
  case round =>
    clear H'
    try clear p2
    obtain ⟨x5_1, x6_1, rfl, HA, HK1, HO_5, HB⟩ := hrel
    cases gk with
    | zero => exact absurd HA.out (by simp [drovewayref09_Switched.l0])
    | succ k1 =>
      have H := HA.out
      clear HA
      simp only [drovewayref09_Switched.l0] at H
      by_cases c3 : x6_1 < (l0.length : Int)
      · rw [if_pos c3] at H
        have c3b0 : decide (x6_1 < (l0.length : Int)) = true := decide_eq_true c3
        clear c3
        by_cases c4 : 0 ≤ x6_1
        · rw [if_pos c4] at H
          have c4b0 : decide (0 ≤ x6_1) = true := decide_eq_true c4
          clear c4
          replace H := Option.bind_eq_some_iff.mp H
          obtain ⟨t160, A50, H⟩ := H
          replace H : (if x5_1.length < 5864062014805 then (drovewayref09_Switched.l0 k1 l0 a1 (x5_1 ++ [(⟨(rd_T39 l0 x6_1).f0, (rd_T39 l0 x6_1).f1, (((rd_T39 l0 x6_1).f2) != t160)⟩ : S39)]) (wrap64 (x6_1 + 1))) else (none)) = some r := H
          have A5 := Aside0.mk A50
          clear A50
          by_cases c6 : x5_1.length < 5864062014805
          · rw [if_pos c6] at H
            have LMc6 := Aside0.mk c6
            clear c6
            obtain ⟨y161, hy161⟩ : ∃ y_ : List (S39), y_ = (x5_1 ++ [(⟨(rd_T39 l0 x6_1).f0, (rd_T39 l0 x6_1).f1, (((rd_T39 l0 x6_1).f2) != t160)⟩ : S39)]) := ⟨_, rfl⟩
            replace H : (drovewayref09_Switched.l0 k1 l0 a1 y161 (wrap64 (x6_1 + 1))) = some r := by first | (rw [hy161]; with_reducible exact H) | (have H2_ := (Option.bind_some _ _).symm.trans H; rw [hy161]; with_reducible exact H2_) | (have H2_ := (Option.bind_some _ _).symm.trans H; with_reducible exact H2_) | with_reducible exact H | (rw [hy161]; exact H) | exact H
            have Ny161 := Aside0.mk hy161
            clear hy161
            have H' := Aside0.mk H
            clear H
            have p158 : 0 ≤ (x6_1 : Int) := of_decide_eq_true (by first | (with_reducible assumption) | assumption)
            have q158 : x6_1 < (l0.length : Int) := of_decide_eq_true (by first | (with_reducible assumption) | assumption)
            obtain ⟨ad158, e158, hx158_0, hx158_1, hx158_2⟩ := at_T39 HR0.out x6_1 p158 q158
            cases e158
            replace hx158_0 := (HB.out.cell (World.block_lt_of_cell? w _ hx158_0)).trans hx158_0
            replace hx158_1 := (HB.out.cell (World.block_lt_of_cell? w _ hx158_1)).trans hx158_1
            replace hx158_2 := (HB.out.cell (World.block_lt_of_cell? w _ hx158_2)).trans hx158_2
            replace p158 := eq_true p158
            replace q158 := eq_true q158
            try go_wp2_with (first | ((with_reducible refine gate_dst (N := 7) rfl ?_); refine box_event ?hg (N := 7) ?hd (cs := #[.int .i64 0, .int .i64 0, .bool false]) (t := 39) ?hr ?_; (case hd => rfl); (case hg => rfl); (case hr => first | (go_simp; done) | (go_simp; rfl)); intro gb159 hg w7 hbox hb; have n0_ := Aside0.mk (Kd.R_below (Kd.R_elderB (by (with_reducible repeat (first | apply Kd.R_alloc | apply Kd.R_drewN | apply Kd.R_drew)); exact HO_5.out) gb159 (Nat.le_of_eq hg.symm)) hb); have n1_ := Aside0.mk (below_step (by repeat (first | (with_reducible first | exact HB.out | apply below_alloc | apply pw_below_drewN | apply below_drew1) | exact HB.out)) hb); have n2_ := Aside0.mk (hbox); have n3_ := Aside0.mk ((by rw [hg]; exact (below_size (by repeat (first | (with_reducible first | exact HB.out | apply below_alloc | apply pw_below_drewN | apply below_drew1) | exact HB.out))) : w.heap.size ≤ gb159)); have n4_ := Aside0.mk ((by rw [hg]; exact (below_size (by repeat (first | (with_reducible first | exact HB.out | apply below_alloc | apply pw_below_drewN | apply below_drew1) | exact HB.out))) : w.heap.size ≤ gb159)); clear HO_5; clear HB; have HO_5 := n0_; have HB := n1_; have BK159 := n2_; have GW159 := n3_; have GE159 := n4_; clear n0_ n1_ n2_ n3_ n4_; clear hb hbox hg; have hcz8_0 : w7.cell? ⟨gb159, 0, none⟩ = some (.int .i64 0) := (blk_cell BK159.out 0).trans rfl; have hcz8_1 : w7.cell? ⟨gb159, 1, none⟩ = some (.int .i64 0) := (blk_cell BK159.out 1).trans rfl; have hcz8_2 : w7.cell? ⟨gb159, 2, none⟩ = some (.bool false) := (blk_cell BK159.out 2).trans rfl; have hfz8_0 := blk_frozen BK159.out 0; have hfz8_1 := blk_frozen BK159.out 1; have hfz8_2 := blk_frozen BK159.out 2))
            have n0_ : Aside0 (Kd.R k39 39 (((w7.setCell ⟨gb159, 0, none⟩ (.int .i64 ((rd_T39 l0 x6_1).f0))).setCell ⟨gb159, 1, none⟩ (.int .i64 ((rd_T39 l0 x6_1).f1))).setCell ⟨gb159, 2, none⟩ (.bool ((rd_T39 l0 x6_1).f2))) w.heap.size (fun k_ => k_ ≠ gb159) u5 x5_1) := ⟨by (with_reducible repeat (first | apply Kd.R_alloc | apply Kd.R_drewN | apply Kd.R_drew)); exact Kd.R_mono (Kd.R_far (p := ⟨gb159, 2, none⟩) (Kd.R_far (p := ⟨gb159, 1, none⟩) (Kd.R_far (p := ⟨gb159, 0, none⟩) (Kd.R_mono HO_5.out (fun k_ hk => (⟨hk, hk.2⟩ : _ ∧ k_ ≠ gb159))) (fun _ hk => hk.2) (.int .i64 ((rd_T39 l0 x6_1).f0))) (fun _ hk => hk.2) (.int .i64 ((rd_T39 l0 x6_1).f1))) (fun _ hk => hk.2) (.bool ((rd_T39 l0 x6_1).f2))) (fun _ hk => hk.1.2)⟩
            have n1_ : Aside0 ((((w7.setCell ⟨gb159, 0, none⟩ (.int .i64 ((rd_T39 l0 x6_1).f0))).setCell ⟨gb159, 1, none⟩ (.int .i64 ((rd_T39 l0 x6_1).f1))).setCell ⟨gb159, 2, none⟩ (.bool ((rd_T39 l0 x6_1).f2))).heap[gb159]? = some (.cells #[.int .i64 ((rd_T39 l0 x6_1).f0), .int .i64 ((rd_T39 l0 x6_1).f1), .bool ((rd_T39 l0 x6_1).f2)] 39 (0, 0))) := ⟨by (with_reducible repeat (first | refine blk_drewN ?_ _ | refine blk_drew ?_ | refine blk_alloc ?_ _)); refine blk_put (cs := #[.int .i64 ((rd_T39 l0 x6_1).f0), .int .i64 ((rd_T39 l0 x6_1).f1), .bool false]) ?_ 2 _ rfl; (with_reducible repeat (first | refine blk_drewN ?_ _ | refine blk_drew ?_ | refine blk_alloc ?_ _)); refine blk_put (cs := #[.int .i64 ((rd_T39 l0 x6_1).f0), .int .i64 0, .bool false]) ?_ 1 _ rfl; (with_reducible repeat (first | refine blk_drewN ?_ _ | refine blk_drew ?_ | refine blk_alloc ?_ _)); refine blk_put (cs := #[.int .i64 0, .int .i64 0, .bool false]) ?_ 0 _ rfl; (with_reducible repeat (first | refine blk_drewN ?_ _ | refine blk_drew ?_ | refine blk_alloc ?_ _)); exact BK159.out⟩
            have n2_ : Aside0 (Below w.heap.size w (((w7.setCell ⟨gb159, 0, none⟩ (.int .i64 ((rd_T39 l0 x6_1).f0))).setCell ⟨gb159, 1, none⟩ (.int .i64 ((rd_T39 l0 x6_1).f1))).setCell ⟨gb159, 2, none⟩ (.bool ((rd_T39 l0 x6_1).f2)))) := ⟨by repeat (first | (with_reducible first | exact HB.out | apply below_alloc | apply pw_below_drewN | apply below_drew1 | refine below_set ?_ GE159.out) | exact HB.out)⟩
            (try clear HO_5)
            (try clear BK159)
            (try clear HB)
            generalize (((w7.setCell ⟨gb159, 0, none⟩ (.int .i64 ((rd_T39 l0 x6_1).f0))).setCell ⟨gb159, 1, none⟩ (.int .i64 ((rd_T39 l0 x6_1).f1))).setCell ⟨gb159, 2, none⟩ (.bool ((rd_T39 l0 x6_1).f2))) = w9 at n0_ n1_ n2_ ⊢
            have HO_5 := n0_
            have BK159 := n1_
            have HB := n2_
            clear n0_ n1_ n2_
            have n0_ := Aside0.mk (Kd.R_drew HO_5.out)
            have n1_ := Aside0.mk (blk_drew BK159.out)
            have n2_ := Aside0.mk (below_drew1 HB.out)
            clear HO_5
            clear BK159
            clear HB
            have HO_5 := n0_
            have BK159 := n1_
            have HB := n2_
            clear n0_ n1_ n2_
            refine start_ (n := 8) (S := fun w' => w'.cell? ⟨gb159, 0, none⟩ = some (.int .i64 ((rd_T39 l0 x6_1).f0)) ∧ w'.cell? ⟨gb159, 1, none⟩ = some (.int .i64 ((rd_T39 l0 x6_1).f1)) ∧ w'.cell? ⟨gb159, 2, none⟩ = some (.bool ((rd_T39 l0 x6_1).f2))) (ds := [7]) #[false, false, false, false, false, false, false, false] (by kernel_rfl) rfl rfl ⟨(blk_cell BK159.out 0).trans rfl, (blk_cell BK159.out 1).trans rfl, (blk_cell BK159.out 2).trans rfl⟩ (fun hHeld => ?_); refine with_tabW drovewayref09_Switched.tab6 drovewayref09_Switched.bits6 (fun HT_ HW_ => ?_)
            generalize w9.drew = w10 at HO_5 BK159 HB hHeld ⊢
            refine pure_ (i := 0) (N := some 18) (v := ?_) (a' := ?_) #[true, false, false, false, false, false, false, false] rfl rfl (any_of HT_.out (by kernel_rfl)) (fun _ _ _ h => h) (Or.inl ⟨by rfl, ?_⟩) ?_ ?_
            rotate_left
            · intro w'
              go_simp
              with_reducible rfl
            rotate_left
            · simp only [Act.put, List.setIfInBounds_toArray, List.set_cons_zero, List.set_cons_succ, i64_w, i32_w]
              rfl
            refine pure_ (i := 3) (N := some 21) (v := ?_) (a' := ?_) #[true, false, false, true, false, false, false, false] rfl rfl (any_of HT_.out (by kernel_rfl)) (fun _ _ _ h => h) (Or.inl ⟨by rfl, ?_⟩) ?_ ?_
            rotate_left
            · intro w'
              go_simp
              with_reducible rfl
            rotate_left
            · simp only [Act.put, List.setIfInBounds_toArray, List.set_cons_zero, List.set_cons_succ, i64_w, i32_w]
              rfl
            refine take_ (i := 1) (N := some 19) (v := ?_) (a' := ?_) #[true, true, false, true, false, false, false, false] rfl rfl (take_ofW HT_.out HW_.out (by kernel_rfl)) (fun _ _ _ h => h) (Or.inl ⟨by rfl, ?_⟩) hHeld ?_ ?_
            rotate_left
            · rintro w' ⟨s0, s1, s2⟩
              go_simp
              with_reducible rfl
            rotate_left
            · simp only [Act.put, List.setIfInBounds_toArray, List.set_cons_zero, List.set_cons_succ, i64_w, i32_w]
              rfl
            refine take_ (i := 2) (N := some 20) (v := ?_) (a' := ?_) #[true, true, true, true, false, false, false, false] rfl rfl (take_ofW HT_.out HW_.out (by kernel_rfl)) (fun _ _ _ h => h) (Or.inl ⟨by rfl, ?_⟩) hHeld ?_ ?_
            rotate_left
            · rintro w' ⟨s0, s1, s2⟩
              go_simp
              with_reducible rfl
            rotate_left
            · simp only [Act.put, List.setIfInBounds_toArray, List.set_cons_zero, List.set_cons_succ, i64_w, i32_w]
              rfl
            refine one_ (i := 4) (N := some 22) #[true, true, true, true, true, false, false, false] rfl rfl (one_of HT_.out (by kernel_rfl)) (by decide) (fun K hK => ?_)
            refine goes_ Try.func75 (by kernel_rfl) rfl #[.agg #[.int .i64 ((rd_T39 l0 x6_1).f0), .int .i64 ((rd_T39 l0 x6_1).f1), .bool ((rd_T39 l0 x6_1).f2)], .int .i64 a1] (by rfl) rfl rfl (by (try simp only [List.map_toArray, List.map_cons, List.map_nil]); first | done | rfl | (simp only [List.length_drop, List.length_take]; rfl)) ?_
            with_reducible refine (drovewayref09_Across.calls ((rd_T39 l0 x6_1).f0) ((rd_T39 l0 x6_1).f1) ((rd_T39 l0 x6_1).f2) a1 t160 _ A5.out).mono ?_
            rintro e w11 ⟨rfl, hb⟩
            refine ⟨_, rfl, ?_⟩
            have n0_ := Aside0.mk (Kd.R_below (by (with_reducible repeat (first | apply Kd.R_alloc | apply Kd.R_drewN | apply Kd.R_drew)); exact HO_5.out) hb)
            have n1_ := Aside0.mk (blk_below (g := gb159) (o := .cells #[.int .i64 ((rd_T39 l0 x6_1).f0), .int .i64 ((rd_T39 l0 x6_1).f1), .bool ((rd_T39 l0 x6_1).f2)] 39 (0, 0)) (by (with_reducible repeat (first | refine blk_drewN ?_ _ | refine blk_drew ?_ | refine blk_alloc ?_ _)); exact BK159.out) hb)
            have n2_ := Aside0.mk (below_step (by repeat (first | (with_reducible first | exact HB.out | apply below_alloc | apply pw_below_drewN | apply below_drew1 | refine below_set ?_ GE159.out) | exact HB.out)) hb)
            clear HO_5
            clear BK159
            clear HB
            have HO_5 := n0_
            have BK159 := n1_
            have HB := n2_
            clear n0_ n1_ n2_
            (try clear hb)
            (try clear hb2)
            (try clear hk)
            (try clear hi)
            refine hK.out _ _ ⟨(blk_cell BK159.out 0).trans rfl, (blk_cell BK159.out 1).trans rfl, (blk_cell BK159.out 2).trans rfl⟩ (fun hHeld => ?_)
            clear hK K
            refine norm_ (a' := ?_) ?_ ?_
            rotate_left
            · show Act.put _ (some 22) _ = _
              simp only [Act.put, List.setIfInBounds_toArray, List.set_cons_zero, List.set_cons_succ, i64_w, i32_w]
              rfl
            refine pure_ (i := 5) (N := some 23) (v := ?_) (a' := ?_) #[true, true, true, true, true, true, false, false] rfl rfl (any_of HT_.out (by kernel_rfl)) (fun _ _ _ h => h) (Or.inl ⟨by rfl, ?_⟩) ?_ ?_
            rotate_left
            · intro w'
              go_simp
              with_reducible rfl
            rotate_left
            · simp only [Act.put, List.setIfInBounds_toArray, List.set_cons_zero, List.set_cons_succ, i64_w, i32_w]
              rfl
            refine pure_ (i := 6) (N := some 24) (v := ?_) (a' := ?_) #[true, true, true, true, true, true, true, false] rfl rfl (any_of HT_.out (by kernel_rfl)) (fun _ _ _ h => h) (Or.inl ⟨by rfl, ?_⟩) ?_ ?_
            rotate_left
            · intro w'
              go_simp
              with_reducible rfl
            rotate_left
            · simp only [Act.put, List.setIfInBounds_toArray, List.set_cons_zero, List.set_cons_succ, i64_w, i32_w]
              rfl
            refine last_ (i := 7) (N := none) #[true, true, true, true, true, true, true, true] rfl rfl (one_of HT_.out (by kernel_rfl)) (by decide) (fun K hK => ?_)
            have hs12 : w11.cell? ⟨gb159, 2, none⟩ = some (.bool ((rd_T39 l0 x6_1).f2)) := (blk_cell BK159.out 2).trans rfl
            have hfs12 := blk_frozen BK159.out 2
            refine skip_ (w1 := ?_) (by rfl) rfl ?_ ?_
            rotate_left
            · go_simp
              rfl
            refine hK.out _ _ ?_
            clear hK K
            refine done_ (done_of HT_.out (by kernel_rfl)) ?_
            have hcz13_0 : w11.cell? ⟨gb159, 0, none⟩ = some (.int .i64 ((rd_T39 l0 x6_1).f0)) := (blk_cell BK159.out 0).trans rfl
            have hcz13_1 : w11.cell? ⟨gb159, 1, none⟩ = some (.int .i64 ((rd_T39 l0 x6_1).f1)) := (blk_cell BK159.out 1).trans rfl
            have hcz13_2 : w11.cell? ⟨gb159, 2, none⟩ = some (.bool ((rd_T39 l0 x6_1).f2)) := (blk_cell BK159.out 2).trans rfl
            have hfz13_0 := blk_frozen BK159.out 0
            have hfz13_1 := blk_frozen BK159.out 1
            have hfz13_2 := blk_frozen BK159.out 2
            try go_wp2_with (first | ((with_reducible refine gate_builtin (b := .append) (xs := #[.tmp 25, .tmp 27]) rfl ?_); at_builtin; refine Kd.R_append k39 (w0 := w) w.heap.size rfl (.tmp 25) (.tmp 27) 22 39 (.agg #[(.int .i64 0), (.int .i64 0), (.bool false)]) 24 rfl Try.underlying22 info39 rfl (by decide) (by omega) u5 x5_1 (⟨(rd_T39 l0 x6_1).f0, (rd_T39 l0 x6_1).f1, (((rd_T39 l0 x6_1).f2) != t160)⟩ : S39) [.int .i64 ((rd_T39 l0 x6_1).f0), .int .i64 ((rd_T39 l0 x6_1).f1), .bool (((rd_T39 l0 x6_1).f2) != t160)] (fun k_ => k_ ≠ gb159) (fun _ => False) rfl (by first | (go_simp; done) | (go_simp; rfl)) ?aP (fun _ hk => hk.elim) ?aF ?aO ?aB ?aS ?aL ?_; (case aP => exact k39_mkM _ _ _ (⟨(rd_T39 l0 x6_1).f0, (rd_T39 l0 x6_1).f1, (((rd_T39 l0 x6_1).f2) != t160)⟩ : S39)); (case aB => exact (by repeat (first | (with_reducible first | exact HB.out | apply below_alloc | apply pw_below_drewN | apply below_drew1 | refine below_set ?_ GE159.out) | exact HB.out))); (case aF => exact (fun k_ hk => Kd.freshB (g := gb159) (o := .cells #[.int .i64 ((rd_T39 l0 x6_1).f0), .int .i64 ((rd_T39 l0 x6_1).f1), .bool (((rd_T39 l0 x6_1).f2) != t160)] 39 (0, 0)) (by (with_reducible repeat (first | refine blk_drewN ?_ _ | refine blk_drew ?_ | refine blk_alloc ?_ _)); refine blk_put (cs := #[.int .i64 ((rd_T39 l0 x6_1).f0), .int .i64 ((rd_T39 l0 x6_1).f1), .bool ((rd_T39 l0 x6_1).f2)]) ?_ 2 _ rfl; (with_reducible repeat (first | refine blk_drewN ?_ _ | refine blk_drew ?_ | refine blk_alloc ?_ _)); exact BK159.out) k_ hk)); (case aO => exact (by (with_reducible repeat (first | apply Kd.R_alloc | apply Kd.R_drewN | apply Kd.R_drew)); exact Kd.R_mono (Kd.R_far (p := ⟨gb159, 2, none⟩) (Kd.R_mono HO_5.out (fun k_ hk => (⟨hk, hk⟩ : _ ∧ k_ ≠ gb159))) (fun _ hk => hk.2) (.bool (((rd_T39 l0 x6_1).f2) != t160))) (fun _ hk => hk.1))); (case aS => exact (below_size (by repeat (first | (with_reducible first | exact HB.out | apply below_alloc | apply pw_below_drewN | apply below_drew1 | refine below_set ?_ GE159.out) | exact HB.out)))); (case aL => have := LMc6.out; omega); intro v162 w14 ho hb hg hat; rw [← Ny161.out] at ho; have n0_ := Aside0.mk (blk_grown (g := gb159) (o := .cells #[.int .i64 ((rd_T39 l0 x6_1).f0), .int .i64 ((rd_T39 l0 x6_1).f1), .bool (((rd_T39 l0 x6_1).f2) != t160)] 39 (0, 0)) (by (with_reducible repeat (first | refine blk_drewN ?_ _ | refine blk_drew ?_ | refine blk_alloc ?_ _)); refine blk_put (cs := #[.int .i64 ((rd_T39 l0 x6_1).f0), .int .i64 ((rd_T39 l0 x6_1).f1), .bool ((rd_T39 l0 x6_1).f2)]) ?_ 2 _ rfl; (with_reducible repeat (first | refine blk_drewN ?_ _ | refine blk_drew ?_ | refine blk_alloc ?_ _)); exact BK159.out) hg (Kd.R_away HO_5.out (fun _ hk => hk))); have n1_ := Aside0.mk (hb); have n2_ := Aside0.mk (ho); clear BK159; clear HB; clear HO_5; have BK159 := n0_; have HB := n1_; have HO163 := n2_; clear n0_ n1_ n2_; clear ho hb hg hat))
            go_roundg k1
            case measure => have := HK1.out; omega
            case rel => exact ⟨(y161), (wrap64 (x6_1 + 1)), (by first | rfl | (simp; done) | (simp [*]; done)), H', ⟨by have := HK1.out; omega⟩, ⟨by (with_reducible repeat (first | apply Kd.R_alloc | apply Kd.R_drewN | apply Kd.R_drew)); exact Kd.R_mono HO163.out (fun _ hk => trivial)⟩, ⟨by repeat (first | (with_reducible first | exact HB.out | apply below_alloc | apply pw_below_drewN | apply below_drew1 | refine below_set ?_ GE159.out) | exact HB.out)⟩⟩
          · rw [if_neg c6] at H
            exact absurd H (by simp)
        · rw [if_neg c4] at H
          exact absurd H (by simp)
      · rw [if_neg c3] at H
        have c3b0 : decide (x6_1 < (l0.length : Int)) = false := decide_eq_false c3
        clear c3
        obtain rfl := Option.some.inj H
        go_wp2
        go_ret
        exact ⟨_, by first | rfl | (simp [errW_none, errW_some] <;> rfl) | (simp [*, errW_none, errW_some] <;> rfl), by (with_reducible repeat (first | apply Kd.R_alloc | apply Kd.R_drewN | apply Kd.R_drew)); exact HO_5.out, by repeat (first | (with_reducible first | exact HB.out | apply below_alloc | apply pw_below_drewN | apply below_drew1) | exact HB.out)⟩

/-! ### drovewayref09_with: function 62 -/
def drovewayref09_with.f (k : Nat) (a0 : Int) (l1 : List (S39)) (a2 : Int) : Option (Int) := (drovewayref09_Ties.f k a0 l1).bind fun t172 => (if t172 = 0 then (if a2 < 0 then (some 2) else (if 0 ≤ a0 then (if a2 ≥ (shl .i64 1 a0) then (some 2) else (some t172)) else (none))) else (some t172))
theorem drovewayref09_with.mono : ∀ a0 a1 a2 k, LeO (drovewayref09_with.f k a0 a1 a2) (drovewayref09_with.f (k + 1) a0 a1 a2) := by
  intro a0 a1 a2 k
  unfold drovewayref09_with.f
  repeat' first
      | (with_reducible exact drovewayref09_Ties.mono _ _ _)
      | (with_reducible exact LeO.refl _)
      | (with_reducible exact LeO.none _)
      | (with_reducible refine LeO.ite ?_ ?_)
      | (with_reducible refine LeO.bind ?_ (fun _ => ?_))
      | exact drovewayref09_Ties.mono _ _ _
      | exact LeO.none _
      | refine LeO.ite ?_ ?_
      | refine LeO.bind ?_ (fun _ => ?_)
set_option maxHeartbeats 8000000 in
set_option maxRecDepth 100000 in
theorem drovewayref09_with.calls (k : Nat) (a0 : Int) (A1 : Option Addr) (c1 : Nat) (l1 : List (S39)) (a2 : Int) (r : Int) (w : World) (hr1 : Kd.C k39 w A1 l1.length l1) (hc1 : l1.length ≤ c1) (h : drovewayref09_with.f k a0 l1 a2 = some r) :
    Calls Try.prog 62 #[.int .i64 a0, .slice A1 l1.length c1, .int .i64 a2] w fun e w' => e = .returned (.int .i64 r) ∧ Drawn0 w w' := by
  have HR1 := Aside0.mk hr1
  have HC1 := Aside0.mk hc1
  clear hr1 hc1
  have H : ((drovewayref09_Ties.f k a0 l1).bind fun t172 => (if t172 = 0 then (if a2 < 0 then (some 2) else (if 0 ≤ a0 then (if a2 ≥ (shl .i64 1 a0) then (some 2) else (some t172)) else (none))) else (some t172))) = some r := h
  clear h
  replace H := Option.bind_eq_some_iff.mp H
  obtain ⟨t172, A40, H⟩ := H
  replace H : (if t172 = 0 then (if a2 < 0 then (some 2) else (if 0 ≤ a0 then (if a2 ≥ (shl .i64 1 a0) then (some 2) else (some t172)) else (none))) else (some t172)) = some r := H
  have A4 := Aside0.mk A40
  clear A40
  by_cases c5 : t172 = 0
  · rw [if_pos c5] at H
    have c5b0 : (t172 == 0) = true := beq_iff_eq.mpr c5
    have c5b1 : (t172 != 0) = false := bne_eq_false_iff_eq.mpr c5
    clear c5
    by_cases c6 : a2 < 0
    · rw [if_pos c6] at H
      have c6b0 : decide (a2 < 0) = true := decide_eq_true c6
      clear c6
      obtain rfl := Option.some.inj H
      go_enter Try.func62, Try.ntmps62
      go_wp2_with (first | ((with_reducible refine gate_callee (f := 24) rfl ?_); refine goesL_ (some 10) rfl rfl Try.func24 (by kernel_rfl) rfl #[.int .i64 a0, .slice A1 l1.length c1] rfl (by (try simp only [List.map_toArray, List.map_cons, List.map_nil]); first | done | rfl | (simp only [List.length_drop, List.length_take]; rfl)) ?_; (with_reducible refine (drovewayref09_Ties.calls k a0 _ _ l1 t172 _ ?side1 ?side2 A4.out).mono ?_); (case side1 => repeat (first | exact HR1.out | (with_reducible refine Kd.C_alloc ?_ _) | (with_reducible refine Kd.C_drewN ?_ _) | (with_reducible refine Kd.C_drew ?_))); (case side2 => exact HC1.out); rintro e w' ⟨rfl, ⟨nd, rfl⟩⟩; refine ⟨_, rfl, ?_⟩))
      go_ret
      exact ⟨by first | rfl | (simp; done) | (simp [*]; done), by repeat (first | exact Drawn0.refl _ | apply Drawn0.step)⟩
    · rw [if_neg c6] at H
      have c6b0 : decide (a2 < 0) = false := decide_eq_false c6
      clear c6
      by_cases c7 : 0 ≤ a0
      · rw [if_pos c7] at H
        have c7b0 := eq_true c7
        have c7b1 : decide (0 ≤ a0) = true := decide_eq_true c7
        clear c7
        obtain ⟨ji8, hji8⟩ : ∃ j_ : Int, (shl .i64 1 a0) = j_ := ⟨_, rfl⟩
        replace H : (if a2 ≥ (ji8) then (some 2) else (some t172)) = some r := by first | (rw [hji8] at H; exact H) | (simp only [hji8] at H ⊢; exact H)
        (try rw [hji8] at A4)
        have hji8_ : (IntKind.i64.wrap (1 * 2 ^ min a0.toNat 64)) = ji8 := hji8
        have hji8z : a0 ≤ 64 → (IntKind.i64.wrap (1 * 2 ^ a0.toNat)) = ji8 := shl_small hji8
        have hji8u : (IntKind.i64.wrap (2 ^ min a0.toNat 64)) = ji8 := by have h_ := hji8_; rw [Int.one_mul] at h_; exact h_
        have hji8v : a0 ≤ 64 → (IntKind.i64.wrap (2 ^ a0.toNat)) = ji8 := fun hle_ => by have h_ := hji8z hle_; rw [Int.one_mul] at h_; exact h_
        have hji8y : (wrap64 (1 * 2 ^ min a0.toNat 64)) = ji8 := (i64_w _).symm.trans hji8_
        have hji8x : a0 ≤ 64 → (wrap64 (1 * 2 ^ a0.toNat)) = ji8 := fun h_ => (i64_w _).symm.trans (hji8z h_)
        by_cases c9 : a2 ≥ (ji8)
        · rw [if_pos c9] at H
          have c9b0 : decide ((ji8) ≤ a2) = true := decide_eq_true c9
          clear c9
          obtain rfl := Option.some.inj H
          go_enter Try.func62, Try.ntmps62
          go_wp2_with (first | ((with_reducible refine gate_callee (f := 24) rfl ?_); refine goesL_ (some 10) rfl rfl Try.func24 (by kernel_rfl) rfl #[.int .i64 a0, .slice A1 l1.length c1] rfl (by (try simp only [List.map_toArray, List.map_cons, List.map_nil]); first | done | rfl | (simp only [List.length_drop, List.length_take]; rfl)) ?_; (with_reducible refine (drovewayref09_Ties.calls k a0 _ _ l1 t172 _ ?side1 ?side2 A4.out).mono ?_); (case side1 => repeat (first | exact HR1.out | (with_reducible refine Kd.C_alloc ?_ _) | (with_reducible refine Kd.C_drewN ?_ _) | (with_reducible refine Kd.C_drew ?_))); (case side2 => exact HC1.out); rintro e w' ⟨rfl, ⟨nd, rfl⟩⟩; refine ⟨_, rfl, ?_⟩))
          go_ret
          exact ⟨by first | rfl | (simp; done) | (simp only [← hji8] <;> (first | rfl | simp)) | (simp [*]; done), by repeat (first | exact Drawn0.refl _ | apply Drawn0.step)⟩
        · rw [if_neg c9] at H
          have c9b0 : decide ((ji8) ≤ a2) = false := decide_eq_false c9
          clear c9
          obtain rfl := Option.some.inj H
          go_enter Try.func62, Try.ntmps62
          go_wp2_with (first | ((with_reducible refine gate_callee (f := 24) rfl ?_); refine goesL_ (some 10) rfl rfl Try.func24 (by kernel_rfl) rfl #[.int .i64 a0, .slice A1 l1.length c1] rfl (by (try simp only [List.map_toArray, List.map_cons, List.map_nil]); first | done | rfl | (simp only [List.length_drop, List.length_take]; rfl)) ?_; (with_reducible refine (drovewayref09_Ties.calls k a0 _ _ l1 t172 _ ?side1 ?side2 A4.out).mono ?_); (case side1 => repeat (first | exact HR1.out | (with_reducible refine Kd.C_alloc ?_ _) | (with_reducible refine Kd.C_drewN ?_ _) | (with_reducible refine Kd.C_drew ?_))); (case side2 => exact HC1.out); rintro e w' ⟨rfl, ⟨nd, rfl⟩⟩; refine ⟨_, rfl, ?_⟩))
          go_ret
          exact ⟨by first | rfl | (simp; done) | (simp only [← hji8] <;> (first | rfl | simp)) | (simp [*]; done), by repeat (first | exact Drawn0.refl _ | apply Drawn0.step)⟩
      · rw [if_neg c7] at H
        exact absurd H (by simp)
  · rw [if_neg c5] at H
    have c5b0 : (t172 == 0) = false := beq_eq_false_iff_ne.mpr c5
    have c5b1 : (t172 != 0) = true := bne_iff_ne.mpr c5
    obtain rfl := Option.some.inj H
    go_enter Try.func62, Try.ntmps62
    go_wp2_with (first | ((with_reducible refine gate_callee (f := 24) rfl ?_); refine goesL_ (some 10) rfl rfl Try.func24 (by kernel_rfl) rfl #[.int .i64 a0, .slice A1 l1.length c1] rfl (by (try simp only [List.map_toArray, List.map_cons, List.map_nil]); first | done | rfl | (simp only [List.length_drop, List.length_take]; rfl)) ?_; (with_reducible refine (drovewayref09_Ties.calls k a0 _ _ l1 t172 _ ?side1 ?side2 A4.out).mono ?_); (case side1 => repeat (first | exact HR1.out | (with_reducible refine Kd.C_alloc ?_ _) | (with_reducible refine Kd.C_drewN ?_ _) | (with_reducible refine Kd.C_drew ?_))); (case side2 => exact HC1.out); rintro e w' ⟨rfl, ⟨nd, rfl⟩⟩; refine ⟨_, rfl, ?_⟩))
    go_ret
    exact ⟨by first | rfl | (simp; done) | (simp [*]; done), by repeat (first | exact Drawn0.refl _ | apply Drawn0.step)⟩

/-! ### drovewayref09_Switch: function 35 -/
def drovewayref09_Switch.f (k : Nat) (a0 : Int) (l1 : List (S39)) (a2 : Int) : Option ((List (S39)) × Int) := (drovewayref09_with.f k a0 l1 a2).bind fun t173 => (if t173 = 0 then ((drovewayref09_Switched.f k l1 a2).bind fun t174 => (some (t174, 0))) else (some (([] : List (S39)), t173)))
theorem drovewayref09_Switch.mono : ∀ a0 a1 a2 k, LeO (drovewayref09_Switch.f k a0 a1 a2) (drovewayref09_Switch.f (k + 1) a0 a1 a2) := by
  intro a0 a1 a2 k
  unfold drovewayref09_Switch.f
  repeat' first
      | (with_reducible exact drovewayref09_Switched.mono _ _ _)
      | (with_reducible exact drovewayref09_with.mono _ _ _ _)
      | (with_reducible exact LeO.refl _)
      | (with_reducible exact LeO.none _)
      | (with_reducible refine LeO.ite ?_ ?_)
      | (with_reducible refine LeO.bind ?_ (fun _ => ?_))
      | exact drovewayref09_Switched.mono _ _ _
      | exact drovewayref09_with.mono _ _ _ _
      | exact LeO.none _
      | refine LeO.ite ?_ ?_
      | refine LeO.bind ?_ (fun _ => ?_)
set_option maxHeartbeats 8000000 in
set_option maxRecDepth 100000 in
theorem drovewayref09_Switch.calls (k : Nat) (a0 : Int) (A1 : Option Addr) (c1 : Nat) (l1 : List (S39)) (a2 : Int) (r1 : List (S39)) (r2 : Int) (w : World) (hr1 : Kd.C k39 w A1 l1.length l1) (hc1 : l1.length ≤ c1) (h : drovewayref09_Switch.f k a0 l1 a2 = some (r1, r2)) :
    Calls Try.prog 35 #[.int .i64 a0, .slice A1 l1.length c1, .int .i64 a2] w fun e w' => ∃ v0_ : Value, e = .returned (.tuple #[v0_, .int .i64 r2]) ∧ Kd.R k39 39 w' w.heap.size (fun _ => True) v0_ r1 ∧ Below w.heap.size w w' := by
  have HR1 := Aside0.mk hr1
  have HC1 := Aside0.mk hc1
  clear hr1 hc1
  have HB := Aside0.mk (Below.refl w.heap.size w)
  have H : ((drovewayref09_with.f k a0 l1 a2).bind fun t173 => (if t173 = 0 then ((drovewayref09_Switched.f k l1 a2).bind fun t174 => (some (t174, 0))) else (some (([] : List (S39)), t173)))) = some (r1, r2) := h
  clear h
  replace H := Option.bind_eq_some_iff.mp H
  obtain ⟨t173, A40, H⟩ := H
  replace H : (if t173 = 0 then ((drovewayref09_Switched.f k l1 a2).bind fun t174 => (some (t174, 0))) else (some (([] : List (S39)), t173))) = some (r1, r2) := H
  have A4 := Aside0.mk A40
  clear A40
  by_cases c5 : t173 = 0
  · rw [if_pos c5] at H
    have c5b0 : (t173 == 0) = true := beq_iff_eq.mpr c5
    have c5b1 : (t173 != 0) = false := bne_eq_false_iff_eq.mpr c5
    clear c5
    replace H := Option.bind_eq_some_iff.mp H
    obtain ⟨t174, A60, H⟩ := H
    replace H : (some (t174, 0)) = some (r1, r2) := H
    have A6 := Aside0.mk A60
    clear A60
    simp only [Option.some.injEq, Prod.mk.injEq] at H
    obtain ⟨rfl, rfl⟩ := H
    go_enter Try.func35, Try.ntmps35
    go_wp2_with (first | ((with_reducible refine gate_callee (f := 62) rfl ?_); refine goesL_ (some 12) rfl rfl Try.func62 (by kernel_rfl) rfl #[.int .i64 a0, .slice A1 l1.length c1, .int .i64 a2] rfl (by (try simp only [List.map_toArray, List.map_cons, List.map_nil]); first | done | rfl | (simp only [List.length_drop, List.length_take]; rfl)) ?_; (with_reducible refine (drovewayref09_with.calls k a0 _ _ l1 a2 t173 _ ?side1 ?side2 A4.out).mono ?_); (case side1 => repeat (first | exact HR1.out | (with_reducible refine Kd.C_alloc ?_ _) | (with_reducible refine Kd.C_drewN ?_ _) | (with_reducible refine Kd.C_drew ?_))); (case side2 => exact HC1.out); rintro e w' ⟨rfl, ⟨nd, rfl⟩⟩; refine ⟨_, rfl, ?_⟩) | ((with_reducible refine gate_callee (f := 59) rfl ?_); refine goesL_ (some 18) rfl rfl Try.func59 (by kernel_rfl) rfl #[.slice A1 l1.length c1, .int .i64 a2] rfl (by (try simp only [List.map_toArray, List.map_cons, List.map_nil]); first | done | rfl | (simp only [List.length_drop, List.length_take]; rfl)) ?_; (with_reducible refine (drovewayref09_Switched.calls k _ _ l1 a2 t174 _ ?side1 ?side2 A6.out).mono ?_); (case side1 => repeat (first | exact HR1.out | (with_reducible refine Kd.C_alloc ?_ _) | (with_reducible refine Kd.C_drewN ?_ _) | (with_reducible refine Kd.C_drew ?_))); (case side2 => exact HC1.out); rintro e w7 ⟨v175, rfl, ho0, hb⟩; refine ⟨_, rfl, ?_⟩; have n0_ := Aside0.mk (Kd.R_lower ho0 (below_size (by repeat (first | (with_reducible first | exact HB.out | apply below_alloc | apply pw_below_drewN | apply below_drew1) | exact HB.out)))); have n1_ := Aside0.mk (below_step (by repeat (first | (with_reducible first | exact HB.out | apply below_alloc | apply pw_below_drewN | apply below_drew1) | exact HB.out)) hb); clear HB; have HO176 := n0_; have HB := n1_; clear n0_ n1_; (try clear hb); (try clear hb2); (try clear hk); (try clear hi); (try clear ho0)))
    go_ret2
    exact ⟨_, by first | rfl | (simp [errW_none, errW_some] <;> rfl) | (simp [*, errW_none, errW_some] <;> rfl), by (with_reducible repeat (first | apply Kd.R_alloc | apply Kd.R_drewN | apply Kd.R_drew)); exact HO176.out, by repeat (first | (with_reducible first | exact HB.out | apply below_alloc | apply pw_below_drewN | apply below_drew1) | exact HB.out)⟩
  · rw [if_neg c5] at H
    have c5b0 : (t173 == 0) = false := beq_eq_false_iff_ne.mpr c5
    have c5b1 : (t173 != 0) = true := bne_iff_ne.mpr c5
    simp only [Option.some.injEq, Prod.mk.injEq] at H
    obtain ⟨rfl, rfl⟩ := H
    go_enter Try.func35, Try.ntmps35
    go_wp2_with (first | ((with_reducible refine gate_callee (f := 62) rfl ?_); refine goesL_ (some 12) rfl rfl Try.func62 (by kernel_rfl) rfl #[.int .i64 a0, .slice A1 l1.length c1, .int .i64 a2] rfl (by (try simp only [List.map_toArray, List.map_cons, List.map_nil]); first | done | rfl | (simp only [List.length_drop, List.length_take]; rfl)) ?_; (with_reducible refine (drovewayref09_with.calls k a0 _ _ l1 a2 t173 _ ?side1 ?side2 A4.out).mono ?_); (case side1 => repeat (first | exact HR1.out | (with_reducible refine Kd.C_alloc ?_ _) | (with_reducible refine Kd.C_drewN ?_ _) | (with_reducible refine Kd.C_drew ?_))); (case side2 => exact HC1.out); rintro e w' ⟨rfl, ⟨nd, rfl⟩⟩; refine ⟨_, rfl, ?_⟩))
    go_ret2
    exact ⟨_, by first | rfl | (simp [errW_none, errW_some] <;> rfl) | (simp [*, errW_none, errW_some] <;> rfl), by first | exact Kd.R_nil _ _ _ _ _ | exact Kd.N_nil _ _ _ _ _ | exact Kd.V_nil _ _ _ _ _ | exact Kd.Q_nil _ _ _ _ _ | exact Kd.S_nil _ _ _ _ _, by repeat (first | (with_reducible first | exact HB.out | apply below_alloc | apply pw_below_drewN | apply below_drew1) | exact HB.out)⟩

-- by hand: function 36 (feuds_Wrong)

/-! ### drovewayref09_Wrong: function 37 -/
def drovewayref09_Wrong.f (k : Nat) (a0 : Int) (l1 : List (S39)) (a2 : Int) : Option (List Int × Int) := (drovewayref09_with.f k a0 l1 a2).bind fun t183 => (if t183 = 0 then ((drovewayref09_wrong.f k l1 a2).bind fun t184 => (some (t184, 0))) else (some (([] : List Int), t183)))
theorem drovewayref09_Wrong.mono : ∀ a0 a1 a2 k, LeO (drovewayref09_Wrong.f k a0 a1 a2) (drovewayref09_Wrong.f (k + 1) a0 a1 a2) := by
  intro a0 a1 a2 k
  unfold drovewayref09_Wrong.f
  repeat' first
      | (with_reducible exact drovewayref09_with.mono _ _ _ _)
      | (with_reducible exact drovewayref09_wrong.mono _ _ _)
      | (with_reducible exact LeO.refl _)
      | (with_reducible exact LeO.none _)
      | (with_reducible refine LeO.ite ?_ ?_)
      | (with_reducible refine LeO.bind ?_ (fun _ => ?_))
      | exact drovewayref09_with.mono _ _ _ _
      | exact drovewayref09_wrong.mono _ _ _
      | exact LeO.none _
      | refine LeO.ite ?_ ?_
      | refine LeO.bind ?_ (fun _ => ?_)
set_option maxHeartbeats 8000000 in
set_option maxRecDepth 100000 in
theorem drovewayref09_Wrong.calls (k : Nat) (a0 : Int) (A1 : Option Addr) (c1 : Nat) (l1 : List (S39)) (a2 : Int) (r1 : List Int) (r2 : Int) (w : World) (hr1 : Kd.C k39 w A1 l1.length l1) (hc1 : l1.length ≤ c1) (h : drovewayref09_Wrong.f k a0 l1 a2 = some (r1, r2)) :
    Calls Try.prog 37 #[.int .i64 a0, .slice A1 l1.length c1, .int .i64 a2] w fun e w' => ∃ v0_ : Value, e = .returned (.tuple #[v0_, .int .i64 r2]) ∧ Kd.R (Kd.int .i64) 3 w' w.heap.size (fun _ => True) v0_ r1 ∧ Below w.heap.size w w' := by
  have HR1 := Aside0.mk hr1
  have HC1 := Aside0.mk hc1
  clear hr1 hc1
  have HB := Aside0.mk (Below.refl w.heap.size w)
  have H : ((drovewayref09_with.f k a0 l1 a2).bind fun t183 => (if t183 = 0 then ((drovewayref09_wrong.f k l1 a2).bind fun t184 => (some (t184, 0))) else (some (([] : List Int), t183)))) = some (r1, r2) := h
  clear h
  replace H := Option.bind_eq_some_iff.mp H
  obtain ⟨t183, A40, H⟩ := H
  replace H : (if t183 = 0 then ((drovewayref09_wrong.f k l1 a2).bind fun t184 => (some (t184, 0))) else (some (([] : List Int), t183))) = some (r1, r2) := H
  have A4 := Aside0.mk A40
  clear A40
  by_cases c5 : t183 = 0
  · rw [if_pos c5] at H
    have c5b0 : (t183 == 0) = true := beq_iff_eq.mpr c5
    have c5b1 : (t183 != 0) = false := bne_eq_false_iff_eq.mpr c5
    clear c5
    replace H := Option.bind_eq_some_iff.mp H
    obtain ⟨t184, A60, H⟩ := H
    replace H : (some (t184, 0)) = some (r1, r2) := H
    have A6 := Aside0.mk A60
    clear A60
    simp only [Option.some.injEq, Prod.mk.injEq] at H
    obtain ⟨rfl, rfl⟩ := H
    go_enter Try.func37, Try.ntmps37
    go_wp2_with (first | ((with_reducible refine gate_callee (f := 62) rfl ?_); refine goesL_ (some 12) rfl rfl Try.func62 (by kernel_rfl) rfl #[.int .i64 a0, .slice A1 l1.length c1, .int .i64 a2] rfl (by (try simp only [List.map_toArray, List.map_cons, List.map_nil]); first | done | rfl | (simp only [List.length_drop, List.length_take]; rfl)) ?_; (with_reducible refine (drovewayref09_with.calls k a0 _ _ l1 a2 t183 _ ?side1 ?side2 A4.out).mono ?_); (case side1 => repeat (first | exact HR1.out | (with_reducible refine Kd.C_alloc ?_ _) | (with_reducible refine Kd.C_drewN ?_ _) | (with_reducible refine Kd.C_drew ?_))); (case side2 => exact HC1.out); rintro e w' ⟨rfl, ⟨nd, rfl⟩⟩; refine ⟨_, rfl, ?_⟩) | ((with_reducible refine gate_callee (f := 48) rfl ?_); refine goesL_ (some 18) rfl rfl Try.func48 (by kernel_rfl) rfl #[.slice A1 l1.length c1, .int .i64 a2] rfl (by (try simp only [List.map_toArray, List.map_cons, List.map_nil]); first | done | rfl | (simp only [List.length_drop, List.length_take]; rfl)) ?_; (with_reducible refine (drovewayref09_wrong.calls k _ _ l1 a2 t184 _ ?side1 ?side2 A6.out).mono ?_); (case side1 => repeat (first | exact HR1.out | (with_reducible refine Kd.C_alloc ?_ _) | (with_reducible refine Kd.C_drewN ?_ _) | (with_reducible refine Kd.C_drew ?_))); (case side2 => exact HC1.out); rintro e w7 ⟨v185, rfl, ho0, hb⟩; refine ⟨_, rfl, ?_⟩; have n0_ := Aside0.mk (Kd.R_lower ho0 (below_size (by repeat (first | (with_reducible first | exact HB.out | apply below_alloc | apply pw_below_drewN | apply below_drew1) | exact HB.out)))); have n1_ := Aside0.mk (below_step (by repeat (first | (with_reducible first | exact HB.out | apply below_alloc | apply pw_below_drewN | apply below_drew1) | exact HB.out)) hb); clear HB; have HO186 := n0_; have HB := n1_; clear n0_ n1_; (try clear hb); (try clear hb2); (try clear hk); (try clear hi); (try clear ho0)))
    go_ret2
    exact ⟨_, by first | rfl | (simp [errW_none, errW_some] <;> rfl) | (simp [*, errW_none, errW_some] <;> rfl), by (with_reducible repeat (first | apply Kd.R_alloc | apply Kd.R_drewN | apply Kd.R_drew)); exact HO186.out, by repeat (first | (with_reducible first | exact HB.out | apply below_alloc | apply pw_below_drewN | apply below_drew1) | exact HB.out)⟩
  · rw [if_neg c5] at H
    have c5b0 : (t183 == 0) = false := beq_eq_false_iff_ne.mpr c5
    have c5b1 : (t183 != 0) = true := bne_iff_ne.mpr c5
    simp only [Option.some.injEq, Prod.mk.injEq] at H
    obtain ⟨rfl, rfl⟩ := H
    go_enter Try.func37, Try.ntmps37
    go_wp2_with (first | ((with_reducible refine gate_callee (f := 62) rfl ?_); refine goesL_ (some 12) rfl rfl Try.func62 (by kernel_rfl) rfl #[.int .i64 a0, .slice A1 l1.length c1, .int .i64 a2] rfl (by (try simp only [List.map_toArray, List.map_cons, List.map_nil]); first | done | rfl | (simp only [List.length_drop, List.length_take]; rfl)) ?_; (with_reducible refine (drovewayref09_with.calls k a0 _ _ l1 a2 t183 _ ?side1 ?side2 A4.out).mono ?_); (case side1 => repeat (first | exact HR1.out | (with_reducible refine Kd.C_alloc ?_ _) | (with_reducible refine Kd.C_drewN ?_ _) | (with_reducible refine Kd.C_drew ?_))); (case side2 => exact HC1.out); rintro e w' ⟨rfl, ⟨nd, rfl⟩⟩; refine ⟨_, rfl, ?_⟩))
    go_ret2
    exact ⟨_, by first | rfl | (simp [errW_none, errW_some] <;> rfl) | (simp [*, errW_none, errW_some] <;> rfl), by first | exact Kd.R_nil _ _ _ _ _ | exact Kd.N_nil _ _ _ _ _ | exact Kd.V_nil _ _ _ _ _ | exact Kd.Q_nil _ _ _ _ _ | exact Kd.S_nil _ _ _ _ _, by repeat (first | (with_reducible first | exact HB.out | apply below_alloc | apply pw_below_drewN | apply below_drew1) | exact HB.out)⟩

/-! ### drovewayref09_Least: function 38 -/
def drovewayref09_Least.l0 : Nat → Int → List (S39) → Int → List Int → Int → Option (Int × List Int × Int)
  | 0, _, _, _, _, _ => none
  | k + 1, x0, x1, x8, x9, x10 => if 0 ≤ x0 then (if x10 < (shl .i64 1 x0) then ((drovewayref09_wrong.f k x1 x10).bind fun t191 => (if (t191.length : Int) < (x9.length : Int) then (drovewayref09_Least.l0 k x0 x1 x10 t191 (wrap64 (x10 + 1))) else (drovewayref09_Least.l0 k x0 x1 x8 x9 (wrap64 (x10 + 1))))) else (some (x8, x9, 0))) else (none)
def drovewayref09_Least.f (k : Nat) (a0 : Int) (l1 : List (S39)) : Option (Int × List Int × Int) := (drovewayref09_Ties.f k a0 l1).bind fun t187 => (if t187 = 0 then ((drovewayref09_wrong.f k l1 0).bind fun t188 => (drovewayref09_Least.l0 k a0 l1 0 t188 1)) else (some (0, ([] : List Int), t187)))
theorem drovewayref09_Least.mono_l : ∀ k, (∀ y0 y1 y2 y3 y4, LeO (drovewayref09_Least.l0 k y0 y1 y2 y3 y4) (drovewayref09_Least.l0 (k + 1) y0 y1 y2 y3 y4))
  | 0 => fun _ _ _ _ _ r h => by simp [drovewayref09_Least.l0] at h
  | k + 1 => by
    have ih0 := drovewayref09_Least.mono_l k
    · intro y0 y1 y2 y3 y4
      unfold drovewayref09_Least.l0
      repeat' first
      | (with_reducible exact ih0 _ _ _ _ _)
      | (with_reducible exact drovewayref09_Ties.mono _ _ _)
      | (with_reducible exact drovewayref09_wrong.mono _ _ _)
      | (with_reducible exact LeO.refl _)
      | (with_reducible exact LeO.none _)
      | (with_reducible refine LeO.ite ?_ ?_)
      | (with_reducible refine LeO.bind ?_ (fun _ => ?_))
      | exact ih0 _ _ _ _ _
      | exact drovewayref09_Ties.mono _ _ _
      | exact drovewayref09_wrong.mono _ _ _
      | exact LeO.none _
      | refine LeO.ite ?_ ?_
      | refine LeO.bind ?_ (fun _ => ?_)
theorem drovewayref09_Least.mono : ∀ a0 a1 k, LeO (drovewayref09_Least.f k a0 a1) (drovewayref09_Least.f (k + 1) a0 a1) := by
  intro a0 a1 k
  have ih0 := drovewayref09_Least.mono_l k
  unfold drovewayref09_Least.f
  repeat' first
      | (with_reducible exact ih0 _ _ _ _ _)
      | (with_reducible exact drovewayref09_Ties.mono _ _ _)
      | (with_reducible exact drovewayref09_wrong.mono _ _ _)
      | (with_reducible exact LeO.refl _)
      | (with_reducible exact LeO.none _)
      | (with_reducible refine LeO.ite ?_ ?_)
      | (with_reducible refine LeO.bind ?_ (fun _ => ?_))
      | exact ih0 _ _ _ _ _
      | exact drovewayref09_Ties.mono _ _ _
      | exact drovewayref09_wrong.mono _ _ _
      | exact LeO.none _
      | refine LeO.ite ?_ ?_
      | refine LeO.bind ?_ (fun _ => ?_)
set_option maxHeartbeats 8000000 in
set_option maxRecDepth 100000 in
theorem drovewayref09_Least.calls (k : Nat) (a0 : Int) (A1 : Option Addr) (c1 : Nat) (l1 : List (S39)) (r1 : Int) (r2 : List Int) (r3 : Int) (w : World) (hr1 : Kd.C k39 w A1 l1.length l1) (hc1 : l1.length ≤ c1) (h : drovewayref09_Least.f k a0 l1 = some (r1, r2, r3)) :
    Calls Try.prog 38 #[.int .i64 a0, .slice A1 l1.length c1] w fun e w' => ∃ v1_ : Value, e = .returned (.tuple #[.int .i64 r1, v1_, .int .i64 r3]) ∧ Kd.R (Kd.int .i64) 3 w' w.heap.size (fun _ => True) v1_ r2 ∧ Below w.heap.size w w' := by
  have HR1 := Aside0.mk hr1
  have HC1 := Aside0.mk hc1
  clear hr1 hc1
  have HB := Aside0.mk (Below.refl w.heap.size w)
  have H : ((drovewayref09_Ties.f k a0 l1).bind fun t187 => (if t187 = 0 then ((drovewayref09_wrong.f k l1 0).bind fun t188 => (drovewayref09_Least.l0 k a0 l1 0 t188 1)) else (some (0, ([] : List Int), t187)))) = some (r1, r2, r3) := h
  clear h
  replace H := Option.bind_eq_some_iff.mp H
  obtain ⟨t187, A30, H⟩ := H
  replace H : (if t187 = 0 then ((drovewayref09_wrong.f k l1 0).bind fun t188 => (drovewayref09_Least.l0 k a0 l1 0 t188 1)) else (some (0, ([] : List Int), t187))) = some (r1, r2, r3) := H
  have A3 := Aside0.mk A30
  clear A30
  by_cases c4 : t187 = 0
  · rw [if_pos c4] at H
    have c4b0 : (t187 == 0) = true := beq_iff_eq.mpr c4
    have c4b1 : (t187 != 0) = false := bne_eq_false_iff_eq.mpr c4
    clear c4
    replace H := Option.bind_eq_some_iff.mp H
    obtain ⟨t188, A50, H⟩ := H
    replace H : (drovewayref09_Least.l0 k a0 l1 0 t188 1) = some (r1, r2, r3) := H
    have A5 := Aside0.mk A50
    clear A50
    have H' := Aside0.mk H
    clear H
    go_enter Try.func38, Try.ntmps38
    go_wp2_with (first | ((with_reducible refine gate_callee (f := 24) rfl ?_); refine goesL_ (some 14) rfl rfl Try.func24 (by kernel_rfl) rfl #[.int .i64 a0, .slice A1 l1.length c1] rfl (by (try simp only [List.map_toArray, List.map_cons, List.map_nil]); first | done | rfl | (simp only [List.length_drop, List.length_take]; rfl)) ?_; (with_reducible refine (drovewayref09_Ties.calls k a0 _ _ l1 t187 _ ?side1 ?side2 A3.out).mono ?_); (case side1 => repeat (first | exact HR1.out | (with_reducible refine Kd.C_alloc ?_ _) | (with_reducible refine Kd.C_drewN ?_ _) | (with_reducible refine Kd.C_drew ?_))); (case side2 => exact HC1.out); rintro e w' ⟨rfl, ⟨nd, rfl⟩⟩; refine ⟨_, rfl, ?_⟩) | ((with_reducible refine gate_callee (f := 48) rfl ?_); refine goesL_ (some 19) rfl rfl Try.func48 (by kernel_rfl) rfl #[.slice A1 l1.length c1, .int .i64 0] rfl (by (try simp only [List.map_toArray, List.map_cons, List.map_nil]); first | done | rfl | (simp only [List.length_drop, List.length_take]; rfl)) ?_; (with_reducible refine (drovewayref09_wrong.calls k _ _ l1 0 t188 _ ?side1 ?side2 A5.out).mono ?_); (case side1 => repeat (first | exact HR1.out | (with_reducible refine Kd.C_alloc ?_ _) | (with_reducible refine Kd.C_drewN ?_ _) | (with_reducible refine Kd.C_drew ?_))); (case side2 => exact HC1.out); rintro e w6 ⟨v189, rfl, ho0, hb⟩; refine ⟨_, rfl, ?_⟩; have n0_ := Aside0.mk (Kd.R_lower ho0 (below_size (by repeat (first | (with_reducible first | exact HB.out | apply below_alloc | apply pw_below_drewN | apply below_drew1) | exact HB.out)))); have n1_ := Aside0.mk (below_step (by repeat (first | (with_reducible first | exact HB.out | apply below_alloc | apply pw_below_drewN | apply below_drew1) | exact HB.out)) hb); clear HB; have HO190 := n0_; have HB := n1_; clear n0_ n1_; (try clear hb); (try clear hb2); (try clear hk); (try clear hi); (try clear ho0)))
    go_loopg [8, 9, 10] k (fun kq v8 v9 v10 w' => ∃ (x8_1 : Int) (x9_1 : List Int) (x10_1 : Int), v8 = .int .i64 x8_1 ∧ v10 = .int .i64 x10_1 ∧ Aside0 (drovewayref09_Least.l0 kq a0 l1 x8_1 x9_1 x10_1 = some (r1, r2, r3)) ∧ Aside0 (kq ≤ k) ∧ Aside0 (Kd.R (Kd.int .i64) 3 w' w.heap.size (fun _ => True) v9 x9_1) ∧ Aside0 (Below w.heap.size w w'))
    case atStart => exact ⟨(0), (t188), (1), (by first | rfl | (simp; done) | (simp [*]; done)), (by first | rfl | (simp; done) | (simp [*]; done)), H', ⟨Nat.le_refl _⟩, ⟨by (with_reducible repeat (first | apply Kd.R_alloc | apply Kd.R_drewN | apply Kd.R_drew)); exact HO190.out⟩, ⟨by repeat (first | (with_reducible first | exact HB.out | apply below_alloc | apply pw_below_drewN | apply below_drew1) | exact HB.out)⟩⟩
    case round =>
      clear H'
      try clear c1
      try clear c2
      try clear p2
      try clear c3
      try clear c4
      try clear c4b0
      try clear c4b1
      obtain ⟨x8_1, x9_1, x10_1, rfl, rfl, HA, HK1, HO_9, HB⟩ := hrel
      cases gk with
      | zero => exact absurd HA.out (by simp [drovewayref09_Least.l0])
      | succ k1 =>
        have H := HA.out
        clear HA
        simp only [drovewayref09_Least.l0] at H
        by_cases c7 : 0 ≤ a0
        · rw [if_pos c7] at H
          have c7b0 := eq_true c7
          have c7b1 : decide (0 ≤ a0) = true := decide_eq_true c7
          clear c7
          obtain ⟨ji8, hji8⟩ : ∃ j_ : Int, (shl .i64 1 a0) = j_ := ⟨_, rfl⟩
          replace H : (if x10_1 < (ji8) then ((drovewayref09_wrong.f k1 l1 x10_1).bind fun t191 => (if (t191.length : Int) < (x9_1.length : Int) then (drovewayref09_Least.l0 k1 a0 l1 x10_1 t191 (wrap64 (x10_1 + 1))) else (drovewayref09_Least.l0 k1 a0 l1 x8_1 x9_1 (wrap64 (x10_1 + 1))))) else (some (x8_1, x9_1, 0))) = some (r1, r2, r3) := by first | (rw [hji8] at H; exact H) | (simp only [hji8] at H ⊢; exact H)
          have hji8_ : (IntKind.i64.wrap (1 * 2 ^ min a0.toNat 64)) = ji8 := hji8
          have hji8z : a0 ≤ 64 → (IntKind.i64.wrap (1 * 2 ^ a0.toNat)) = ji8 := shl_small hji8
          have hji8u : (IntKind.i64.wrap (2 ^ min a0.toNat 64)) = ji8 := by have h_ := hji8_; rw [Int.one_mul] at h_; exact h_
          have hji8v : a0 ≤ 64 → (IntKind.i64.wrap (2 ^ a0.toNat)) = ji8 := fun hle_ => by have h_ := hji8z hle_; rw [Int.one_mul] at h_; exact h_
          have hji8y : (wrap64 (1 * 2 ^ min a0.toNat 64)) = ji8 := (i64_w _).symm.trans hji8_
          have hji8x : a0 ≤ 64 → (wrap64 (1 * 2 ^ a0.toNat)) = ji8 := fun h_ => (i64_w _).symm.trans (hji8z h_)
          by_cases c9 : x10_1 < (ji8)
          · rw [if_pos c9] at H
            have c9b0 : decide (x10_1 < (ji8)) = true := decide_eq_true c9
            clear c9
            replace H := Option.bind_eq_some_iff.mp H
            obtain ⟨t191, A100, H⟩ := H
            replace H : (if (t191.length : Int) < (x9_1.length : Int) then (drovewayref09_Least.l0 k1 a0 l1 x10_1 t191 (wrap64 (x10_1 + 1))) else (drovewayref09_Least.l0 k1 a0 l1 x8_1 x9_1 (wrap64 (x10_1 + 1)))) = some (r1, r2, r3) := H
            have A10 := Aside0.mk A100
            clear A100
            by_cases c11 : (t191.length : Int) < (x9_1.length : Int)
            · rw [if_pos c11] at H
              have c11b0 : decide ((t191.length : Int) < (x9_1.length : Int)) = true := decide_eq_true c11
              have c11b1 : decide (t191.length < x9_1.length) = true := decide_eq_true (Int.ofNat_lt.mp c11)
              clear c11
              have H' := Aside0.mk H
              clear H
              go_wp2_with (first | ((with_reducible refine gate_callee (f := 48) rfl ?_); refine goesL_ (some 28) rfl rfl Try.func48 (by kernel_rfl) rfl #[.slice A1 l1.length c1, .int .i64 x10_1] rfl (by (try simp only [List.map_toArray, List.map_cons, List.map_nil]); first | done | rfl | (simp only [List.length_drop, List.length_take]; rfl)) ?_; (with_reducible refine (drovewayref09_wrong.calls k1 _ _ l1 x10_1 t191 _ ?side1 ?side2 A10.out).mono ?_); (case side1 => repeat (first | exact (Kd.C_below HR1.out HB.out) | (with_reducible refine Kd.C_alloc ?_ _) | (with_reducible refine Kd.C_drewN ?_ _) | (with_reducible refine Kd.C_drew ?_))); (case side2 => exact HC1.out); rintro e w12 ⟨v192, rfl, ho0, hb⟩; refine ⟨_, rfl, ?_⟩; have n0_ := Aside0.mk (Kd.R_elder' (by (with_reducible repeat (first | apply Kd.R_alloc | apply Kd.R_drewN | apply Kd.R_drew)); exact HO_9.out) (Kd.R_base ho0) hb); have n1_ := Aside0.mk (Kd.R_lower (Kd.R_new' ho0 (Kd.R_lt (by (with_reducible repeat (first | apply Kd.R_alloc | apply Kd.R_drewN | apply Kd.R_drew)); exact HO_9.out))) (below_size (by repeat (first | (with_reducible first | exact HB.out | apply below_alloc | apply pw_below_drewN | apply below_drew1) | exact HB.out)))); have n2_ := Aside0.mk (below_step (by repeat (first | (with_reducible first | exact HB.out | apply below_alloc | apply pw_below_drewN | apply below_drew1) | exact HB.out)) hb); clear HO_9; clear HB; have HO_9 := n0_; have HO193 := n1_; have HB := n2_; clear n0_ n1_ n2_; (try clear hb); (try clear hb2); (try clear hk); (try clear hi); (try clear ho0); obtain ⟨Ao13, co13, eo13⟩ := Kd.R_slice HO193.out; subst eo13; obtain ⟨Ao14, co14, eo14⟩ := Kd.R_slice HO_9.out; subst eo14))
              go_roundg k1
              case measure => have := HK1.out; omega
              case rel => exact ⟨(x10_1), (t191), (wrap64 (x10_1 + 1)), (by first | rfl | (simp; done) | (simp [*]; done)), (by first | rfl | (simp; done) | (simp [*]; done)), H', ⟨by have := HK1.out; omega⟩, ⟨by (with_reducible repeat (first | apply Kd.R_alloc | apply Kd.R_drewN | apply Kd.R_drew)); exact Kd.R_mono HO193.out (fun _ hk => trivial)⟩, ⟨by repeat (first | (with_reducible first | exact HB.out | apply below_alloc | apply pw_below_drewN | apply below_drew1) | exact HB.out)⟩⟩
            · rw [if_neg c11] at H
              have c11b0 : decide ((t191.length : Int) < (x9_1.length : Int)) = false := decide_eq_false c11
              have c11b1 : decide (t191.length < x9_1.length) = false := decide_eq_false (fun h => c11 (Int.ofNat_lt.mpr h))
              clear c11
              have H' := Aside0.mk H
              clear H
              go_wp2_with (first | ((with_reducible refine gate_callee (f := 48) rfl ?_); refine goesL_ (some 28) rfl rfl Try.func48 (by kernel_rfl) rfl #[.slice A1 l1.length c1, .int .i64 x10_1] rfl (by (try simp only [List.map_toArray, List.map_cons, List.map_nil]); first | done | rfl | (simp only [List.length_drop, List.length_take]; rfl)) ?_; (with_reducible refine (drovewayref09_wrong.calls k1 _ _ l1 x10_1 t191 _ ?side1 ?side2 A10.out).mono ?_); (case side1 => repeat (first | exact (Kd.C_below HR1.out HB.out) | (with_reducible refine Kd.C_alloc ?_ _) | (with_reducible refine Kd.C_drewN ?_ _) | (with_reducible refine Kd.C_drew ?_))); (case side2 => exact HC1.out); rintro e w15 ⟨v192, rfl, ho0, hb⟩; refine ⟨_, rfl, ?_⟩; have n0_ := Aside0.mk (Kd.R_elder' (by (with_reducible repeat (first | apply Kd.R_alloc | apply Kd.R_drewN | apply Kd.R_drew)); exact HO_9.out) (Kd.R_base ho0) hb); have n1_ := Aside0.mk (Kd.R_lower (Kd.R_new' ho0 (Kd.R_lt (by (with_reducible repeat (first | apply Kd.R_alloc | apply Kd.R_drewN | apply Kd.R_drew)); exact HO_9.out))) (below_size (by repeat (first | (with_reducible first | exact HB.out | apply below_alloc | apply pw_below_drewN | apply below_drew1) | exact HB.out)))); have n2_ := Aside0.mk (below_step (by repeat (first | (with_reducible first | exact HB.out | apply below_alloc | apply pw_below_drewN | apply below_drew1) | exact HB.out)) hb); clear HO_9; clear HB; have HO_9 := n0_; have HO193 := n1_; have HB := n2_; clear n0_ n1_ n2_; (try clear hb); (try clear hb2); (try clear hk); (try clear hi); (try clear ho0); obtain ⟨Ao16, co16, eo16⟩ := Kd.R_slice HO193.out; subst eo16; obtain ⟨Ao17, co17, eo17⟩ := Kd.R_slice HO_9.out; subst eo17))
              go_roundg k1
              case measure => have := HK1.out; omega
              case rel => exact ⟨(x8_1), (x9_1), (wrap64 (x10_1 + 1)), (by first | rfl | (simp; done) | (simp [*]; done)), (by first | rfl | (simp; done) | (simp [*]; done)), H', ⟨by have := HK1.out; omega⟩, ⟨by (with_reducible repeat (first | apply Kd.R_alloc | apply Kd.R_drewN | apply Kd.R_drew)); exact Kd.R_mono HO_9.out (fun _ hk => trivial)⟩, ⟨by repeat (first | (with_reducible first | exact HB.out | apply below_alloc | apply pw_below_drewN | apply below_drew1) | exact HB.out)⟩⟩
          · rw [if_neg c9] at H
            have c9b0 : decide (x10_1 < (ji8)) = false := decide_eq_false c9
            clear c9
            simp only [Option.some.injEq, Prod.mk.injEq] at H
            obtain ⟨rfl, rfl, rfl⟩ := H
            go_wp2
            go_ret3
            exact ⟨_, by first | rfl | (simp [errW_none, errW_some] <;> rfl) | (simp only [← hji8]; first | rfl | (simp [errW_none, errW_some] <;> rfl)) | (simp [*, errW_none, errW_some] <;> rfl), by (with_reducible repeat (first | apply Kd.R_alloc | apply Kd.R_drewN | apply Kd.R_drew)); exact HO_9.out, by repeat (first | (with_reducible first | exact HB.out | apply below_alloc | apply pw_below_drewN | apply below_drew1) | exact HB.out)⟩
        · rw [if_neg c7] at H
          exact absurd H (by simp)
  · rw [if_neg c4] at H
    have c4b0 : (t187 == 0) = false := beq_eq_false_iff_ne.mpr c4
    have c4b1 : (t187 != 0) = true := bne_iff_ne.mpr c4
    simp only [Option.some.injEq, Prod.mk.injEq] at H
    obtain ⟨rfl, rfl, rfl⟩ := H
    go_enter Try.func38, Try.ntmps38
    go_wp2_with (first | ((with_reducible refine gate_callee (f := 24) rfl ?_); refine goesL_ (some 14) rfl rfl Try.func24 (by kernel_rfl) rfl #[.int .i64 a0, .slice A1 l1.length c1] rfl (by (try simp only [List.map_toArray, List.map_cons, List.map_nil]); first | done | rfl | (simp only [List.length_drop, List.length_take]; rfl)) ?_; (with_reducible refine (drovewayref09_Ties.calls k a0 _ _ l1 t187 _ ?side1 ?side2 A3.out).mono ?_); (case side1 => repeat (first | exact HR1.out | (with_reducible refine Kd.C_alloc ?_ _) | (with_reducible refine Kd.C_drewN ?_ _) | (with_reducible refine Kd.C_drew ?_))); (case side2 => exact HC1.out); rintro e w' ⟨rfl, ⟨nd, rfl⟩⟩; refine ⟨_, rfl, ?_⟩))
    go_ret3
    exact ⟨_, by first | rfl | (simp [errW_none, errW_some] <;> rfl) | (simp [*, errW_none, errW_some] <;> rfl), by first | exact Kd.R_nil _ _ _ _ _ | exact Kd.N_nil _ _ _ _ _ | exact Kd.V_nil _ _ _ _ _ | exact Kd.Q_nil _ _ _ _ _ | exact Kd.S_nil _ _ _ _ _, by repeat (first | (with_reducible first | exact HB.out | apply below_alloc | apply pw_below_drewN | apply below_drew1) | exact HB.out)⟩

-- NOT PRINTED: function 8 (drovewaylaw09_FeudsSwitches)

/-! ### drovewayref09_Same: function 31 -/
mutual
def drovewayref09_Same.l0 : Nat → Int → List (S39) → List Bool → Int → Option (Int × Int)
  | 0, _, _, _, _ => none
  | k + 1, x0, x1, x2, x9 => if 0 ≤ x0 then (if x9 < (shl .i64 1 x0) then ((drovewayref09_Switched.f k x1 x9).bind fun t171 => (drovewayref09_Same.l1 k x0 x1 x2 x9 t171 true 0)) else (some (0, 10))) else (none)
def drovewayref09_Same.l1 : Nat → Int → List (S39) → List Bool → Int → List (S39) → Bool → Int → Option (Int × Int)
  | 0, _, _, _, _, _, _, _ => none
  | k + 1, x0, x1, x2, x9, x10, x11, x12 => if x12 < (x1.length : Int) then (if x11 = true then (if 0 ≤ x12 then (if x12 < (x10.length : Int) then (if x12 < (x2.length : Int) then (drovewayref09_Same.l1 k x0 x1 x2 x9 x10 (((rd_T39 x10 x12).f2) == (rdOf false x2 x12)) (wrap64 (x12 + 1))) else (none)) else (none)) else (none)) else (drovewayref09_Same.l1 k x0 x1 x2 x9 x10 false (wrap64 (x12 + 1)))) else (if x11 = true then (some (x9, 0)) else (drovewayref09_Same.l0 k x0 x1 x2 (wrap64 (x9 + 1))))
end
def drovewayref09_Same.f (k : Nat) (a0 : Int) (l1 : List (S39)) (l2 : List Bool) : Option (Int × Int) := (drovewayref09_Ties.f k a0 l1).bind fun t170 => (if t170 = 0 then (if (l2.length : Int) = (l1.length : Int) then (drovewayref09_Same.l0 k a0 l1 l2 0) else (some (0, 2))) else (some (0, t170)))
theorem drovewayref09_Same.mono_l : ∀ k, (∀ y0 y1 y2 y3, LeO (drovewayref09_Same.l0 k y0 y1 y2 y3) (drovewayref09_Same.l0 (k + 1) y0 y1 y2 y3)) ∧ (∀ y0 y1 y2 y3 y4 y5 y6, LeO (drovewayref09_Same.l1 k y0 y1 y2 y3 y4 y5 y6) (drovewayref09_Same.l1 (k + 1) y0 y1 y2 y3 y4 y5 y6))
  | 0 => ⟨fun _ _ _ _ r h => by simp [drovewayref09_Same.l0] at h, fun _ _ _ _ _ _ _ r h => by simp [drovewayref09_Same.l1] at h⟩
  | k + 1 => by
    obtain ⟨ih0, ih1⟩ := drovewayref09_Same.mono_l k
    refine ⟨?_, ?_⟩
    · intro y0 y1 y2 y3
      unfold drovewayref09_Same.l0
      repeat' first
      | (with_reducible exact ih0 _ _ _ _)
      | (with_reducible exact ih1 _ _ _ _ _ _ _)
      | (with_reducible exact drovewayref09_Switched.mono _ _ _)
      | (with_reducible exact drovewayref09_Ties.mono _ _ _)
      | (with_reducible exact LeO.refl _)
      | (with_reducible exact LeO.none _)
      | (with_reducible refine LeO.ite ?_ ?_)
      | (with_reducible refine LeO.bind ?_ (fun _ => ?_))
      | exact ih0 _ _ _ _
      | exact ih1 _ _ _ _ _ _ _
      | exact drovewayref09_Switched.mono _ _ _
      | exact drovewayref09_Ties.mono _ _ _
      | exact LeO.none _
      | refine LeO.ite ?_ ?_
      | refine LeO.bind ?_ (fun _ => ?_)
    · intro y0 y1 y2 y3 y4 y5 y6
      unfold drovewayref09_Same.l1
      repeat' first
      | (with_reducible exact ih0 _ _ _ _)
      | (with_reducible exact ih1 _ _ _ _ _ _ _)
      | (with_reducible exact drovewayref09_Switched.mono _ _ _)
      | (with_reducible exact drovewayref09_Ties.mono _ _ _)
      | (with_reducible exact LeO.refl _)
      | (with_reducible exact LeO.none _)
      | (with_reducible refine LeO.ite ?_ ?_)
      | (with_reducible refine LeO.bind ?_ (fun _ => ?_))
      | exact ih0 _ _ _ _
      | exact ih1 _ _ _ _ _ _ _
      | exact drovewayref09_Switched.mono _ _ _
      | exact drovewayref09_Ties.mono _ _ _
      | exact LeO.none _
      | refine LeO.ite ?_ ?_
      | refine LeO.bind ?_ (fun _ => ?_)
theorem drovewayref09_Same.mono : ∀ a0 a1 a2 k, LeO (drovewayref09_Same.f k a0 a1 a2) (drovewayref09_Same.f (k + 1) a0 a1 a2) := by
  intro a0 a1 a2 k
  obtain ⟨ih0, ih1⟩ := drovewayref09_Same.mono_l k
  unfold drovewayref09_Same.f
  repeat' first
      | (with_reducible exact ih0 _ _ _ _)
      | (with_reducible exact ih1 _ _ _ _ _ _ _)
      | (with_reducible exact drovewayref09_Switched.mono _ _ _)
      | (with_reducible exact drovewayref09_Ties.mono _ _ _)
      | (with_reducible exact LeO.refl _)
      | (with_reducible exact LeO.none _)
      | (with_reducible refine LeO.ite ?_ ?_)
      | (with_reducible refine LeO.bind ?_ (fun _ => ?_))
      | exact ih0 _ _ _ _
      | exact ih1 _ _ _ _ _ _ _
      | exact drovewayref09_Switched.mono _ _ _
      | exact drovewayref09_Ties.mono _ _ _
      | exact LeO.none _
      | refine LeO.ite ?_ ?_
      | refine LeO.bind ?_ (fun _ => ?_)
set_option maxHeartbeats 8000000 in
set_option maxRecDepth 100000 in
theorem drovewayref09_Same.calls (k : Nat) (a0 : Int) (A1 : Option Addr) (c1 : Nat) (l1 : List (S39)) (A2 : Option Addr) (c2 : Nat) (l2 : List Bool) (r1 : Int) (r2 : Int) (w : World) (hr1 : Kd.C k39 w A1 l1.length l1) (hc1 : l1.length ≤ c1) (hr2 : Kd.C Kd.bool w A2 l2.length l2) (hc2 : l2.length ≤ c2) (h : drovewayref09_Same.f k a0 l1 l2 = some (r1, r2)) :
    Calls Try.prog 31 #[.int .i64 a0, .slice A1 l1.length c1, .slice A2 l2.length c2] w fun e w' => e = .returned (.tuple #[.int .i64 r1, .int .i64 r2]) ∧ Below w.heap.size w w' := by
  have HR1 := Aside0.mk hr1
  have HC1 := Aside0.mk hc1
  clear hr1 hc1
  have HR2 := Aside0.mk hr2
  have HC2 := Aside0.mk hc2
  clear hr2 hc2
  have HB := Aside0.mk (Below.refl w.heap.size w)
  have H : ((drovewayref09_Ties.f k a0 l1).bind fun t170 => (if t170 = 0 then (if (l2.length : Int) = (l1.length : Int) then (drovewayref09_Same.l0 k a0 l1 l2 0) else (some (0, 2))) else (some (0, t170)))) = some (r1, r2) := h
  clear h
  replace H := Option.bind_eq_some_iff.mp H
  obtain ⟨t170, A40, H⟩ := H
  replace H : (if t170 = 0 then (if (l2.length : Int) = (l1.length : Int) then (drovewayref09_Same.l0 k a0 l1 l2 0) else (some (0, 2))) else (some (0, t170))) = some (r1, r2) := H
  have A4 := Aside0.mk A40
  clear A40
  by_cases c5 : t170 = 0
  · rw [if_pos c5] at H
    have c5b0 : (t170 == 0) = true := beq_iff_eq.mpr c5
    have c5b1 : (t170 != 0) = false := bne_eq_false_iff_eq.mpr c5
    clear c5
    by_cases c6 : (l2.length : Int) = (l1.length : Int)
    · rw [if_pos c6] at H
      have c6b0 : ((l2.length : Int) == (l1.length : Int)) = true := beq_iff_eq.mpr c6
      have c6b1 : ((l2.length : Int) != (l1.length : Int)) = false := bne_eq_false_iff_eq.mpr c6
      have c6b2 : (l2.length == l1.length) = true := by first | simpa using c6 | (simp at c6 ⊢; omega)
      clear c6
      have H' := Aside0.mk H
      clear H
      go_enter Try.func31, Try.ntmps31
      go_wp2_with (first | (go_at_call 24; (with_reducible refine (drovewayref09_Ties.calls k a0 _ _ l1 t170 _ ?side1 ?side2 A4.out).mono ?_); (case side1 => repeat (first | exact HR1.out | (with_reducible refine Kd.C_alloc ?_ _) | (with_reducible refine Kd.C_drewN ?_ _) | (with_reducible refine Kd.C_drew ?_))); (case side2 => exact HC1.out); rintro e w' ⟨rfl, ⟨nd, rfl⟩⟩; (try first | exact ⟨rfl, _, World.drewN_drewN _ _ _⟩ | exact ⟨rfl, _, Eq.trans (World.drewN_drewN _ _ _) (congrArg (World.drewN _) (Nat.add_assoc _ _ _))⟩)))
      repeat (go_quiet (first | (go_at_call 24; (with_reducible refine (drovewayref09_Ties.calls k a0 _ _ l1 t170 _ ?side1 ?side2 A4.out).mono ?_); (case side1 => repeat (first | exact HR1.out | (with_reducible refine Kd.C_alloc ?_ _) | (with_reducible refine Kd.C_drewN ?_ _) | (with_reducible refine Kd.C_drew ?_))); (case side2 => exact HC1.out); rintro e w' ⟨rfl, ⟨nd, rfl⟩⟩; (try first | exact ⟨rfl, _, World.drewN_drewN _ _ _⟩ | exact ⟨rfl, _, Eq.trans (World.drewN_drewN _ _ _) (congrArg (World.drewN _) (Nat.add_assoc _ _ _))⟩))); try go_wp2_with (first | (go_at_call 24; (with_reducible refine (drovewayref09_Ties.calls k a0 _ _ l1 t170 _ ?side1 ?side2 A4.out).mono ?_); (case side1 => repeat (first | exact HR1.out | (with_reducible refine Kd.C_alloc ?_ _) | (with_reducible refine Kd.C_drewN ?_ _) | (with_reducible refine Kd.C_drew ?_))); (case side2 => exact HC1.out); rintro e w' ⟨rfl, ⟨nd, rfl⟩⟩; (try first | exact ⟨rfl, _, World.drewN_drewN _ _ _⟩ | exact ⟨rfl, _, Eq.trans (World.drewN_drewN _ _ _) (congrArg (World.drewN _) (Nat.add_assoc _ _ _))⟩))))
      go_loopg [9] k (fun kq v9 w' => ∃ (x9_1 : Int), v9 = .int .i64 x9_1 ∧ Aside0 (drovewayref09_Same.l0 kq a0 l1 l2 x9_1 = some (r1, r2)) ∧ Aside0 (kq ≤ k) ∧ Aside0 (Below w.heap.size w w'))
      case atStart => exact ⟨(0), (by first | rfl | (simp; done) | (simp [*]; done)), H', ⟨Nat.le_refl _⟩, ⟨by repeat (first | (with_reducible first | exact HB.out | apply below_alloc | apply pw_below_drewN | apply below_drew1) | exact HB.out)⟩⟩
      case round =>
        clear H'
        try clear c1
        try clear c2
        try clear p2
        try clear c3
        try clear c5
        try clear c5b0
        try clear c5b1
        try clear c6
        try clear c6b0
        try clear c6b1
        try clear c6b2
        obtain ⟨x9_1, rfl, HA, HK1, HB⟩ := hrel
        cases gk with
        | zero => exact absurd HA.out (by simp [drovewayref09_Same.l0])
        | succ k1 =>
          have H := HA.out
          clear HA
          simp only [drovewayref09_Same.l0] at H
          by_cases c7 : 0 ≤ a0
          · rw [if_pos c7] at H
            have c7b0 := eq_true c7
            have c7b1 : decide (0 ≤ a0) = true := decide_eq_true c7
            clear c7
            obtain ⟨ji8, hji8⟩ : ∃ j_ : Int, (shl .i64 1 a0) = j_ := ⟨_, rfl⟩
            replace H : (if x9_1 < (ji8) then ((drovewayref09_Switched.f k1 l1 x9_1).bind fun t171 => (drovewayref09_Same.l1 k1 a0 l1 l2 x9_1 t171 true 0)) else (some (0, 10))) = some (r1, r2) := by first | (rw [hji8] at H; exact H) | (simp only [hji8] at H ⊢; exact H)
            have hji8_ : (IntKind.i64.wrap (1 * 2 ^ min a0.toNat 64)) = ji8 := hji8
            have hji8z : a0 ≤ 64 → (IntKind.i64.wrap (1 * 2 ^ a0.toNat)) = ji8 := shl_small hji8
            have hji8u : (IntKind.i64.wrap (2 ^ min a0.toNat 64)) = ji8 := by have h_ := hji8_; rw [Int.one_mul] at h_; exact h_
            have hji8v : a0 ≤ 64 → (IntKind.i64.wrap (2 ^ a0.toNat)) = ji8 := fun hle_ => by have h_ := hji8z hle_; rw [Int.one_mul] at h_; exact h_
            have hji8y : (wrap64 (1 * 2 ^ min a0.toNat 64)) = ji8 := (i64_w _).symm.trans hji8_
            have hji8x : a0 ≤ 64 → (wrap64 (1 * 2 ^ a0.toNat)) = ji8 := fun h_ => (i64_w _).symm.trans (hji8z h_)
            by_cases c9 : x9_1 < (ji8)
            · rw [if_pos c9] at H
              have c9b0 : decide (x9_1 < (ji8)) = true := decide_eq_true c9
              clear c9
              replace H := Option.bind_eq_some_iff.mp H
              obtain ⟨t171, A100, H⟩ := H
              replace H : (drovewayref09_Same.l1 k1 a0 l1 l2 x9_1 t171 true 0) = some (r1, r2) := H
              have A10 := Aside0.mk A100
              clear A100
              have H' := Aside0.mk H
              clear H
              go_wp2_with (first | (go_at_call 59; (with_reducible refine (drovewayref09_Switched.calls k1 _ _ l1 x9_1 t171 _ ?side1 ?side2 A10.out).mono ?_); (case side1 => repeat (first | exact (Kd.C_below HR1.out HB.out) | (with_reducible refine Kd.C_alloc ?_ _) | (with_reducible refine Kd.C_drewN ?_ _) | (with_reducible refine Kd.C_drew ?_))); (case side2 => exact HC1.out); rintro e w11 ⟨v172, rfl, ho0, hb⟩; have n0_ := Aside0.mk (Kd.R_lower ho0 (below_size (by repeat (first | (with_reducible first | exact HB.out | apply below_alloc | apply pw_below_drewN | apply below_drew1) | exact HB.out)))); have n1_ := Aside0.mk (below_step (by repeat (first | (with_reducible first | exact HB.out | apply below_alloc | apply pw_below_drewN | apply below_drew1) | exact HB.out)) hb); clear HB; have HO173 := n0_; have HB := n1_; clear n0_ n1_; (try clear hb); (try clear hb2); (try clear hk); (try clear hi); (try clear ho0)))
              repeat (go_quiet (first | (go_at_call 59; (with_reducible refine (drovewayref09_Switched.calls k1 _ _ l1 x9_1 t171 _ ?side1 ?side2 A10.out).mono ?_); (case side1 => repeat (first | exact (Kd.C_below HR1.out HB.out) | (with_reducible refine Kd.C_alloc ?_ _) | (with_reducible refine Kd.C_drewN ?_ _) | (with_reducible refine Kd.C_drew ?_))); (case side2 => exact HC1.out); rintro e w11 ⟨v172, rfl, ho0, hb⟩; have n0_ := Aside0.mk (Kd.R_lower ho0 (below_size (by repeat (first | (with_reducible first | exact HB.out | apply below_alloc | apply pw_below_drewN | apply below_drew1) | exact HB.out)))); have n1_ := Aside0.mk (below_step (by repeat (first | (with_reducible first | exact HB.out | apply below_alloc | apply pw_below_drewN | apply below_drew1) | exact HB.out)) hb); clear HB; have HO173 := n0_; have HB := n1_; clear n0_ n1_; (try clear hb); (try clear hb2); (try clear hk); (try clear hi); (try clear ho0))); try go_wp2_with (first | (go_at_call 59; (with_reducible refine (drovewayref09_Switched.calls k1 _ _ l1 x9_1 t171 _ ?side1 ?side2 A10.out).mono ?_); (case side1 => repeat (first | exact (Kd.C_below HR1.out HB.out) | (with_reducible refine Kd.C_alloc ?_ _) | (with_reducible refine Kd.C_drewN ?_ _) | (with_reducible refine Kd.C_drew ?_))); (case side2 => exact HC1.out); rintro e w11 ⟨v172, rfl, ho0, hb⟩; have n0_ := Aside0.mk (Kd.R_lower ho0 (below_size (by repeat (first | (with_reducible first | exact HB.out | apply below_alloc | apply pw_below_drewN | apply below_drew1) | exact HB.out)))); have n1_ := Aside0.mk (below_step (by repeat (first | (with_reducible first | exact HB.out | apply below_alloc | apply pw_below_drewN | apply below_drew1) | exact HB.out)) hb); clear HB; have HO173 := n0_; have HB := n1_; clear n0_ n1_; (try clear hb); (try clear hb2); (try clear hk); (try clear hi); (try clear ho0))))
              go_loopg [11, 12] k1 (fun kq v11 v12 w' => ∃ (x11_2 : Bool) (x12_2 : Int), v11 = .bool x11_2 ∧ v12 = .int .i64 x12_2 ∧ Aside0 (drovewayref09_Same.l1 kq a0 l1 l2 x9_1 t171 x11_2 x12_2 = some (r1, r2)) ∧ Aside0 (kq ≤ k1) ∧ Aside0 (Kd.R k39 39 w' w.heap.size (fun _ => True) v172 t171) ∧ Aside0 (Below w.heap.size w w'))
              case atStart => exact ⟨(true), (0), (by first | rfl | (simp; done) | (simp [*]; done)), (by first | rfl | (simp; done) | (simp [*]; done)), H', ⟨Nat.le_refl _⟩, ⟨by (with_reducible repeat (first | apply Kd.R_alloc | apply Kd.R_drewN | apply Kd.R_drew)); exact HO173.out⟩, ⟨by repeat (first | (with_reducible first | exact HB.out | apply below_alloc | apply pw_below_drewN | apply below_drew1) | exact HB.out)⟩⟩
              case round =>
                clear H'
                try clear c1
                try clear c2
                try clear p2
                try clear c3
                try clear c5
                try clear c5b0
                try clear c5b1
                try clear c6
                try clear c6b0
                try clear c6b1
                try clear c6b2
                try clear p6
                try clear c7
                try clear c7b0
                try clear c7b1
                try clear c9
                try clear c9b0
                try clear p2
                obtain ⟨x11_2, x12_2, rfl, rfl, HA, HK2, HO_10, HB⟩ := hrel
                cases gk with
                | zero => exact absurd HA.out (by simp [drovewayref09_Same.l1])
                | succ k2 =>
                  have H := HA.out
                  clear HA
                  simp only [drovewayref09_Same.l1] at H
                  by_cases c12 : x12_2 < (l1.length : Int)
                  · rw [if_pos c12] at H
                    have c12b0 : decide (x12_2 < (l1.length : Int)) = true := decide_eq_true c12
                    clear c12
                    by_cases c13 : x11_2 = true
                    · subst c13
                      have H1 : (if 0 ≤ x12_2 then (if x12_2 < (t171.length : Int) then (if x12_2 < (l2.length : Int) then (drovewayref09_Same.l1 k2 a0 l1 l2 x9_1 t171 (((rd_T39 t171 x12_2).f2) == (rdOf false l2 x12_2)) (wrap64 (x12_2 + 1))) else (none)) else (none)) else (none)) = some (r1, r2) := by rw [if_pos rfl] at H; exact H
                      clear H
                      have H := H1
                      clear H1
                      by_cases c14 : 0 ≤ x12_2
                      · rw [if_pos c14] at H
                        have c14b0 : decide (0 ≤ x12_2) = true := decide_eq_true c14
                        clear c14
                        by_cases c15 : x12_2 < (t171.length : Int)
                        · rw [if_pos c15] at H
                          have c15b0 : decide (x12_2 < (t171.length : Int)) = true := decide_eq_true c15
                          clear c15
                          by_cases c16 : x12_2 < (l2.length : Int)
                          · rw [if_pos c16] at H
                            have c16b0 : decide (x12_2 < (l2.length : Int)) = true := decide_eq_true c16
                            clear c16
                            have H' := Aside0.mk H
                            clear H
                            obtain ⟨Ao17, co17, eo17⟩ := Kd.R_slice HO_10.out
                            subst eo17
                            have p174 : 0 ≤ (x12_2 : Int) := of_decide_eq_true (by first | (with_reducible assumption) | assumption)
                            have q174 : x12_2 < (t171.length : Int) := of_decide_eq_true (by first | (with_reducible assumption) | assumption)
                            obtain ⟨ad174, e174, hx174_0, hx174_1, hx174_2⟩ := at_T39 (Kd.R_reads' HO_10.out).2.2 x12_2 p174 q174
                            cases e174
                            replace p174 := eq_true p174
                            replace q174 := eq_true q174
                            have p175 : 0 ≤ (x12_2 : Int) := of_decide_eq_true (by first | (with_reducible assumption) | assumption)
                            have q175 : x12_2 < (l2.length : Int) := of_decide_eq_true (by first | (with_reducible assumption) | assumption)
                            obtain ⟨ad175, e175, hx175_0⟩ := Kd.at_bool HR2.out x12_2 p175 q175
                            cases e175
                            replace hx175_0 := (HB.out.cell (World.block_lt_of_cell? w _ hx175_0)).trans hx175_0
                            replace p175 := eq_true p175
                            replace q175 := eq_true q175
                            go_wp2
                            repeat (go_quiet (fail); try go_wp2)
                            go_roundg k2
                            case measure => have := HK1.out; have := HK2.out; omega
                            case rel => exact ⟨((((rd_T39 t171 x12_2).f2) == (rdOf false l2 x12_2))), (wrap64 (x12_2 + 1)), (by first | rfl | (simp; done) | (simp [*]; done)), (by first | rfl | (simp; done) | (simp [*]; done)), H', ⟨by have := HK1.out; have := HK2.out; omega⟩, ⟨by (with_reducible repeat (first | apply Kd.R_alloc | apply Kd.R_drewN | apply Kd.R_drew)); exact HO_10.out⟩, ⟨by repeat (first | (with_reducible first | exact HB.out | apply below_alloc | apply pw_below_drewN | apply below_drew1) | exact HB.out)⟩⟩
                          · rw [if_neg c16] at H
                            exact absurd H (by simp)
                        · rw [if_neg c15] at H
                          exact absurd H (by simp)
                      · rw [if_neg c14] at H
                        exact absurd H (by simp)
                    · replace c13 := Bool.eq_false_iff.mpr c13
                      subst c13
                      have H1 : (drovewayref09_Same.l1 k2 a0 l1 l2 x9_1 t171 false (wrap64 (x12_2 + 1))) = some (r1, r2) := by rw [if_neg (show ¬ (false = true) by decide)] at H; exact H
                      clear H
                      have H := H1
                      clear H1
                      have H' := Aside0.mk H
                      clear H
                      go_wp2
                      repeat (go_quiet (fail); try go_wp2)
                      go_roundg k2
                      case measure => have := HK1.out; have := HK2.out; omega
                      case rel => exact ⟨(false), (wrap64 (x12_2 + 1)), (by first | rfl | (simp; done) | (simp [*]; done)), (by first | rfl | (simp; done) | (simp [*]; done)), H', ⟨by have := HK1.out; have := HK2.out; omega⟩, ⟨by (with_reducible repeat (first | apply Kd.R_alloc | apply Kd.R_drewN | apply Kd.R_drew)); exact HO_10.out⟩, ⟨by repeat (first | (with_reducible first | exact HB.out | apply below_alloc | apply pw_below_drewN | apply below_drew1) | exact HB.out)⟩⟩
                  · rw [if_neg c12] at H
                    have c12b0 : decide (x12_2 < (l1.length : Int)) = false := decide_eq_false c12
                    clear c12
                    by_cases c18 : x11_2 = true
                    · subst c18
                      have H1 : (some (x9_1, 0)) = some (r1, r2) := by rw [if_pos rfl] at H; exact H
                      clear H
                      have H := H1
                      clear H1
                      simp only [Option.some.injEq, Prod.mk.injEq] at H
                      obtain ⟨rfl, rfl⟩ := H
                      go_wp2
                      repeat (go_quiet (fail); try go_wp2)
                      go_ret2
                      exact ⟨by first | rfl | (simp [errW_none, errW_some] <;> rfl) | (simp only [← hji8]; first | rfl | (simp [errW_none, errW_some] <;> rfl)) | (simp [*, errW_none, errW_some] <;> rfl), by repeat (first | (with_reducible first | exact HB.out | apply below_alloc | apply pw_below_drewN | apply below_drew1) | exact HB.out)⟩
                    · replace c18 := Bool.eq_false_iff.mpr c18
                      subst c18
                      have H1 : (drovewayref09_Same.l0 k2 a0 l1 l2 (wrap64 (x9_1 + 1))) = some (r1, r2) := by rw [if_neg (show ¬ (false = true) by decide)] at H; exact H
                      clear H
                      have H := H1
                      clear H1
                      have H' := Aside0.mk H
                      clear H
                      go_wp2
                      repeat (go_quiet (fail); try go_wp2)
                      go_roundg k2
                      case measure => have := HK1.out; have := HK2.out; omega
                      case rel => exact ⟨(wrap64 (x9_1 + 1)), (by first | rfl | (simp; done) | (simp [*]; done)), H', ⟨by have := HK1.out; have := HK2.out; omega⟩, ⟨by repeat (first | (with_reducible first | exact HB.out | apply below_alloc | apply pw_below_drewN | apply below_drew1) | exact HB.out)⟩⟩
            · rw [if_neg c9] at H
              have c9b0 : decide (x9_1 < (ji8)) = false := decide_eq_false c9
              clear c9
              simp only [Option.some.injEq, Prod.mk.injEq] at H
              obtain ⟨rfl, rfl⟩ := H
              go_wp2
              repeat (go_quiet (fail); try go_wp2)
              go_ret2
              exact ⟨by first | rfl | (simp [errW_none, errW_some] <;> rfl) | (simp only [← hji8]; first | rfl | (simp [errW_none, errW_some] <;> rfl)) | (simp [*, errW_none, errW_some] <;> rfl), by repeat (first | (with_reducible first | exact HB.out | apply below_alloc | apply pw_below_drewN | apply below_drew1) | exact HB.out)⟩
          · rw [if_neg c7] at H
            exact absurd H (by simp)
    · rw [if_neg c6] at H
      have c6b0 : ((l2.length : Int) == (l1.length : Int)) = false := beq_eq_false_iff_ne.mpr c6
      have c6b1 : ((l2.length : Int) != (l1.length : Int)) = true := bne_iff_ne.mpr c6
      have c6b2 : (l2.length == l1.length) = false := by first | simpa using c6 | (simp at c6 ⊢; omega)
      simp only [Option.some.injEq, Prod.mk.injEq] at H
      obtain ⟨rfl, rfl⟩ := H
      go_enter Try.func31, Try.ntmps31
      go_wp2_with (first | (go_at_call 24; (with_reducible refine (drovewayref09_Ties.calls k a0 _ _ l1 t170 _ ?side1 ?side2 A4.out).mono ?_); (case side1 => repeat (first | exact HR1.out | (with_reducible refine Kd.C_alloc ?_ _) | (with_reducible refine Kd.C_drewN ?_ _) | (with_reducible refine Kd.C_drew ?_))); (case side2 => exact HC1.out); rintro e w' ⟨rfl, ⟨nd, rfl⟩⟩; (try first | exact ⟨rfl, _, World.drewN_drewN _ _ _⟩ | exact ⟨rfl, _, Eq.trans (World.drewN_drewN _ _ _) (congrArg (World.drewN _) (Nat.add_assoc _ _ _))⟩)))
      repeat (go_quiet (first | (go_at_call 24; (with_reducible refine (drovewayref09_Ties.calls k a0 _ _ l1 t170 _ ?side1 ?side2 A4.out).mono ?_); (case side1 => repeat (first | exact HR1.out | (with_reducible refine Kd.C_alloc ?_ _) | (with_reducible refine Kd.C_drewN ?_ _) | (with_reducible refine Kd.C_drew ?_))); (case side2 => exact HC1.out); rintro e w' ⟨rfl, ⟨nd, rfl⟩⟩; (try first | exact ⟨rfl, _, World.drewN_drewN _ _ _⟩ | exact ⟨rfl, _, Eq.trans (World.drewN_drewN _ _ _) (congrArg (World.drewN _) (Nat.add_assoc _ _ _))⟩))); try go_wp2_with (first | (go_at_call 24; (with_reducible refine (drovewayref09_Ties.calls k a0 _ _ l1 t170 _ ?side1 ?side2 A4.out).mono ?_); (case side1 => repeat (first | exact HR1.out | (with_reducible refine Kd.C_alloc ?_ _) | (with_reducible refine Kd.C_drewN ?_ _) | (with_reducible refine Kd.C_drew ?_))); (case side2 => exact HC1.out); rintro e w' ⟨rfl, ⟨nd, rfl⟩⟩; (try first | exact ⟨rfl, _, World.drewN_drewN _ _ _⟩ | exact ⟨rfl, _, Eq.trans (World.drewN_drewN _ _ _) (congrArg (World.drewN _) (Nat.add_assoc _ _ _))⟩))))
      go_ret2
      exact ⟨by first | rfl | (simp [errW_none, errW_some] <;> rfl) | (simp [*, errW_none, errW_some] <;> rfl), by repeat (first | (with_reducible first | exact HB.out | apply below_alloc | apply pw_below_drewN | apply below_drew1) | exact HB.out)⟩
  · rw [if_neg c5] at H
    have c5b0 : (t170 == 0) = false := beq_eq_false_iff_ne.mpr c5
    have c5b1 : (t170 != 0) = true := bne_iff_ne.mpr c5
    simp only [Option.some.injEq, Prod.mk.injEq] at H
    obtain ⟨rfl, rfl⟩ := H
    go_enter Try.func31, Try.ntmps31
    go_wp2_with (first | (go_at_call 24; (with_reducible refine (drovewayref09_Ties.calls k a0 _ _ l1 t170 _ ?side1 ?side2 A4.out).mono ?_); (case side1 => repeat (first | exact HR1.out | (with_reducible refine Kd.C_alloc ?_ _) | (with_reducible refine Kd.C_drewN ?_ _) | (with_reducible refine Kd.C_drew ?_))); (case side2 => exact HC1.out); rintro e w' ⟨rfl, ⟨nd, rfl⟩⟩; (try first | exact ⟨rfl, _, World.drewN_drewN _ _ _⟩ | exact ⟨rfl, _, Eq.trans (World.drewN_drewN _ _ _) (congrArg (World.drewN _) (Nat.add_assoc _ _ _))⟩)))
    repeat (go_quiet (first | (go_at_call 24; (with_reducible refine (drovewayref09_Ties.calls k a0 _ _ l1 t170 _ ?side1 ?side2 A4.out).mono ?_); (case side1 => repeat (first | exact HR1.out | (with_reducible refine Kd.C_alloc ?_ _) | (with_reducible refine Kd.C_drewN ?_ _) | (with_reducible refine Kd.C_drew ?_))); (case side2 => exact HC1.out); rintro e w' ⟨rfl, ⟨nd, rfl⟩⟩; (try first | exact ⟨rfl, _, World.drewN_drewN _ _ _⟩ | exact ⟨rfl, _, Eq.trans (World.drewN_drewN _ _ _) (congrArg (World.drewN _) (Nat.add_assoc _ _ _))⟩))); try go_wp2_with (first | (go_at_call 24; (with_reducible refine (drovewayref09_Ties.calls k a0 _ _ l1 t170 _ ?side1 ?side2 A4.out).mono ?_); (case side1 => repeat (first | exact HR1.out | (with_reducible refine Kd.C_alloc ?_ _) | (with_reducible refine Kd.C_drewN ?_ _) | (with_reducible refine Kd.C_drew ?_))); (case side2 => exact HC1.out); rintro e w' ⟨rfl, ⟨nd, rfl⟩⟩; (try first | exact ⟨rfl, _, World.drewN_drewN _ _ _⟩ | exact ⟨rfl, _, Eq.trans (World.drewN_drewN _ _ _) (congrArg (World.drewN _) (Nat.add_assoc _ _ _))⟩))))
    go_ret2
    exact ⟨by first | rfl | (simp [errW_none, errW_some] <;> rfl) | (simp [*, errW_none, errW_some] <;> rfl), by repeat (first | (with_reducible first | exact HB.out | apply below_alloc | apply pw_below_drewN | apply below_drew1) | exact HB.out)⟩

end
end Go.Proofs.Ytaegldcifhgnmaa.B

/- What the reference's functions on sets of drovers compute (plain). -/
namespace Go.Proofs.Ytaegldcifhgnmaa.B
open Go.Proofs.Ytaegldcifhgnmaa.A
open Go.RowKit Go.Proofs.YtaegldcifhgnmaaW.PrintWords Go.Proofs.YtaegldcifhgnmaaW.PrintMore

theorem Across_eq {t : S39} {s : Nat} (h : 0 ≤ t.f0 ∧ t.f0 < 60 ∧ 0 ≤ t.f1 ∧ t.f1 < 60) : drovewayref09_Across.f t.f0 t.f1 t.f2 s = some (crossB t s) := by
  unfold drovewayref09_Across.f
  rw [if_pos h.1, if_pos h.2.2.1]
  have e0 : t.f0 = (t.f0.toNat : Int) := by omega
  have e1 : t.f1 = (t.f1.toNat : Int) := by omega
  have b0 := shr_mod s t.f0.toNat (by omega)
  have b1 := shr_mod s t.f1.toNat (by omega)
  rw [← e0] at b0
  rw [← e1] at b1
  rw [b0, b1]
  unfold crossB
  cases s.testBit t.f0.toNat <;> cases s.testBit t.f1.toNat <;> rfl
section
variable {n : Int} {l : List S39}
theorem wrong_l0 (hs : smallT l) (hl : l.length ≤ 1000) (s : Nat) : ∀ m i, l.length - i = m → i ≤ l.length → Ev (fun k => drovewayref09_wrong.l0 k l s (wrongK l s i) (i : Int)) (wrongF l s) := by
  intro m
  induction m with
  | zero =>
    intro i hm hi
    obtain rfl : i = l.length := by omega
    refine Ev.step (f := fun _ => some (wrongF l s)) (fun k => ?_) (Ev.now _)
    rw [drovewayref09_wrong.l0, if_neg (by omega)]; rfl
  | succ m ih =>
    intro i hm hi
    refine Ev.step (fun k => ?_) (ih (i + 1) (by omega) (by omega))
    have hlen := wrongK_len l s i
    rw [drovewayref09_wrong.l0, if_pos (by omega), if_pos (by omega), rdT, Across_eq (hs _ (getD_mem z39 (by omega)))]
    simp only [Option.bind_some]
    rw [wrapS (show i < l.length by omega) (by omega), wrongK_succ]
    change (if wrB (l.getD i z39) s = true then _ else _) = _
    by_cases hb : wrB (l.getD i z39) s = true
    · rw [if_pos hb, if_pos hb, if_pos (by omega)]
    · rw [if_neg hb, if_neg hb]
theorem rwrong_ev (hs : smallT l) (hl : l.length ≤ 1000) (s : Nat) : Ev (fun k => drovewayref09_wrong.f k l s) (wrongF l s) :=
  wrong_l0 hs hl s l.length 0 (by omega) (Nat.zero_le _)

/-! ### Sides -/
theorem rsides_l0 (m : Nat) (hm : m ≤ 8) (hs : smallT l) (hl : l.length ≤ 1000) : ∀ d i, 2 ^ m - i = d → i ≤ 2 ^ m → (∀ j, j < i → (wrongF l j).isEmpty = false) → Ev (fun k => drovewayref09_Sides.l0 k m l (i : Int)) (match sidesN m l with | some s => ((s : Int), 0) | none => (0, 10)) := by
  have h8 := pow8 hm
  intro d
  induction d with
  | zero =>
    intro i hd hi hno
    refine Ev.step (f := fun _ => some (0, 10)) (fun k => ?_) ?_
    · rw [drovewayref09_Sides.l0, if_pos (by omega), shl_one (by omega), if_neg (by omega)]
    · have : sidesN m l = none := find_miss (fun j hj => hno j (by omega))
      rw [this]
      exact Ev.now _
  | succ d ih =>
    intro i hd hi hno
    by_cases hq : (wrongF l i).length = 0
    · have hi' : sidesN m l = some i := find_hit (p := fun s => (wrongF l s).isEmpty) (by omega) (by rw [List.isEmpty_iff_length_eq_zero]; exact hq) hno
      rw [hi']
      refine Ev.step (f := fun k => (drovewayref09_wrong.f k l i).bind fun t => (if (t.length : Int) = 0 then (some ((i : Int), 0)) else (drovewayref09_Sides.l0 k m l (wrap64 ((i : Int) + 1))))) (fun k => ?_) (Ev.bind (f := fun k t => (if (t.length : Int) = 0 then (some ((i : Int), 0)) else (drovewayref09_Sides.l0 k m l (wrap64 ((i : Int) + 1))))) (rwrong_ev hs hl i) ?_)
      · rw [drovewayref09_Sides.l0, if_pos (by omega), shl_one (by omega), if_pos (by omega)]
      · exact Ev.congr (fun k => by rw [if_pos (by omega)]) (Ev.now _)
    · refine Ev.step (f := fun k => (drovewayref09_wrong.f k l i).bind fun t => (if (t.length : Int) = 0 then (some ((i : Int), 0)) else (drovewayref09_Sides.l0 k m l (wrap64 ((i : Int) + 1))))) (fun k => ?_) (Ev.bind (f := fun k t => (if (t.length : Int) = 0 then (some ((i : Int), 0)) else (drovewayref09_Sides.l0 k m l (wrap64 ((i : Int) + 1))))) (rwrong_ev hs hl i) ?_)
      · rw [drovewayref09_Sides.l0, if_pos (by omega), shl_one (by omega), if_pos (by omega)]
      · refine Ev.congr (fun k => by rw [if_neg (by omega), wrapS (show i < 2 ^ m by omega) (by omega)]) (ih (i + 1) (by omega) (by omega) fun j hj => ?_)
        by_cases e : j = i
        · subst e
          rw [← Bool.not_eq_true, List.isEmpty_iff_length_eq_zero]; exact hq
        · exact hno j (by omega)
theorem rSides_ev (n : Int) (hl : l.length ≤ 1000) : Ev (fun k => drovewayref09_Sides.f k n l) (sidesF n l) := by
  unfold sidesF
  refine Ev.bind (f := fun k t => (if t = 0 then (drovewayref09_Sides.l0 k n l 0) else (some (0, t)))) (Ties_ev (n := n) hl) ?_
  by_cases h : tiesE n l = 0
  · rw [if_pos h]
    have h1 := tiesE_parts h
    obtain ⟨m, rfl⟩ : ∃ m : Nat, n = m := ⟨n.toNat, by omega⟩
    refine Ev.congr (fun k => by rw [if_pos h]) ?_
    rw [Int.toNat_natCast]
    exact rsides_l0 m (by omega) (tiesE_small h) hl (2 ^ m) 0 (Nat.sub_zero _) (Nat.zero_le _) (fun j hj => absurd hj (Nat.not_lt_zero _))
  · rw [if_neg h]
    exact Ev.congr (fun k => by rw [if_neg h]) (Ev.now _)

/-! ### Switched, Switch, Wrong -/
theorem switched_l0 (hs : smallT l) (hl : l.length ≤ 1000) (s : Nat) : ∀ m i, l.length - i = m → i ≤ l.length → Ev (fun k => drovewayref09_Switched.l0 k l s ((l.take i).map (swT s)) (i : Int)) (switchF l s) := by
  intro m
  induction m with
  | zero =>
    intro i hm hi
    obtain rfl : i = l.length := by omega
    refine Ev.step (f := fun _ => some (switchF l s)) (fun k => ?_) (Ev.now _)
    rw [drovewayref09_Switched.l0, if_neg (by omega), List.take_length]; rfl
  | succ m ih =>
    intro i hm hi
    have hlt : i < l.length := by omega
    refine Ev.step (fun k => ?_) (ih (i + 1) (by omega) (by omega))
    have hg : l.getD i z39 = l[i] := by rw [List.getD_eq_getElem?_getD, List.getElem?_eq_getElem hlt]; rfl
    rw [drovewayref09_Switched.l0, if_pos (by omega), if_pos (by omega), rdT, Across_eq (hs _ (getD_mem z39 (by omega)))]
    simp only [Option.bind_some]
    rw [wrapS hlt (by omega), if_pos (by rw [List.length_map, List.length_take]; omega), List.take_succ_eq_append_getElem hlt, List.map_append, ← hg]
    rfl
theorem rSwitched_ev (hs : smallT l) (hl : l.length ≤ 1000) (s : Nat) : Ev (fun k => drovewayref09_Switched.f k l s) (switchF l s) :=
  switched_l0 hs hl s l.length 0 (by omega) (Nat.zero_le _)
theorem rwith_ev (n : Int) (hl : l.length ≤ 1000) (s : Int) : Ev (fun k => drovewayref09_with.f k n l s) (wrongE n l s) := by
  unfold wrongE
  by_cases h : tiesE n l = 0
  · rw [if_pos h]
    have h1 := tiesE_parts h
    obtain ⟨m, rfl⟩ : ∃ m : Nat, n = m := ⟨n.toNat, by omega⟩
    rw [Int.toNat_natCast]
    refine Ev.bind (f := fun _ t => (if t = 0 then (if s < 0 then (some 2) else (if 0 ≤ (m : Int) then (if s ≥ (shl .i64 1 (m : Int)) then (some 2) else (some t)) else (none))) else (some t))) (Ties_ev (n := (m : Int)) hl) ?_
    refine Ev.congr (f := fun _ => some (if setB m s = true then 0 else 2)) (fun k => ?_) (Ev.now _)
    rw [if_pos h, shl_one (by omega), h]
    unfold setB
    by_cases h0 : s < 0
    · rw [if_pos h0, if_neg (by rw [Bool.and_eq_true, decide_eq_true_iff, decide_eq_true_iff]; omega)]
    · rw [if_neg h0, if_pos (by omega)]
      by_cases h2 : s ≥ ((2 ^ m : Nat) : Int)
      · rw [if_pos h2, if_neg (by rw [Bool.and_eq_true, decide_eq_true_iff, decide_eq_true_iff]; omega)]
      · rw [if_neg h2, if_pos (by rw [Bool.and_eq_true, decide_eq_true_iff, decide_eq_true_iff]; omega)]
  · rw [if_neg h]
    refine Ev.bind (f := fun _ t => (if t = 0 then (if s < 0 then (some 2) else (if 0 ≤ n then (if s ≥ (shl .i64 1 n) then (some 2) else (some t)) else (none))) else (some t))) (Ties_ev (n := n) hl) ?_
    exact Ev.congr (fun k => by rw [if_neg h]) (Ev.now _)
theorem wrongE_zero {n : Int} {s : Int} (h : wrongE n l s = 0) : tiesE n l = 0 ∧ 0 ≤ s ∧ s < ((2 ^ n.toNat : Nat) : Int) := by
  unfold wrongE at h
  by_cases h0 : tiesE n l = 0
  · rw [if_pos h0] at h
    refine ⟨h0, ?_⟩
    by_cases hb : setB n.toNat s = true
    · unfold setB at hb
      simpa using hb
    · rw [if_neg hb] at h; cases h
  · rw [if_neg h0] at h; exact absurd h h0
theorem rSwitch_ev (n : Int) (hl : l.length ≤ 1000) (s : Int) : Ev (fun k => drovewayref09_Switch.f k n l s) (if wrongE n l s = 0 then switchF l s.toNat else [], wrongE n l s) := by
  refine Ev.bind (f := fun k t => (if t = 0 then ((drovewayref09_Switched.f k l s).bind fun t => (some (t, 0))) else (some (([] : List (S39)), t)))) (rwith_ev n hl s) ?_
  by_cases h : wrongE n l s = 0
  · obtain ⟨h1, h2, h3⟩ := wrongE_zero h
    obtain ⟨k, rfl⟩ := Int.eq_ofNat_of_zero_le h2
    rw [if_pos h, h]
    exact Ev.congr (fun k => by rw [if_pos rfl]) (Ev.bind (f := fun _ t => some (t, 0)) (rSwitched_ev (tiesE_small h1) hl k) (Ev.now _))
  · rw [if_neg h]
    exact Ev.congr (fun k => by rw [if_neg h]) (Ev.now _)
theorem rWrong_ev (n : Int) (hl : l.length ≤ 1000) (s : Int) : Ev (fun k => drovewayref09_Wrong.f k n l s) (if wrongE n l s = 0 then wrongF l s.toNat else [], wrongE n l s) := by
  refine Ev.bind (f := fun k t => (if t = 0 then ((drovewayref09_wrong.f k l s).bind fun t => (some (t, 0))) else (some (([] : List Int), t)))) (rwith_ev n hl s) ?_
  by_cases h : wrongE n l s = 0
  · obtain ⟨h1, h2, h3⟩ := wrongE_zero h
    obtain ⟨k, rfl⟩ := Int.eq_ofNat_of_zero_le h2
    rw [if_pos h, h]
    exact Ev.congr (fun k => by rw [if_pos rfl]) (Ev.bind (f := fun _ t => some (t, 0)) (rwrong_ev (tiesE_small h1) hl k) (Ev.now _))
  · rw [if_neg h]
    exact Ev.congr (fun k => by rw [if_neg h]) (Ev.now _)

/-! ### Least -/
theorem rleast_l0 (m : Nat) (hm : m ≤ 8) (hs : smallT l) (hl : l.length ≤ 1000) : ∀ d i, 2 ^ m - i = d → i ≤ 2 ^ m → Ev (fun k => drovewayref09_Least.l0 k m l (leastK l i).1 (leastK l i).2 (i : Int)) (((leastK l (2 ^ m)).1 : Int), (leastK l (2 ^ m)).2, 0) := by
  have h8 := pow8 hm
  intro d
  induction d with
  | zero =>
    intro i hd hi
    obtain rfl : i = 2 ^ m := by omega
    refine Ev.step (f := fun _ => some (((leastK l (2 ^ m)).1 : Int), (leastK l (2 ^ m)).2, 0)) (fun k => ?_) (Ev.now _)
    rw [drovewayref09_Least.l0, if_pos (by omega), shl_one (by omega), if_neg (by omega)]
  | succ d ih =>
    intro i hd hi
    have h2 := ih (i + 1) (by omega) (by omega)
    refine Ev.step (f := fun k => (drovewayref09_wrong.f k l i).bind fun t => (if (t.length : Int) < ((leastK l i).2.length : Int) then (drovewayref09_Least.l0 k m l i t (wrap64 ((i : Int) + 1))) else (drovewayref09_Least.l0 k m l (leastK l i).1 (leastK l i).2 (wrap64 ((i : Int) + 1))))) (fun k => ?_) (Ev.bind (f := fun k t => (if (t.length : Int) < ((leastK l i).2.length : Int) then (drovewayref09_Least.l0 k m l i t (wrap64 ((i : Int) + 1))) else (drovewayref09_Least.l0 k m l (leastK l i).1 (leastK l i).2 (wrap64 ((i : Int) + 1))))) (rwrong_ev hs hl i) ?_)
    · rw [drovewayref09_Least.l0, if_pos (by omega), shl_one (by omega), if_pos (by omega)]
    · refine Ev.congr (fun k => ?_) h2
      rw [wrapS (show i < 2 ^ m by omega) (by omega), leastK]
      by_cases hq : (wrongF l i).length < (leastK l i).2.length
      · rw [if_pos (by omega), if_pos hq]
      · rw [if_neg (by omega), if_neg hq]
theorem rLeast_ev (n : Int) (hl : l.length ≤ 1000) : Ev (fun k => drovewayref09_Least.f k n l) (if tiesE n l = 0 then (((leastK l (2 ^ n.toNat)).1 : Int), (leastK l (2 ^ n.toNat)).2, 0) else (0, [], tiesE n l)) := by
  refine Ev.bind (f := fun k t => (if t = 0 then ((drovewayref09_wrong.f k l 0).bind fun t188 => (drovewayref09_Least.l0 k n l 0 t188 1)) else (some (0, ([] : List Int), t)))) (Ties_ev (n := n) hl) ?_
  by_cases h : tiesE n l = 0
  · rw [if_pos h]
    have h1 := tiesE_parts h
    obtain ⟨m, rfl⟩ : ∃ m : Nat, n = m := ⟨n.toNat, by omega⟩
    have h00 : Ev (fun k => drovewayref09_wrong.f k l 0) (wrongF l 0) := rwrong_ev (tiesE_small h) hl 0
    refine Ev.congr (fun k => by rw [if_pos h]) (Ev.bind (f := fun k t => drovewayref09_Least.l0 k (m : Int) l 0 t 1) h00 ?_)
    rw [Int.toNat_natCast]
    have h2 := rleast_l0 m (by omega) (tiesE_small h) hl (2 ^ m - 1) 1 rfl (Nat.two_pow_pos m)
    have e : leastK l 1 = (0, wrongF l 0) := by
      have e0 : leastK l 0 = (0, wrongF l 0) := rfl
      rw [leastK, e0, if_neg (Nat.lt_irrefl _)]
    rw [e] at h2
    exact h2
  · rw [if_neg h]
    exact Ev.congr (fun k => by rw [if_neg h]) (Ev.now _)
end
end Go.Proofs.Ytaegldcifhgnmaa.B

/- The law package's ties, as the kit's print writes it. -/
namespace Go.Proofs.Ytaegldcifhgnmaa.B
open Go.Proofs.Ytaegldcifhgnmaa.A
open Go.RowKit Go.Proofs.YtaegldcifhgnmaaW.PrintWords Go.Proofs.YtaegldcifhgnmaaW.PrintLast Go.Proofs.YtaegldcifhgnmaaW.PrintMore
section
attribute [local go_sem] max2_int min2_int max_two min_two max_three min_three max_four min_four   -- for this text's walks alone
set_option linter.unusedVariables false
set_option linter.unusedSimpArgs false
theorem eqA39 (d : Nat) (w : World) (x0 y0 : Int) (x1 y1 : Int) (x2 y2 : Bool) :
    (Op.equalIn (d + 2) 39 (.agg #[.int .i64 x0, .int .i64 x1, .bool x2]) (.agg #[.int .i64 y0, .int .i64 y1, .bool y2])).run Try.prog w = .ok (x0 == y0 && (x1 == y1 && (x2 == y2))) w := by
  refine eqA_of Try.underlying39 (by kernel_rfl) ?_
  refine eqf_cons (by rfl) (by go_simp; rfl) (by go_simp; rfl) (by go_simp) ?_
  refine eqf_cons (by rfl) (by go_simp; rfl) (by go_simp; rfl) (by go_simp) ?_
  exact eqf_last (by rfl) (by go_simp; rfl) (by go_simp; rfl) (by go_simp)
attribute [local go_sem high] eqA39
/-! ### drovewaylaw09_ties: function 23 -/
def drovewaylaw09_ties.l0 : Nat → List (S39) → List (S39) → Int → Option (Bool)
  | 0, _, _, _ => none
  | k + 1, x0, x1, x5 => if x5 < (x0.length : Int) then (if 0 ≤ x5 then (if x5 < (x1.length : Int) then (if (!(((rd_T39 x0 x5).f0) == ((rd_T39 x1 x5).f0)) || (!(((rd_T39 x0 x5).f1) == ((rd_T39 x1 x5).f1)) || (!(((rd_T39 x0 x5).f2) == ((rd_T39 x1 x5).f2))))) = true then (some false) else (drovewaylaw09_ties.l0 k x0 x1 (wrap64 (x5 + 1)))) else (none)) else (none)) else (some true)
def drovewaylaw09_ties.f (k : Nat) (l0 : List (S39)) (l1 : List (S39)) : Option (Bool) := if (l0.length : Int) = (l1.length : Int) then (drovewaylaw09_ties.l0 k l0 l1 0) else (some false)
theorem drovewaylaw09_ties.mono_l : ∀ k, (∀ y0 y1 y2, LeO (drovewaylaw09_ties.l0 k y0 y1 y2) (drovewaylaw09_ties.l0 (k + 1) y0 y1 y2))
  | 0 => fun _ _ _ r h => by simp [drovewaylaw09_ties.l0] at h
  | k + 1 => by
    have ih0 := drovewaylaw09_ties.mono_l k
    · intro y0 y1 y2
      unfold drovewaylaw09_ties.l0
      repeat' first
      | (with_reducible exact ih0 _ _ _)
      | (with_reducible exact LeO.refl _)
      | (with_reducible exact LeO.none _)
      | (with_reducible refine LeO.ite ?_ ?_)
      | (with_reducible refine LeO.bind ?_ (fun _ => ?_))
      | exact ih0 _ _ _
      | exact LeO.none _
      | refine LeO.ite ?_ ?_
      | refine LeO.bind ?_ (fun _ => ?_)
theorem drovewaylaw09_ties.mono : ∀ a0 a1 k, LeO (drovewaylaw09_ties.f k a0 a1) (drovewaylaw09_ties.f (k + 1) a0 a1) := by
  intro a0 a1 k
  have ih0 := drovewaylaw09_ties.mono_l k
  unfold drovewaylaw09_ties.f
  repeat' first
      | (with_reducible exact ih0 _ _ _)
      | (with_reducible exact LeO.refl _)
      | (with_reducible exact LeO.none _)
      | (with_reducible refine LeO.ite ?_ ?_)
      | (with_reducible refine LeO.bind ?_ (fun _ => ?_))
      | exact ih0 _ _ _
      | exact LeO.none _
      | refine LeO.ite ?_ ?_
      | refine LeO.bind ?_ (fun _ => ?_)
set_option maxHeartbeats 8000000 in
set_option maxRecDepth 100000 in
theorem drovewaylaw09_ties.calls (k : Nat) (A0 : Option Addr) (c0 : Nat) (l0 : List (S39)) (A1 : Option Addr) (c1 : Nat) (l1 : List (S39)) (r : Bool) (w : World) (hr0 : Kd.C k39 w A0 l0.length l0) (hc0 : l0.length ≤ c0) (hr1 : Kd.C k39 w A1 l1.length l1) (hc1 : l1.length ≤ c1) (h : drovewaylaw09_ties.f k l0 l1 = some r) :
    Calls Try.prog 23 #[.slice A0 l0.length c0, .slice A1 l1.length c1] w fun e w' => e = .returned (.bool r) ∧ Drawn0 w w' := by
  have hu39 := Try.underlying39
  have HR0 := Aside0.mk hr0
  have HC0 := Aside0.mk hc0
  clear hr0 hc0
  have HR1 := Aside0.mk hr1
  have HC1 := Aside0.mk hc1
  clear hr1 hc1
  have H : (if (l0.length : Int) = (l1.length : Int) then (drovewaylaw09_ties.l0 k l0 l1 0) else (some false)) = some r := h
  clear h
  by_cases c3 : (l0.length : Int) = (l1.length : Int)
  · rw [if_pos c3] at H
    have c3b0 : ((l0.length : Int) == (l1.length : Int)) = true := beq_iff_eq.mpr c3
    have c3b1 : ((l0.length : Int) != (l1.length : Int)) = false := bne_eq_false_iff_eq.mpr c3
    have c3b2 : (l0.length == l1.length) = true := by first | simpa using c3 | (simp at c3 ⊢; omega)
    clear c3
    have H' := Aside0.mk H
    clear H
    go_enter Try.func23, Try.ntmps23
    go_wp2
    repeat (go_quiet (fail); try go_wp2)
    go_loopg [5] k (fun kq v5 w' => ∃ (x5_1 : Int), v5 = .int .i64 x5_1 ∧ Aside0 (drovewaylaw09_ties.l0 kq l0 l1 x5_1 = some r) ∧ Aside0 (kq ≤ k) ∧ Drawn0 w w')
    case atStart => exact ⟨(0), (by first | rfl | (simp; done) | (simp [*]; done)), H', ⟨Nat.le_refl _⟩, by repeat (first | exact Drawn0.refl _ | apply Drawn0.step)⟩
    case round =>
      clear H'
      try clear c1
      try clear c2
      try clear p2
      try clear c3
      try clear c3b0
      try clear c3b1
      try clear c3b2
      obtain ⟨x5_1, rfl, HA, HK1, ⟨m1, rfl⟩⟩ := hrel
      cases gk with
      | zero => exact absurd HA.out (by simp [drovewaylaw09_ties.l0])
      | succ k1 =>
        have H := HA.out
        clear HA
        simp only [drovewaylaw09_ties.l0] at H
        by_cases c4 : x5_1 < (l0.length : Int)
        · rw [if_pos c4] at H
          have c4b0 : decide (x5_1 < (l0.length : Int)) = true := decide_eq_true c4
          clear c4
          by_cases c5 : 0 ≤ x5_1
          · rw [if_pos c5] at H
            have c5b0 : decide (0 ≤ x5_1) = true := decide_eq_true c5
            clear c5
            by_cases c6 : x5_1 < (l1.length : Int)
            · rw [if_pos c6] at H
              have c6b0 : decide (x5_1 < (l1.length : Int)) = true := decide_eq_true c6
              clear c6
              by_cases c7 : (!(((rd_T39 l0 x5_1).f0) == ((rd_T39 l1 x5_1).f0)) || (!(((rd_T39 l0 x5_1).f1) == ((rd_T39 l1 x5_1).f1)) || (!(((rd_T39 l0 x5_1).f2) == ((rd_T39 l1 x5_1).f2))))) = true
              · rw [if_pos c7] at H
                have c7b0 : (!(((rd_T39 l0 x5_1).f0) == ((rd_T39 l1 x5_1).f0)) || (!(((rd_T39 l0 x5_1).f1) == ((rd_T39 l1 x5_1).f1)) || (!(((rd_T39 l0 x5_1).f2) == ((rd_T39 l1 x5_1).f2))))) = true := c7
                clear c7
                obtain rfl := Option.some.inj H
                have p204 : 0 ≤ (x5_1 : Int) := of_decide_eq_true (by first | (with_reducible assumption) | assumption)
                have q204 : x5_1 < (l0.length : Int) := of_decide_eq_true (by first | (with_reducible assumption) | assumption)
                obtain ⟨ad204, e204, hx204_0, hx204_1, hx204_2⟩ := at_T39 HR0.out x5_1 p204 q204
                cases e204
                replace p204 := eq_true p204
                replace q204 := eq_true q204
                have p205 : 0 ≤ (x5_1 : Int) := of_decide_eq_true (by first | (with_reducible assumption) | assumption)
                have q205 : x5_1 < (l1.length : Int) := of_decide_eq_true (by first | (with_reducible assumption) | assumption)
                obtain ⟨ad205, e205, hx205_0, hx205_1, hx205_2⟩ := at_T39 HR1.out x5_1 p205 q205
                cases e205
                replace p205 := eq_true p205
                replace q205 := eq_true q205
                go_wp2
                repeat (go_quiet (fail); try go_wp2)
                go_ret
                exact ⟨by first | rfl | (simp; done) | (simp [*]; done), by repeat (first | exact Drawn0.refl _ | apply Drawn0.step)⟩
              · rw [if_neg c7] at H
                have c7b0 : (!(((rd_T39 l0 x5_1).f0) == ((rd_T39 l1 x5_1).f0)) || (!(((rd_T39 l0 x5_1).f1) == ((rd_T39 l1 x5_1).f1)) || (!(((rd_T39 l0 x5_1).f2) == ((rd_T39 l1 x5_1).f2))))) = false := by simpa using c7
                clear c7
                have H' := Aside0.mk H
                clear H
                have p204 : 0 ≤ (x5_1 : Int) := of_decide_eq_true (by first | (with_reducible assumption) | assumption)
                have q204 : x5_1 < (l0.length : Int) := of_decide_eq_true (by first | (with_reducible assumption) | assumption)
                obtain ⟨ad204, e204, hx204_0, hx204_1, hx204_2⟩ := at_T39 HR0.out x5_1 p204 q204
                cases e204
                replace p204 := eq_true p204
                replace q204 := eq_true q204
                have p205 : 0 ≤ (x5_1 : Int) := of_decide_eq_true (by first | (with_reducible assumption) | assumption)
                have q205 : x5_1 < (l1.length : Int) := of_decide_eq_true (by first | (with_reducible assumption) | assumption)
                obtain ⟨ad205, e205, hx205_0, hx205_1, hx205_2⟩ := at_T39 HR1.out x5_1 p205 q205
                cases e205
                replace p205 := eq_true p205
                replace q205 := eq_true q205
                go_wp2
                repeat (go_quiet (fail); try go_wp2)
                go_roundg k1
                case measure => have := HK1.out; omega
                case rel => exact ⟨(wrap64 (x5_1 + 1)), (by first | rfl | (simp; done) | (simp [*]; done)), H', ⟨by have := HK1.out; omega⟩, by repeat (first | exact Drawn0.refl _ | apply Drawn0.step)⟩
            · rw [if_neg c6] at H
              exact absurd H (by simp)
          · rw [if_neg c5] at H
            exact absurd H (by simp)
        · rw [if_neg c4] at H
          have c4b0 : decide (x5_1 < (l0.length : Int)) = false := decide_eq_false c4
          clear c4
          obtain rfl := Option.some.inj H
          go_wp2
          repeat (go_quiet (fail); try go_wp2)
          go_ret
          exact ⟨by first | rfl | (simp; done) | (simp [*]; done), by repeat (first | exact Drawn0.refl _ | apply Drawn0.step)⟩
  · rw [if_neg c3] at H
    have c3b0 : ((l0.length : Int) == (l1.length : Int)) = false := beq_eq_false_iff_ne.mpr c3
    have c3b1 : ((l0.length : Int) != (l1.length : Int)) = true := bne_iff_ne.mpr c3
    have c3b2 : (l0.length == l1.length) = false := by first | simpa using c3 | (simp at c3 ⊢; omega)
    obtain rfl := Option.some.inj H
    go_enter Try.func23, Try.ntmps23
    go_wp2
    repeat (go_quiet (fail); try go_wp2)
    go_ret
    exact ⟨by first | rfl | (simp; done) | (simp [*]; done), by repeat (first | exact Drawn0.refl _ | apply Drawn0.step)⟩

-- NOT PRINTED: function 3 (drovewaylaw09_FeudsSides)

end
end Go.Proofs.Ytaegldcifhgnmaa.B
